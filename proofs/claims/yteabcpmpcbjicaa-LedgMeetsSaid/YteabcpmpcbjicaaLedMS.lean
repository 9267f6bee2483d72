
import Derived.Test.YteabcpmpcbjicaaLedMR
import Derived.Deep.DrawnRows
import Derived.Deep.RegionHeld3
namespace Go.Proofs.Yteabcpmpcbjicaa
set_option linter.unusedVariables false
open Go Go.Proofs Go.RowKit
attribute [local go_sem ↓] Go.wp_at_zero Go.wp_at_succ

set_option maxRecDepth 1000000 in
set_option maxHeartbeats 8000000 in
theorem meets_do {Q : Exit → Act → World → Prop} {u0 u1 u2 u3 u4 u5 u6 u7 u8 u10 u11 u12 u15 u16 u17 u18 u19 u20 u21 u22 u23 u24 u25 u26 u27 u28 u29 u30 u31 u32 u33 u34 u35 u36 u37 u38 u39 u40 u41 u42 u43 u44 u45 u46 u47 u48 u49 u50 u51 u52 u53 u54 u55 u56 u57 u58 u59 u60 u61 u62 u63 u64 u65 u66 u67 u68 u69 u70 u71 u72 u73 u74 u75 u76 u77 u78 u79 u80 u81 u82 u83 u84 u85 u86 u87 u88 u89 u90 u91 u92 u93 u94 u95 u96 u97 u98 u99 u100 u101 u102 u103 u104 u105 u106 u107 u108 u109 u110 u111 u112 u113 u114 u115 u116 u117 u118 u119 u120 u121 u122 u123 u124 u125 u126 u127 u128 u129 u130 u131 u132 u133 u134 u135 u136 u137 u138 u139 u140 u141 u142 u143 u144 u145 u146 u147 u148 u149 u150 u151 u152 u153 u154 u155 u156 u157 u158 u159 : Value} (hP : ∀ c a d v w, Q (.panic c) (Act.put a d v) w → Q (.panic c) a w) {w W : World} {l ga gb n n1 n2 : Nat} {FF : List Nat} {S0 S1 S2 : LS} {e1 e2 : Ent} {c1 p1 i1 c2 p2 i2 : Int} {T1 T2 : List Trd} (HX : Hid (LedX w W l n FF S0 0)) (nA0 : ga ∉ FF) (nB0 : gb ∉ FF) (HA : Hid (Blk W ga 73 (ec e1))) (HB : Hid (Blk W gb 73 (ec e2))) (HE1 : Hid e1.Ok) (HE2 : Hid e2.Ok) (HD1 : Hid (lDo n S0 e1 = (S1, ⟨c1, p1, i1, T1⟩))) (HD2 : Hid (lDo n S1 e2 = (S2, ⟨c2, p2, i2, T2⟩))) (HN1 : Hid (T1.length = n1)) (HN2 : Hid (T2.length = n2))
    (hQ : ∀ (v : World) (g15 g16 : Nat) (F' : List Nat) (a1 : Option Addr) (d1 : Nat) (a2 : Option Addr) (d2 : Nat) (_ : LedX w v l n F' S2 2) (_ : RowF tc v 85 a2 T2) (_ : Blk v g15 68 [.int .i64 c1, .int .u64 p1, .int .i64 i1, .slice a1 n1 d1]) (_ : Blk v g16 68 [.int .i64 c2, .int .u64 p2, .int .i64 i2, .slice a2 n2 d2]) (x53 x54 x55 x56 x57 x58 : Value), Q .normal ⟨#[u0, u1, u2, u3, u4, u5, u6, u7, u8, .pointer (some ⟨l, 0, none⟩), u10, u11, u12, .pointer (some ⟨ga, 0, none⟩), .pointer (some ⟨gb, 0, none⟩), .pointer (some ⟨g15, 0, none⟩), .pointer (some ⟨g16, 0, none⟩), u17, u18, u19, u20, u21, u22, u23, u24, u25, u26, u27, u28, u29, u30, u31, u32, u33, u34, u35, u36, u37, u38, u39, u40, u41, u42, u43, u44, u45, u46, u47, u48, u49, u50, u51, u52, x53, x54, x55, x56, x57, x58, u59, u60, u61, u62, u63, u64, u65, u66, u67, u68, u69, u70, u71, u72, u73, u74, u75, u76, u77, u78, u79, u80, u81, u82, u83, u84, u85, u86, u87, u88, u89, u90, u91, u92, u93, u94, u95, u96, u97, u98, u99, u100, u101, u102, u103, u104, u105, u106, u107, u108, u109, u110, u111, u112, u113, u114, u115, u116, u117, u118, u119, u120, u121, u122, u123, u124, u125, u126, u127, u128, u129, u130, u131, u132, u133, u134, u135, u136, u137, u138, u139, u140, u141, u142, u143, u144, u145, u146, u147, u148, u149, u150, u151, u152, u153, u154, u155, u156, u157, u158, u159], []⟩ v) :
    Code.wp Try.prog (regionOf Try.f14 11) Q ⟨#[u0, u1, u2, u3, u4, u5, u6, u7, u8, .pointer (some ⟨l, 0, none⟩), u10, u11, u12, .pointer (some ⟨ga, 0, none⟩), .pointer (some ⟨gb, 0, none⟩), u15, u16, u17, u18, u19, u20, u21, u22, u23, u24, u25, u26, u27, u28, u29, u30, u31, u32, u33, u34, u35, u36, u37, u38, u39, u40, u41, u42, u43, u44, u45, u46, u47, u48, u49, u50, u51, u52, u53, u54, u55, u56, u57, u58, u59, u60, u61, u62, u63, u64, u65, u66, u67, u68, u69, u70, u71, u72, u73, u74, u75, u76, u77, u78, u79, u80, u81, u82, u83, u84, u85, u86, u87, u88, u89, u90, u91, u92, u93, u94, u95, u96, u97, u98, u99, u100, u101, u102, u103, u104, u105, u106, u107, u108, u109, u110, u111, u112, u113, u114, u115, u116, u117, u118, u119, u120, u121, u122, u123, u124, u125, u126, u127, u128, u129, u130, u131, u132, u133, u134, u135, u136, u137, u138, u139, u140, u141, u142, u143, u144, u145, u146, u147, u148, u149, u150, u151, u152, u153, u154, u155, u156, u157, u158, u159], []⟩ W := by
  conv => arg 2; whnf
  have la := HA.out.lt
  have lb := HB.out.lt
  have hxs := HX.out.c.size
  refine wp_region_held_drew (S := (fun w' => w'.cell? ⟨ga, 0, none⟩ = some (.int .i64 e1.client) ∧ w'.cell? ⟨ga, 1, none⟩ = some (.int .u64 e1.nonce) ∧ w'.cell? ⟨ga, 2, none⟩ = some (.int .u64 e1.fee) ∧ w'.cell? ⟨ga, 3, none⟩ = some (.bool e1.good) ∧ w'.cell? ⟨ga, 4, none⟩ = some (.int .i64 e1.tx.kind) ∧ w'.cell? ⟨ga, 5, none⟩ = some (.int .i64 e1.tx.asset) ∧ w'.cell? ⟨ga, 6, none⟩ = some (.int .i64 e1.tx.dst) ∧ w'.cell? ⟨ga, 7, none⟩ = some (.bool e1.tx.buy) ∧ w'.cell? ⟨ga, 8, none⟩ = some (.int .u64 e1.tx.price) ∧ w'.cell? ⟨ga, 9, none⟩ = some (.int .u64 e1.tx.qty) ∧ w'.cell? ⟨ga, 10, none⟩ = some (.int .i64 e1.tx.id) ∧ w'.cell? ⟨gb, 0, none⟩ = some (.int .i64 e2.client) ∧ w'.cell? ⟨gb, 1, none⟩ = some (.int .u64 e2.nonce) ∧ w'.cell? ⟨gb, 2, none⟩ = some (.int .u64 e2.fee) ∧ w'.cell? ⟨gb, 3, none⟩ = some (.bool e2.good) ∧ w'.cell? ⟨gb, 4, none⟩ = some (.int .i64 e2.tx.kind) ∧ w'.cell? ⟨gb, 5, none⟩ = some (.int .i64 e2.tx.asset) ∧ w'.cell? ⟨gb, 6, none⟩ = some (.int .i64 e2.tx.dst) ∧ w'.cell? ⟨gb, 7, none⟩ = some (.bool e2.tx.buy) ∧ w'.cell? ⟨gb, 8, none⟩ = some (.int .u64 e2.tx.price) ∧ w'.cell? ⟨gb, 9, none⟩ = some (.int .u64 e2.tx.qty) ∧ w'.cell? ⟨gb, 10, none⟩ = some (.int .i64 e2.tx.id))) (by kernel_rfl) ⟨HA.out.at (i := 0) rfl, HA.out.at (i := 1) rfl, HA.out.at (i := 2) rfl, HA.out.at (i := 3) rfl, HA.out.at (i := 4) rfl, HA.out.at (i := 5) rfl, HA.out.at (i := 6) rfl, HA.out.at (i := 7) rfl, HA.out.at (i := 8) rfl, HA.out.at (i := 9) rfl, HA.out.at (i := 10) rfl, HB.out.at (i := 0) rfl, HB.out.at (i := 1) rfl, HB.out.at (i := 2) rfl, HB.out.at (i := 3) rfl, HB.out.at (i := 4) rfl, HB.out.at (i := 5) rfl, HB.out.at (i := 6) rfl, HB.out.at (i := 7) rfl, HB.out.at (i := 8) rfl, HB.out.at (i := 9) rfl, HB.out.at (i := 10) rfl⟩ (fun _ => ?_)
  have hS : W.drew.cell? ⟨ga, 0, none⟩ = some (.int .i64 e1.client) ∧ W.drew.cell? ⟨ga, 1, none⟩ = some (.int .u64 e1.nonce) ∧ W.drew.cell? ⟨ga, 2, none⟩ = some (.int .u64 e1.fee) ∧ W.drew.cell? ⟨ga, 3, none⟩ = some (.bool e1.good) ∧ W.drew.cell? ⟨ga, 4, none⟩ = some (.int .i64 e1.tx.kind) ∧ W.drew.cell? ⟨ga, 5, none⟩ = some (.int .i64 e1.tx.asset) ∧ W.drew.cell? ⟨ga, 6, none⟩ = some (.int .i64 e1.tx.dst) ∧ W.drew.cell? ⟨ga, 7, none⟩ = some (.bool e1.tx.buy) ∧ W.drew.cell? ⟨ga, 8, none⟩ = some (.int .u64 e1.tx.price) ∧ W.drew.cell? ⟨ga, 9, none⟩ = some (.int .u64 e1.tx.qty) ∧ W.drew.cell? ⟨ga, 10, none⟩ = some (.int .i64 e1.tx.id) ∧ W.drew.cell? ⟨gb, 0, none⟩ = some (.int .i64 e2.client) ∧ W.drew.cell? ⟨gb, 1, none⟩ = some (.int .u64 e2.nonce) ∧ W.drew.cell? ⟨gb, 2, none⟩ = some (.int .u64 e2.fee) ∧ W.drew.cell? ⟨gb, 3, none⟩ = some (.bool e2.good) ∧ W.drew.cell? ⟨gb, 4, none⟩ = some (.int .i64 e2.tx.kind) ∧ W.drew.cell? ⟨gb, 5, none⟩ = some (.int .i64 e2.tx.asset) ∧ W.drew.cell? ⟨gb, 6, none⟩ = some (.int .i64 e2.tx.dst) ∧ W.drew.cell? ⟨gb, 7, none⟩ = some (.bool e2.tx.buy) ∧ W.drew.cell? ⟨gb, 8, none⟩ = some (.int .u64 e2.tx.price) ∧ W.drew.cell? ⟨gb, 9, none⟩ = some (.int .u64 e2.tx.qty) ∧ W.drew.cell? ⟨gb, 10, none⟩ = some (.int .i64 e2.tx.id) := ⟨HA.out.at (i := 0) rfl, HA.out.at (i := 1) rfl, HA.out.at (i := 2) rfl, HA.out.at (i := 3) rfl, HA.out.at (i := 4) rfl, HA.out.at (i := 5) rfl, HA.out.at (i := 6) rfl, HA.out.at (i := 7) rfl, HA.out.at (i := 8) rfl, HA.out.at (i := 9) rfl, HA.out.at (i := 10) rfl, HB.out.at (i := 0) rfl, HB.out.at (i := 1) rfl, HB.out.at (i := 2) rfl, HB.out.at (i := 3) rfl, HB.out.at (i := 4) rfl, HB.out.at (i := 5) rfl, HB.out.at (i := 6) rfl, HB.out.at (i := 7) rfl, HB.out.at (i := 8) rfl, HB.out.at (i := 9) rfl, HB.out.at (i := 10) rfl⟩
  have chW : Chg FF W W.drew := (Chg.refl _ W).drew
  have LED_0 := (HX.out.to (Chg.refl [] W).drew)
  generalize hWD : W.drew = v0 at *
  refine wpAnyH_take (i := 0) (v := ?_) rfl (by kernel_rfl) (by kernel_rfl) (by kernel_rfl) (fun c a w h => hP c a _ _ w h) (Or.inl ⟨by rfl, ?_⟩) hS ?_
  rotate_left
  · (intro w hSw; (try dsimp only at hSw); go_simp; (try (with_reducible rfl)))
  change wpAnyH _ _ _ _ _ _ _ (Act.put _ (some 53) _) _
  simp only [Act.put, List.setIfInBounds_toArray, List.set_cons_succ, List.set_cons_zero]
  refine wpAnyH_take (i := 1) (v := ?_) rfl (by kernel_rfl) (by kernel_rfl) (by kernel_rfl) (fun c a w h => hP c a _ _ w h) (Or.inl ⟨by rfl, ?_⟩) hS ?_
  rotate_left
  · (intro w hSw; (try dsimp only at hSw); go_simp; (try (with_reducible rfl)))
  change wpAnyH _ _ _ _ _ _ _ (Act.put _ (some 54) _) _
  simp only [Act.put, List.setIfInBounds_toArray, List.set_cons_succ, List.set_cons_zero]
  refine wpAnyH_take (i := 3) (v := ?_) rfl (by kernel_rfl) (by kernel_rfl) (by kernel_rfl) (fun c a w h => hP c a _ _ w h) (Or.inl ⟨by rfl, ?_⟩) hS ?_
  rotate_left
  · (intro w hSw; (try dsimp only at hSw); go_simp; (try (with_reducible rfl)))
  change wpAnyH _ _ _ _ _ _ _ (Act.put _ (some 56) _) _
  simp only [Act.put, List.setIfInBounds_toArray, List.set_cons_succ, List.set_cons_zero]
  refine wpAnyH_take (i := 4) (v := ?_) rfl (by kernel_rfl) (by kernel_rfl) (by kernel_rfl) (fun c a w h => hP c a _ _ w h) (Or.inl ⟨by rfl, ?_⟩) hS ?_
  rotate_left
  · (intro w hSw; (try dsimp only at hSw); go_simp; (try (with_reducible rfl)))
  change wpAnyH _ _ _ _ _ _ _ (Act.put _ (some 57) _) _
  simp only [Act.put, List.setIfInBounds_toArray, List.set_cons_succ, List.set_cons_zero]
  refine wpAnyH_ready (rs := [2, 6, 7]) (by kernel_rfl) (by simp) (AllReadyH.cons rfl (fun K hK => ?_) (AllReadyH.cons rfl (fun K hK => ?_) (AllReadyH.cons rfl (fun K hK => ?_) (AllReadyH.nil))))
  · skip
    have hS01 := hS
    go_simp
    have sz2 := chW.size
    refine (lxDo LED_0 (by omega) e1 HE1.out S1 ⟨c1, p1, i1, T1⟩ HD1.out).mono ?_
    dsimp only
    rw [HN1.out]
    rintro y v1 ⟨a1, d1, F2_, rfl, hN1, hL2, cc1, gr2⟩
    have nA1 : ga ∉ F2_ := fun hm => (gr2 _ hm).elim nA0 fun e => by omega
    have nB1 : gb ∉ F2_ := fun hm => (gr2 _ hm).elim nB0 fun e => by omega
    have sw2 := cc1.size
    have hS1 : v1.cell? ⟨ga, 0, none⟩ = some (.int .i64 e1.client) ∧ v1.cell? ⟨ga, 1, none⟩ = some (.int .u64 e1.nonce) ∧ v1.cell? ⟨ga, 2, none⟩ = some (.int .u64 e1.fee) ∧ v1.cell? ⟨ga, 3, none⟩ = some (.bool e1.good) ∧ v1.cell? ⟨ga, 4, none⟩ = some (.int .i64 e1.tx.kind) ∧ v1.cell? ⟨ga, 5, none⟩ = some (.int .i64 e1.tx.asset) ∧ v1.cell? ⟨ga, 6, none⟩ = some (.int .i64 e1.tx.dst) ∧ v1.cell? ⟨ga, 7, none⟩ = some (.bool e1.tx.buy) ∧ v1.cell? ⟨ga, 8, none⟩ = some (.int .u64 e1.tx.price) ∧ v1.cell? ⟨ga, 9, none⟩ = some (.int .u64 e1.tx.qty) ∧ v1.cell? ⟨ga, 10, none⟩ = some (.int .i64 e1.tx.id) ∧ v1.cell? ⟨gb, 0, none⟩ = some (.int .i64 e2.client) ∧ v1.cell? ⟨gb, 1, none⟩ = some (.int .u64 e2.nonce) ∧ v1.cell? ⟨gb, 2, none⟩ = some (.int .u64 e2.fee) ∧ v1.cell? ⟨gb, 3, none⟩ = some (.bool e2.good) ∧ v1.cell? ⟨gb, 4, none⟩ = some (.int .i64 e2.tx.kind) ∧ v1.cell? ⟨gb, 5, none⟩ = some (.int .i64 e2.tx.asset) ∧ v1.cell? ⟨gb, 6, none⟩ = some (.int .i64 e2.tx.dst) ∧ v1.cell? ⟨gb, 7, none⟩ = some (.bool e2.tx.buy) ∧ v1.cell? ⟨gb, 8, none⟩ = some (.int .u64 e2.tx.price) ∧ v1.cell? ⟨gb, 9, none⟩ = some (.int .u64 e2.tx.qty) ∧ v1.cell? ⟨gb, 10, none⟩ = some (.int .i64 e2.tx.id) := ⟨cc1.cell hS.1 (by first | exact nA0 | exact nB0), cc1.cell hS.2.1 (by first | exact nA0 | exact nB0), cc1.cell hS.2.2.1 (by first | exact nA0 | exact nB0), cc1.cell hS.2.2.2.1 (by first | exact nA0 | exact nB0), cc1.cell hS.2.2.2.2.1 (by first | exact nA0 | exact nB0), cc1.cell hS.2.2.2.2.2.1 (by first | exact nA0 | exact nB0), cc1.cell hS.2.2.2.2.2.2.1 (by first | exact nA0 | exact nB0), cc1.cell hS.2.2.2.2.2.2.2.1 (by first | exact nA0 | exact nB0), cc1.cell hS.2.2.2.2.2.2.2.2.1 (by first | exact nA0 | exact nB0), cc1.cell hS.2.2.2.2.2.2.2.2.2.1 (by first | exact nA0 | exact nB0), cc1.cell hS.2.2.2.2.2.2.2.2.2.2.1 (by first | exact nA0 | exact nB0), cc1.cell hS.2.2.2.2.2.2.2.2.2.2.2.1 (by first | exact nA0 | exact nB0), cc1.cell hS.2.2.2.2.2.2.2.2.2.2.2.2.1 (by first | exact nA0 | exact nB0), cc1.cell hS.2.2.2.2.2.2.2.2.2.2.2.2.2.1 (by first | exact nA0 | exact nB0), cc1.cell hS.2.2.2.2.2.2.2.2.2.2.2.2.2.2.1 (by first | exact nA0 | exact nB0), cc1.cell hS.2.2.2.2.2.2.2.2.2.2.2.2.2.2.2.1 (by first | exact nA0 | exact nB0), cc1.cell hS.2.2.2.2.2.2.2.2.2.2.2.2.2.2.2.2.1 (by first | exact nA0 | exact nB0), cc1.cell hS.2.2.2.2.2.2.2.2.2.2.2.2.2.2.2.2.2.1 (by first | exact nA0 | exact nB0), cc1.cell hS.2.2.2.2.2.2.2.2.2.2.2.2.2.2.2.2.2.2.1 (by first | exact nA0 | exact nB0), cc1.cell hS.2.2.2.2.2.2.2.2.2.2.2.2.2.2.2.2.2.2.2.1 (by first | exact nA0 | exact nB0), cc1.cell hS.2.2.2.2.2.2.2.2.2.2.2.2.2.2.2.2.2.2.2.2.1 (by first | exact nA0 | exact nB0), cc1.cell hS.2.2.2.2.2.2.2.2.2.2.2.2.2.2.2.2.2.2.2.2.2 (by first | exact nA0 | exact nB0)⟩
    have ch1 := (chW).trans' cc1 (fun z hz => .inl hz)
    go_wp2_with fail
    refine hK.out _ _ hS1 (fun hHeld => ?_)
    clear hK K
    try simp only [Act.put, List.setIfInBounds_toArray, List.set_cons_succ, List.set_cons_zero]
    refine wpAnyH_ready (rs := [5, 6, 7]) (by kernel_rfl) (by simp) (AllReadyH.cons rfl (fun K hK => ?_) (AllReadyH.cons rfl (fun K hK => ?_) (AllReadyH.cons rfl (fun K hK => ?_) (AllReadyH.nil))))
    · skip
      have hS02 := hS1
      go_simp
      have sz5 := ch1.size
      refine (lxDo hL2 (by omega) e2 HE2.out S2 ⟨c2, p2, i2, T2⟩ HD2.out).mono ?_
      dsimp only
      rw [HN2.out]
      rintro y v2 ⟨a2, d2, F5_, rfl, hN2, hL5, cc2, gr5⟩
      have nA2 : ga ∉ F5_ := fun hm => (gr5 _ hm).elim nA1 fun e => by omega
      have nB2 : gb ∉ F5_ := fun hm => (gr5 _ hm).elim nB1 fun e => by omega
      have sw5 := cc2.size
      have hS2 : v2.cell? ⟨ga, 0, none⟩ = some (.int .i64 e1.client) ∧ v2.cell? ⟨ga, 1, none⟩ = some (.int .u64 e1.nonce) ∧ v2.cell? ⟨ga, 2, none⟩ = some (.int .u64 e1.fee) ∧ v2.cell? ⟨ga, 3, none⟩ = some (.bool e1.good) ∧ v2.cell? ⟨ga, 4, none⟩ = some (.int .i64 e1.tx.kind) ∧ v2.cell? ⟨ga, 5, none⟩ = some (.int .i64 e1.tx.asset) ∧ v2.cell? ⟨ga, 6, none⟩ = some (.int .i64 e1.tx.dst) ∧ v2.cell? ⟨ga, 7, none⟩ = some (.bool e1.tx.buy) ∧ v2.cell? ⟨ga, 8, none⟩ = some (.int .u64 e1.tx.price) ∧ v2.cell? ⟨ga, 9, none⟩ = some (.int .u64 e1.tx.qty) ∧ v2.cell? ⟨ga, 10, none⟩ = some (.int .i64 e1.tx.id) ∧ v2.cell? ⟨gb, 0, none⟩ = some (.int .i64 e2.client) ∧ v2.cell? ⟨gb, 1, none⟩ = some (.int .u64 e2.nonce) ∧ v2.cell? ⟨gb, 2, none⟩ = some (.int .u64 e2.fee) ∧ v2.cell? ⟨gb, 3, none⟩ = some (.bool e2.good) ∧ v2.cell? ⟨gb, 4, none⟩ = some (.int .i64 e2.tx.kind) ∧ v2.cell? ⟨gb, 5, none⟩ = some (.int .i64 e2.tx.asset) ∧ v2.cell? ⟨gb, 6, none⟩ = some (.int .i64 e2.tx.dst) ∧ v2.cell? ⟨gb, 7, none⟩ = some (.bool e2.tx.buy) ∧ v2.cell? ⟨gb, 8, none⟩ = some (.int .u64 e2.tx.price) ∧ v2.cell? ⟨gb, 9, none⟩ = some (.int .u64 e2.tx.qty) ∧ v2.cell? ⟨gb, 10, none⟩ = some (.int .i64 e2.tx.id) := ⟨cc2.cell hS1.1 (by first | exact nA1 | exact nB1), cc2.cell hS1.2.1 (by first | exact nA1 | exact nB1), cc2.cell hS1.2.2.1 (by first | exact nA1 | exact nB1), cc2.cell hS1.2.2.2.1 (by first | exact nA1 | exact nB1), cc2.cell hS1.2.2.2.2.1 (by first | exact nA1 | exact nB1), cc2.cell hS1.2.2.2.2.2.1 (by first | exact nA1 | exact nB1), cc2.cell hS1.2.2.2.2.2.2.1 (by first | exact nA1 | exact nB1), cc2.cell hS1.2.2.2.2.2.2.2.1 (by first | exact nA1 | exact nB1), cc2.cell hS1.2.2.2.2.2.2.2.2.1 (by first | exact nA1 | exact nB1), cc2.cell hS1.2.2.2.2.2.2.2.2.2.1 (by first | exact nA1 | exact nB1), cc2.cell hS1.2.2.2.2.2.2.2.2.2.2.1 (by first | exact nA1 | exact nB1), cc2.cell hS1.2.2.2.2.2.2.2.2.2.2.2.1 (by first | exact nA1 | exact nB1), cc2.cell hS1.2.2.2.2.2.2.2.2.2.2.2.2.1 (by first | exact nA1 | exact nB1), cc2.cell hS1.2.2.2.2.2.2.2.2.2.2.2.2.2.1 (by first | exact nA1 | exact nB1), cc2.cell hS1.2.2.2.2.2.2.2.2.2.2.2.2.2.2.1 (by first | exact nA1 | exact nB1), cc2.cell hS1.2.2.2.2.2.2.2.2.2.2.2.2.2.2.2.1 (by first | exact nA1 | exact nB1), cc2.cell hS1.2.2.2.2.2.2.2.2.2.2.2.2.2.2.2.2.1 (by first | exact nA1 | exact nB1), cc2.cell hS1.2.2.2.2.2.2.2.2.2.2.2.2.2.2.2.2.2.1 (by first | exact nA1 | exact nB1), cc2.cell hS1.2.2.2.2.2.2.2.2.2.2.2.2.2.2.2.2.2.2.1 (by first | exact nA1 | exact nB1), cc2.cell hS1.2.2.2.2.2.2.2.2.2.2.2.2.2.2.2.2.2.2.2.1 (by first | exact nA1 | exact nB1), cc2.cell hS1.2.2.2.2.2.2.2.2.2.2.2.2.2.2.2.2.2.2.2.2.1 (by first | exact nA1 | exact nB1), cc2.cell hS1.2.2.2.2.2.2.2.2.2.2.2.2.2.2.2.2.2.2.2.2.2 (by first | exact nA1 | exact nB1)⟩
      have ch2 := (ch1).trans' cc2 (fun z hz => (gr2 z hz).imp id fun e => by omega)
      go_wp2_with fail
      refine hK.out _ _ hS2 (fun hHeld => ?_)
      clear hK K
      try simp only [Act.put, List.setIfInBounds_toArray, List.set_cons_succ, List.set_cons_zero]
      refine wpAnyH_ready (rs := [6, 7]) (by kernel_rfl) (by simp) (AllReadyH.cons rfl (fun K hK => ?_) (AllReadyH.cons rfl (fun K hK => ?_) (AllReadyH.nil)))
      · skip
        have hS03 := hS2
        have cc3 : Chg [] v2 (v2.alloc (.cells #[.int .i64 0, .int .u64 0, .int .i64 0, .slice none 0 0] 68)) := (Chg.refl _ _).alloc _
        have Bg15 : Blk (v2.alloc (.cells #[.int .i64 0, .int .u64 0, .int .i64 0, .slice none 0 0] 68)) v2.heap.size 68 [.int .i64 0, .int .u64 0, .int .i64 0, .slice none 0 0] := Blk.new _ _ _
        have Lg15 := ch2.size
        have N153 : v2.heap.size ∉ F5_ := fun hm => by have := (hL5.lt _ hm).2; omega
        have sz_3 := cc3.size
        go_simp
        generalize hg15 : v2.heap.size = g15 at *
        generalize v2.alloc _ = v3 at *
        have LED3 := hL5.to cc3
        have ROX3 := hN2.btw.chg cc3 (by simp)
        have hS3 : v3.cell? ⟨ga, 0, none⟩ = some (.int .i64 e1.client) ∧ v3.cell? ⟨ga, 1, none⟩ = some (.int .u64 e1.nonce) ∧ v3.cell? ⟨ga, 2, none⟩ = some (.int .u64 e1.fee) ∧ v3.cell? ⟨ga, 3, none⟩ = some (.bool e1.good) ∧ v3.cell? ⟨ga, 4, none⟩ = some (.int .i64 e1.tx.kind) ∧ v3.cell? ⟨ga, 5, none⟩ = some (.int .i64 e1.tx.asset) ∧ v3.cell? ⟨ga, 6, none⟩ = some (.int .i64 e1.tx.dst) ∧ v3.cell? ⟨ga, 7, none⟩ = some (.bool e1.tx.buy) ∧ v3.cell? ⟨ga, 8, none⟩ = some (.int .u64 e1.tx.price) ∧ v3.cell? ⟨ga, 9, none⟩ = some (.int .u64 e1.tx.qty) ∧ v3.cell? ⟨ga, 10, none⟩ = some (.int .i64 e1.tx.id) ∧ v3.cell? ⟨gb, 0, none⟩ = some (.int .i64 e2.client) ∧ v3.cell? ⟨gb, 1, none⟩ = some (.int .u64 e2.nonce) ∧ v3.cell? ⟨gb, 2, none⟩ = some (.int .u64 e2.fee) ∧ v3.cell? ⟨gb, 3, none⟩ = some (.bool e2.good) ∧ v3.cell? ⟨gb, 4, none⟩ = some (.int .i64 e2.tx.kind) ∧ v3.cell? ⟨gb, 5, none⟩ = some (.int .i64 e2.tx.asset) ∧ v3.cell? ⟨gb, 6, none⟩ = some (.int .i64 e2.tx.dst) ∧ v3.cell? ⟨gb, 7, none⟩ = some (.bool e2.tx.buy) ∧ v3.cell? ⟨gb, 8, none⟩ = some (.int .u64 e2.tx.price) ∧ v3.cell? ⟨gb, 9, none⟩ = some (.int .u64 e2.tx.qty) ∧ v3.cell? ⟨gb, 10, none⟩ = some (.int .i64 e2.tx.id) := ⟨cc3.cell hS2.1 (by simp), cc3.cell hS2.2.1 (by simp), cc3.cell hS2.2.2.1 (by simp), cc3.cell hS2.2.2.2.1 (by simp), cc3.cell hS2.2.2.2.2.1 (by simp), cc3.cell hS2.2.2.2.2.2.1 (by simp), cc3.cell hS2.2.2.2.2.2.2.1 (by simp), cc3.cell hS2.2.2.2.2.2.2.2.1 (by simp), cc3.cell hS2.2.2.2.2.2.2.2.2.1 (by simp), cc3.cell hS2.2.2.2.2.2.2.2.2.2.1 (by simp), cc3.cell hS2.2.2.2.2.2.2.2.2.2.2.1 (by simp), cc3.cell hS2.2.2.2.2.2.2.2.2.2.2.2.1 (by simp), cc3.cell hS2.2.2.2.2.2.2.2.2.2.2.2.2.1 (by simp), cc3.cell hS2.2.2.2.2.2.2.2.2.2.2.2.2.2.1 (by simp), cc3.cell hS2.2.2.2.2.2.2.2.2.2.2.2.2.2.2.1 (by simp), cc3.cell hS2.2.2.2.2.2.2.2.2.2.2.2.2.2.2.2.1 (by simp), cc3.cell hS2.2.2.2.2.2.2.2.2.2.2.2.2.2.2.2.2.1 (by simp), cc3.cell hS2.2.2.2.2.2.2.2.2.2.2.2.2.2.2.2.2.2.1 (by simp), cc3.cell hS2.2.2.2.2.2.2.2.2.2.2.2.2.2.2.2.2.2.2.1 (by simp), cc3.cell hS2.2.2.2.2.2.2.2.2.2.2.2.2.2.2.2.2.2.2.2.1 (by simp), cc3.cell hS2.2.2.2.2.2.2.2.2.2.2.2.2.2.2.2.2.2.2.2.2.1 (by simp), cc3.cell hS2.2.2.2.2.2.2.2.2.2.2.2.2.2.2.2.2.2.2.2.2.2 (by simp)⟩
        have ch3 := (ch2).trans' cc3 (by simp)
        refine hK.out _ _ hS3 (fun hHeld => ?_)
        clear hK K
        try simp only [Act.put, List.setIfInBounds_toArray, List.set_cons_succ, List.set_cons_zero]
        refine wpAnyH_ready (rs := [7]) (by kernel_rfl) (by simp) (AllReadyH.cons rfl (fun K hK => ?_) (AllReadyH.nil))
        have hS04 := hS3
        have cc4 : Chg [] v3 (v3.alloc (.cells #[.int .i64 0, .int .u64 0, .int .i64 0, .slice none 0 0] 68)) := (Chg.refl _ _).alloc _
        have Bg16 : Blk (v3.alloc (.cells #[.int .i64 0, .int .u64 0, .int .i64 0, .slice none 0 0] 68)) v3.heap.size 68 [.int .i64 0, .int .u64 0, .int .i64 0, .slice none 0 0] := Blk.new _ _ _
        have Lg16 := ch3.size
        have ltg15_4 := Bg15.lt
        have N164 : v3.heap.size ∉ F5_ := fun hm => by have := (LED3.lt _ hm).2; omega
        have sz_4 := cc4.size
        go_simp
        generalize hg16 : v3.heap.size = g16 at *
        generalize v3.alloc _ = v4 at *
        have LED4 := LED3.to cc4
        have ROX4 := ROX3.chg cc4 (by simp)
        have N154 := N153
        have g15_4 := Bg15.chg cc4 (by simp)
        have hS4 : v4.cell? ⟨ga, 0, none⟩ = some (.int .i64 e1.client) ∧ v4.cell? ⟨ga, 1, none⟩ = some (.int .u64 e1.nonce) ∧ v4.cell? ⟨ga, 2, none⟩ = some (.int .u64 e1.fee) ∧ v4.cell? ⟨ga, 3, none⟩ = some (.bool e1.good) ∧ v4.cell? ⟨ga, 4, none⟩ = some (.int .i64 e1.tx.kind) ∧ v4.cell? ⟨ga, 5, none⟩ = some (.int .i64 e1.tx.asset) ∧ v4.cell? ⟨ga, 6, none⟩ = some (.int .i64 e1.tx.dst) ∧ v4.cell? ⟨ga, 7, none⟩ = some (.bool e1.tx.buy) ∧ v4.cell? ⟨ga, 8, none⟩ = some (.int .u64 e1.tx.price) ∧ v4.cell? ⟨ga, 9, none⟩ = some (.int .u64 e1.tx.qty) ∧ v4.cell? ⟨ga, 10, none⟩ = some (.int .i64 e1.tx.id) ∧ v4.cell? ⟨gb, 0, none⟩ = some (.int .i64 e2.client) ∧ v4.cell? ⟨gb, 1, none⟩ = some (.int .u64 e2.nonce) ∧ v4.cell? ⟨gb, 2, none⟩ = some (.int .u64 e2.fee) ∧ v4.cell? ⟨gb, 3, none⟩ = some (.bool e2.good) ∧ v4.cell? ⟨gb, 4, none⟩ = some (.int .i64 e2.tx.kind) ∧ v4.cell? ⟨gb, 5, none⟩ = some (.int .i64 e2.tx.asset) ∧ v4.cell? ⟨gb, 6, none⟩ = some (.int .i64 e2.tx.dst) ∧ v4.cell? ⟨gb, 7, none⟩ = some (.bool e2.tx.buy) ∧ v4.cell? ⟨gb, 8, none⟩ = some (.int .u64 e2.tx.price) ∧ v4.cell? ⟨gb, 9, none⟩ = some (.int .u64 e2.tx.qty) ∧ v4.cell? ⟨gb, 10, none⟩ = some (.int .i64 e2.tx.id) := ⟨cc4.cell hS3.1 (by simp), cc4.cell hS3.2.1 (by simp), cc4.cell hS3.2.2.1 (by simp), cc4.cell hS3.2.2.2.1 (by simp), cc4.cell hS3.2.2.2.2.1 (by simp), cc4.cell hS3.2.2.2.2.2.1 (by simp), cc4.cell hS3.2.2.2.2.2.2.1 (by simp), cc4.cell hS3.2.2.2.2.2.2.2.1 (by simp), cc4.cell hS3.2.2.2.2.2.2.2.2.1 (by simp), cc4.cell hS3.2.2.2.2.2.2.2.2.2.1 (by simp), cc4.cell hS3.2.2.2.2.2.2.2.2.2.2.1 (by simp), cc4.cell hS3.2.2.2.2.2.2.2.2.2.2.2.1 (by simp), cc4.cell hS3.2.2.2.2.2.2.2.2.2.2.2.2.1 (by simp), cc4.cell hS3.2.2.2.2.2.2.2.2.2.2.2.2.2.1 (by simp), cc4.cell hS3.2.2.2.2.2.2.2.2.2.2.2.2.2.2.1 (by simp), cc4.cell hS3.2.2.2.2.2.2.2.2.2.2.2.2.2.2.2.1 (by simp), cc4.cell hS3.2.2.2.2.2.2.2.2.2.2.2.2.2.2.2.2.1 (by simp), cc4.cell hS3.2.2.2.2.2.2.2.2.2.2.2.2.2.2.2.2.2.1 (by simp), cc4.cell hS3.2.2.2.2.2.2.2.2.2.2.2.2.2.2.2.2.2.2.1 (by simp), cc4.cell hS3.2.2.2.2.2.2.2.2.2.2.2.2.2.2.2.2.2.2.2.1 (by simp), cc4.cell hS3.2.2.2.2.2.2.2.2.2.2.2.2.2.2.2.2.2.2.2.2.1 (by simp), cc4.cell hS3.2.2.2.2.2.2.2.2.2.2.2.2.2.2.2.2.2.2.2.2.2 (by simp)⟩
        have ch4 := (ch3).trans' cc4 (by simp)
        refine hK.out _ _ hS4 (fun hHeld => ?_)
        clear hK K
        try simp only [Act.put, List.setIfInBounds_toArray, List.set_cons_succ, List.set_cons_zero]
        refine wpAnyH_ready (rs := [8]) (by kernel_rfl) (by simp) (AllReadyH.cons rfl (fun K hK => ?_) (AllReadyH.nil))
        have hS05 := hS4
        have e5_0 := g15_4.at (i := 0) rfl
        have f5_0 := g15_4.free 0
        have e5_1 := g15_4.at (i := 1) rfl
        have f5_1 := g15_4.free 1
        have e5_2 := g15_4.at (i := 2) rfl
        have f5_2 := g15_4.free 2
        have e5_3 := g15_4.at (i := 3) rfl
        have f5_3 := g15_4.free 3
        have cc5 : Chg [g15] v4 ((((v4.setCell ⟨g15, 0, none⟩ (.int .i64 c1)).setCell ⟨g15, 1, none⟩ (.int .u64 p1)).setCell ⟨g15, 2, none⟩ (.int .i64 i1)).setCell ⟨g15, 3, none⟩ (.slice a1 n1 d1)) := (((((Chg.refl [g15] v4).setCell ⟨g15, 0, none⟩ (.int .i64 c1) (.inl (by simp))).setCell ⟨g15, 1, none⟩ (.int .u64 p1) (.inl (by simp))).setCell ⟨g15, 2, none⟩ (.int .i64 i1) (.inl (by simp))).setCell ⟨g15, 3, none⟩ (.slice a1 n1 d1) (.inl (by simp)))
        have Bg15_5 : Blk ((((v4.setCell ⟨g15, 0, none⟩ (.int .i64 c1)).setCell ⟨g15, 1, none⟩ (.int .u64 p1)).setCell ⟨g15, 2, none⟩ (.int .i64 i1)).setCell ⟨g15, 3, none⟩ (.slice a1 n1 d1)) g15 68 [.int .i64 c1, .int .u64 p1, .int .i64 i1, .slice a1 n1 d1] := ((((g15_4.set 0 (.int .i64 c1)).set 1 (.int .u64 p1)).set 2 (.int .i64 i1)).set 3 (.slice a1 n1 d1))
        go_simp
        generalize ((((v4.setCell ⟨g15, 0, none⟩ (.int .i64 c1)).setCell ⟨g15, 1, none⟩ (.int .u64 p1)).setCell ⟨g15, 2, none⟩ (.int .i64 i1)).setCell ⟨g15, 3, none⟩ (.slice a1 n1 d1)) = v5 at *
        clear e5_0 f5_0 e5_1 f5_1 e5_2 f5_2 e5_3 f5_3
        have LED5 := LED4.aside cc5 (fun z hz => by simp at hz; subst hz; exact ⟨N154, by omega⟩)
        have ROX5 := ROX4.chg cc5 (by simp; omega)
        have N155 := N154
        have N165 := N164
        have g16_5 := Bg16.chg cc5 (by simp; omega)
        have hS5 : v5.cell? ⟨ga, 0, none⟩ = some (.int .i64 e1.client) ∧ v5.cell? ⟨ga, 1, none⟩ = some (.int .u64 e1.nonce) ∧ v5.cell? ⟨ga, 2, none⟩ = some (.int .u64 e1.fee) ∧ v5.cell? ⟨ga, 3, none⟩ = some (.bool e1.good) ∧ v5.cell? ⟨ga, 4, none⟩ = some (.int .i64 e1.tx.kind) ∧ v5.cell? ⟨ga, 5, none⟩ = some (.int .i64 e1.tx.asset) ∧ v5.cell? ⟨ga, 6, none⟩ = some (.int .i64 e1.tx.dst) ∧ v5.cell? ⟨ga, 7, none⟩ = some (.bool e1.tx.buy) ∧ v5.cell? ⟨ga, 8, none⟩ = some (.int .u64 e1.tx.price) ∧ v5.cell? ⟨ga, 9, none⟩ = some (.int .u64 e1.tx.qty) ∧ v5.cell? ⟨ga, 10, none⟩ = some (.int .i64 e1.tx.id) ∧ v5.cell? ⟨gb, 0, none⟩ = some (.int .i64 e2.client) ∧ v5.cell? ⟨gb, 1, none⟩ = some (.int .u64 e2.nonce) ∧ v5.cell? ⟨gb, 2, none⟩ = some (.int .u64 e2.fee) ∧ v5.cell? ⟨gb, 3, none⟩ = some (.bool e2.good) ∧ v5.cell? ⟨gb, 4, none⟩ = some (.int .i64 e2.tx.kind) ∧ v5.cell? ⟨gb, 5, none⟩ = some (.int .i64 e2.tx.asset) ∧ v5.cell? ⟨gb, 6, none⟩ = some (.int .i64 e2.tx.dst) ∧ v5.cell? ⟨gb, 7, none⟩ = some (.bool e2.tx.buy) ∧ v5.cell? ⟨gb, 8, none⟩ = some (.int .u64 e2.tx.price) ∧ v5.cell? ⟨gb, 9, none⟩ = some (.int .u64 e2.tx.qty) ∧ v5.cell? ⟨gb, 10, none⟩ = some (.int .i64 e2.tx.id) := ⟨cc5.cell hS4.1 (by simp; omega), cc5.cell hS4.2.1 (by simp; omega), cc5.cell hS4.2.2.1 (by simp; omega), cc5.cell hS4.2.2.2.1 (by simp; omega), cc5.cell hS4.2.2.2.2.1 (by simp; omega), cc5.cell hS4.2.2.2.2.2.1 (by simp; omega), cc5.cell hS4.2.2.2.2.2.2.1 (by simp; omega), cc5.cell hS4.2.2.2.2.2.2.2.1 (by simp; omega), cc5.cell hS4.2.2.2.2.2.2.2.2.1 (by simp; omega), cc5.cell hS4.2.2.2.2.2.2.2.2.2.1 (by simp; omega), cc5.cell hS4.2.2.2.2.2.2.2.2.2.2.1 (by simp; omega), cc5.cell hS4.2.2.2.2.2.2.2.2.2.2.2.1 (by simp; omega), cc5.cell hS4.2.2.2.2.2.2.2.2.2.2.2.2.1 (by simp; omega), cc5.cell hS4.2.2.2.2.2.2.2.2.2.2.2.2.2.1 (by simp; omega), cc5.cell hS4.2.2.2.2.2.2.2.2.2.2.2.2.2.2.1 (by simp; omega), cc5.cell hS4.2.2.2.2.2.2.2.2.2.2.2.2.2.2.2.1 (by simp; omega), cc5.cell hS4.2.2.2.2.2.2.2.2.2.2.2.2.2.2.2.2.1 (by simp; omega), cc5.cell hS4.2.2.2.2.2.2.2.2.2.2.2.2.2.2.2.2.2.1 (by simp; omega), cc5.cell hS4.2.2.2.2.2.2.2.2.2.2.2.2.2.2.2.2.2.2.1 (by simp; omega), cc5.cell hS4.2.2.2.2.2.2.2.2.2.2.2.2.2.2.2.2.2.2.2.1 (by simp; omega), cc5.cell hS4.2.2.2.2.2.2.2.2.2.2.2.2.2.2.2.2.2.2.2.2.1 (by simp; omega), cc5.cell hS4.2.2.2.2.2.2.2.2.2.2.2.2.2.2.2.2.2.2.2.2.2 (by simp; omega)⟩
        have ch5 := (ch4).trans' cc5 (fun z hz => .inr (by simp at hz; subst hz; omega))
        refine hK.out _ _ hS5 (fun hHeld => ?_)
        clear hK K
        try simp only [Act.put, List.setIfInBounds_toArray, List.set_cons_succ, List.set_cons_zero]
        refine wpAnyH_ready (rs := [9]) (by kernel_rfl) (by simp) (AllReadyH.cons rfl (fun K hK => ?_) (AllReadyH.nil))
        have hS06 := hS5
        have e6_0 := g16_5.at (i := 0) rfl
        have f6_0 := g16_5.free 0
        have e6_1 := g16_5.at (i := 1) rfl
        have f6_1 := g16_5.free 1
        have e6_2 := g16_5.at (i := 2) rfl
        have f6_2 := g16_5.free 2
        have e6_3 := g16_5.at (i := 3) rfl
        have f6_3 := g16_5.free 3
        have cc6 : Chg [g16] v5 ((((v5.setCell ⟨g16, 0, none⟩ (.int .i64 c2)).setCell ⟨g16, 1, none⟩ (.int .u64 p2)).setCell ⟨g16, 2, none⟩ (.int .i64 i2)).setCell ⟨g16, 3, none⟩ (.slice a2 n2 d2)) := (((((Chg.refl [g16] v5).setCell ⟨g16, 0, none⟩ (.int .i64 c2) (.inl (by simp))).setCell ⟨g16, 1, none⟩ (.int .u64 p2) (.inl (by simp))).setCell ⟨g16, 2, none⟩ (.int .i64 i2) (.inl (by simp))).setCell ⟨g16, 3, none⟩ (.slice a2 n2 d2) (.inl (by simp)))
        have Bg16_6 : Blk ((((v5.setCell ⟨g16, 0, none⟩ (.int .i64 c2)).setCell ⟨g16, 1, none⟩ (.int .u64 p2)).setCell ⟨g16, 2, none⟩ (.int .i64 i2)).setCell ⟨g16, 3, none⟩ (.slice a2 n2 d2)) g16 68 [.int .i64 c2, .int .u64 p2, .int .i64 i2, .slice a2 n2 d2] := ((((g16_5.set 0 (.int .i64 c2)).set 1 (.int .u64 p2)).set 2 (.int .i64 i2)).set 3 (.slice a2 n2 d2))
        go_simp
        generalize ((((v5.setCell ⟨g16, 0, none⟩ (.int .i64 c2)).setCell ⟨g16, 1, none⟩ (.int .u64 p2)).setCell ⟨g16, 2, none⟩ (.int .i64 i2)).setCell ⟨g16, 3, none⟩ (.slice a2 n2 d2)) = v6 at *
        clear e6_0 f6_0 e6_1 f6_1 e6_2 f6_2 e6_3 f6_3
        have LED6 := LED5.aside cc6 (fun z hz => by simp at hz; subst hz; exact ⟨N165, by omega⟩)
        have ROX6 := ROX5.chg cc6 (by simp; omega)
        have N156 := N155
        have N166 := N165
        have g15_6 := Bg15_5.chg cc6 (by simp; omega)
        have hS6 : v6.cell? ⟨ga, 0, none⟩ = some (.int .i64 e1.client) ∧ v6.cell? ⟨ga, 1, none⟩ = some (.int .u64 e1.nonce) ∧ v6.cell? ⟨ga, 2, none⟩ = some (.int .u64 e1.fee) ∧ v6.cell? ⟨ga, 3, none⟩ = some (.bool e1.good) ∧ v6.cell? ⟨ga, 4, none⟩ = some (.int .i64 e1.tx.kind) ∧ v6.cell? ⟨ga, 5, none⟩ = some (.int .i64 e1.tx.asset) ∧ v6.cell? ⟨ga, 6, none⟩ = some (.int .i64 e1.tx.dst) ∧ v6.cell? ⟨ga, 7, none⟩ = some (.bool e1.tx.buy) ∧ v6.cell? ⟨ga, 8, none⟩ = some (.int .u64 e1.tx.price) ∧ v6.cell? ⟨ga, 9, none⟩ = some (.int .u64 e1.tx.qty) ∧ v6.cell? ⟨ga, 10, none⟩ = some (.int .i64 e1.tx.id) ∧ v6.cell? ⟨gb, 0, none⟩ = some (.int .i64 e2.client) ∧ v6.cell? ⟨gb, 1, none⟩ = some (.int .u64 e2.nonce) ∧ v6.cell? ⟨gb, 2, none⟩ = some (.int .u64 e2.fee) ∧ v6.cell? ⟨gb, 3, none⟩ = some (.bool e2.good) ∧ v6.cell? ⟨gb, 4, none⟩ = some (.int .i64 e2.tx.kind) ∧ v6.cell? ⟨gb, 5, none⟩ = some (.int .i64 e2.tx.asset) ∧ v6.cell? ⟨gb, 6, none⟩ = some (.int .i64 e2.tx.dst) ∧ v6.cell? ⟨gb, 7, none⟩ = some (.bool e2.tx.buy) ∧ v6.cell? ⟨gb, 8, none⟩ = some (.int .u64 e2.tx.price) ∧ v6.cell? ⟨gb, 9, none⟩ = some (.int .u64 e2.tx.qty) ∧ v6.cell? ⟨gb, 10, none⟩ = some (.int .i64 e2.tx.id) := ⟨cc6.cell hS5.1 (by simp; omega), cc6.cell hS5.2.1 (by simp; omega), cc6.cell hS5.2.2.1 (by simp; omega), cc6.cell hS5.2.2.2.1 (by simp; omega), cc6.cell hS5.2.2.2.2.1 (by simp; omega), cc6.cell hS5.2.2.2.2.2.1 (by simp; omega), cc6.cell hS5.2.2.2.2.2.2.1 (by simp; omega), cc6.cell hS5.2.2.2.2.2.2.2.1 (by simp; omega), cc6.cell hS5.2.2.2.2.2.2.2.2.1 (by simp; omega), cc6.cell hS5.2.2.2.2.2.2.2.2.2.1 (by simp; omega), cc6.cell hS5.2.2.2.2.2.2.2.2.2.2.1 (by simp; omega), cc6.cell hS5.2.2.2.2.2.2.2.2.2.2.2.1 (by simp; omega), cc6.cell hS5.2.2.2.2.2.2.2.2.2.2.2.2.1 (by simp; omega), cc6.cell hS5.2.2.2.2.2.2.2.2.2.2.2.2.2.1 (by simp; omega), cc6.cell hS5.2.2.2.2.2.2.2.2.2.2.2.2.2.2.1 (by simp; omega), cc6.cell hS5.2.2.2.2.2.2.2.2.2.2.2.2.2.2.2.1 (by simp; omega), cc6.cell hS5.2.2.2.2.2.2.2.2.2.2.2.2.2.2.2.2.1 (by simp; omega), cc6.cell hS5.2.2.2.2.2.2.2.2.2.2.2.2.2.2.2.2.2.1 (by simp; omega), cc6.cell hS5.2.2.2.2.2.2.2.2.2.2.2.2.2.2.2.2.2.2.1 (by simp; omega), cc6.cell hS5.2.2.2.2.2.2.2.2.2.2.2.2.2.2.2.2.2.2.2.1 (by simp; omega), cc6.cell hS5.2.2.2.2.2.2.2.2.2.2.2.2.2.2.2.2.2.2.2.2.1 (by simp; omega), cc6.cell hS5.2.2.2.2.2.2.2.2.2.2.2.2.2.2.2.2.2.2.2.2.2 (by simp; omega)⟩
        have ch6 := (ch5).trans' cc6 (fun z hz => .inr (by simp at hz; subst hz; omega))
        refine hK.out _ _ hS6 (fun hHeld => ?_)
        clear hK K
        try simp only [Act.put, List.setIfInBounds_toArray, List.set_cons_succ, List.set_cons_zero]
        refine wpAnyH_done (by kernel_rfl) ?_ _
        exact hQ _ _ _ _ _ _ _ _ LED6 ROX6.row g15_6 Bg16_6 _ _ _ _ _ _
      · skip
        have hS03 := hS2
        have cc3 : Chg [] v2 (v2.alloc (.cells #[.int .i64 0, .int .u64 0, .int .i64 0, .slice none 0 0] 68)) := (Chg.refl _ _).alloc _
        have Bg16 : Blk (v2.alloc (.cells #[.int .i64 0, .int .u64 0, .int .i64 0, .slice none 0 0] 68)) v2.heap.size 68 [.int .i64 0, .int .u64 0, .int .i64 0, .slice none 0 0] := Blk.new _ _ _
        have Lg16 := ch2.size
        have N163 : v2.heap.size ∉ F5_ := fun hm => by have := (hL5.lt _ hm).2; omega
        have sz_3 := cc3.size
        go_simp
        generalize hg16 : v2.heap.size = g16 at *
        generalize v2.alloc _ = v3 at *
        have LED3 := hL5.to cc3
        have ROX3 := hN2.btw.chg cc3 (by simp)
        have hS3 : v3.cell? ⟨ga, 0, none⟩ = some (.int .i64 e1.client) ∧ v3.cell? ⟨ga, 1, none⟩ = some (.int .u64 e1.nonce) ∧ v3.cell? ⟨ga, 2, none⟩ = some (.int .u64 e1.fee) ∧ v3.cell? ⟨ga, 3, none⟩ = some (.bool e1.good) ∧ v3.cell? ⟨ga, 4, none⟩ = some (.int .i64 e1.tx.kind) ∧ v3.cell? ⟨ga, 5, none⟩ = some (.int .i64 e1.tx.asset) ∧ v3.cell? ⟨ga, 6, none⟩ = some (.int .i64 e1.tx.dst) ∧ v3.cell? ⟨ga, 7, none⟩ = some (.bool e1.tx.buy) ∧ v3.cell? ⟨ga, 8, none⟩ = some (.int .u64 e1.tx.price) ∧ v3.cell? ⟨ga, 9, none⟩ = some (.int .u64 e1.tx.qty) ∧ v3.cell? ⟨ga, 10, none⟩ = some (.int .i64 e1.tx.id) ∧ v3.cell? ⟨gb, 0, none⟩ = some (.int .i64 e2.client) ∧ v3.cell? ⟨gb, 1, none⟩ = some (.int .u64 e2.nonce) ∧ v3.cell? ⟨gb, 2, none⟩ = some (.int .u64 e2.fee) ∧ v3.cell? ⟨gb, 3, none⟩ = some (.bool e2.good) ∧ v3.cell? ⟨gb, 4, none⟩ = some (.int .i64 e2.tx.kind) ∧ v3.cell? ⟨gb, 5, none⟩ = some (.int .i64 e2.tx.asset) ∧ v3.cell? ⟨gb, 6, none⟩ = some (.int .i64 e2.tx.dst) ∧ v3.cell? ⟨gb, 7, none⟩ = some (.bool e2.tx.buy) ∧ v3.cell? ⟨gb, 8, none⟩ = some (.int .u64 e2.tx.price) ∧ v3.cell? ⟨gb, 9, none⟩ = some (.int .u64 e2.tx.qty) ∧ v3.cell? ⟨gb, 10, none⟩ = some (.int .i64 e2.tx.id) := ⟨cc3.cell hS2.1 (by simp), cc3.cell hS2.2.1 (by simp), cc3.cell hS2.2.2.1 (by simp), cc3.cell hS2.2.2.2.1 (by simp), cc3.cell hS2.2.2.2.2.1 (by simp), cc3.cell hS2.2.2.2.2.2.1 (by simp), cc3.cell hS2.2.2.2.2.2.2.1 (by simp), cc3.cell hS2.2.2.2.2.2.2.2.1 (by simp), cc3.cell hS2.2.2.2.2.2.2.2.2.1 (by simp), cc3.cell hS2.2.2.2.2.2.2.2.2.2.1 (by simp), cc3.cell hS2.2.2.2.2.2.2.2.2.2.2.1 (by simp), cc3.cell hS2.2.2.2.2.2.2.2.2.2.2.2.1 (by simp), cc3.cell hS2.2.2.2.2.2.2.2.2.2.2.2.2.1 (by simp), cc3.cell hS2.2.2.2.2.2.2.2.2.2.2.2.2.2.1 (by simp), cc3.cell hS2.2.2.2.2.2.2.2.2.2.2.2.2.2.2.1 (by simp), cc3.cell hS2.2.2.2.2.2.2.2.2.2.2.2.2.2.2.2.1 (by simp), cc3.cell hS2.2.2.2.2.2.2.2.2.2.2.2.2.2.2.2.2.1 (by simp), cc3.cell hS2.2.2.2.2.2.2.2.2.2.2.2.2.2.2.2.2.2.1 (by simp), cc3.cell hS2.2.2.2.2.2.2.2.2.2.2.2.2.2.2.2.2.2.2.1 (by simp), cc3.cell hS2.2.2.2.2.2.2.2.2.2.2.2.2.2.2.2.2.2.2.2.1 (by simp), cc3.cell hS2.2.2.2.2.2.2.2.2.2.2.2.2.2.2.2.2.2.2.2.2.1 (by simp), cc3.cell hS2.2.2.2.2.2.2.2.2.2.2.2.2.2.2.2.2.2.2.2.2.2 (by simp)⟩
        have ch3 := (ch2).trans' cc3 (by simp)
        refine hK.out _ _ hS3 (fun hHeld => ?_)
        clear hK K
        try simp only [Act.put, List.setIfInBounds_toArray, List.set_cons_succ, List.set_cons_zero]
        refine wpAnyH_ready (rs := [6]) (by kernel_rfl) (by simp) (AllReadyH.cons rfl (fun K hK => ?_) (AllReadyH.nil))
        have hS04 := hS3
        have cc4 : Chg [] v3 (v3.alloc (.cells #[.int .i64 0, .int .u64 0, .int .i64 0, .slice none 0 0] 68)) := (Chg.refl _ _).alloc _
        have Bg15 : Blk (v3.alloc (.cells #[.int .i64 0, .int .u64 0, .int .i64 0, .slice none 0 0] 68)) v3.heap.size 68 [.int .i64 0, .int .u64 0, .int .i64 0, .slice none 0 0] := Blk.new _ _ _
        have Lg15 := ch3.size
        have ltg16_4 := Bg16.lt
        have N154 : v3.heap.size ∉ F5_ := fun hm => by have := (LED3.lt _ hm).2; omega
        have sz_4 := cc4.size
        go_simp
        generalize hg15 : v3.heap.size = g15 at *
        generalize v3.alloc _ = v4 at *
        have LED4 := LED3.to cc4
        have ROX4 := ROX3.chg cc4 (by simp)
        have N164 := N163
        have g16_4 := Bg16.chg cc4 (by simp)
        have hS4 : v4.cell? ⟨ga, 0, none⟩ = some (.int .i64 e1.client) ∧ v4.cell? ⟨ga, 1, none⟩ = some (.int .u64 e1.nonce) ∧ v4.cell? ⟨ga, 2, none⟩ = some (.int .u64 e1.fee) ∧ v4.cell? ⟨ga, 3, none⟩ = some (.bool e1.good) ∧ v4.cell? ⟨ga, 4, none⟩ = some (.int .i64 e1.tx.kind) ∧ v4.cell? ⟨ga, 5, none⟩ = some (.int .i64 e1.tx.asset) ∧ v4.cell? ⟨ga, 6, none⟩ = some (.int .i64 e1.tx.dst) ∧ v4.cell? ⟨ga, 7, none⟩ = some (.bool e1.tx.buy) ∧ v4.cell? ⟨ga, 8, none⟩ = some (.int .u64 e1.tx.price) ∧ v4.cell? ⟨ga, 9, none⟩ = some (.int .u64 e1.tx.qty) ∧ v4.cell? ⟨ga, 10, none⟩ = some (.int .i64 e1.tx.id) ∧ v4.cell? ⟨gb, 0, none⟩ = some (.int .i64 e2.client) ∧ v4.cell? ⟨gb, 1, none⟩ = some (.int .u64 e2.nonce) ∧ v4.cell? ⟨gb, 2, none⟩ = some (.int .u64 e2.fee) ∧ v4.cell? ⟨gb, 3, none⟩ = some (.bool e2.good) ∧ v4.cell? ⟨gb, 4, none⟩ = some (.int .i64 e2.tx.kind) ∧ v4.cell? ⟨gb, 5, none⟩ = some (.int .i64 e2.tx.asset) ∧ v4.cell? ⟨gb, 6, none⟩ = some (.int .i64 e2.tx.dst) ∧ v4.cell? ⟨gb, 7, none⟩ = some (.bool e2.tx.buy) ∧ v4.cell? ⟨gb, 8, none⟩ = some (.int .u64 e2.tx.price) ∧ v4.cell? ⟨gb, 9, none⟩ = some (.int .u64 e2.tx.qty) ∧ v4.cell? ⟨gb, 10, none⟩ = some (.int .i64 e2.tx.id) := ⟨cc4.cell hS3.1 (by simp), cc4.cell hS3.2.1 (by simp), cc4.cell hS3.2.2.1 (by simp), cc4.cell hS3.2.2.2.1 (by simp), cc4.cell hS3.2.2.2.2.1 (by simp), cc4.cell hS3.2.2.2.2.2.1 (by simp), cc4.cell hS3.2.2.2.2.2.2.1 (by simp), cc4.cell hS3.2.2.2.2.2.2.2.1 (by simp), cc4.cell hS3.2.2.2.2.2.2.2.2.1 (by simp), cc4.cell hS3.2.2.2.2.2.2.2.2.2.1 (by simp), cc4.cell hS3.2.2.2.2.2.2.2.2.2.2.1 (by simp), cc4.cell hS3.2.2.2.2.2.2.2.2.2.2.2.1 (by simp), cc4.cell hS3.2.2.2.2.2.2.2.2.2.2.2.2.1 (by simp), cc4.cell hS3.2.2.2.2.2.2.2.2.2.2.2.2.2.1 (by simp), cc4.cell hS3.2.2.2.2.2.2.2.2.2.2.2.2.2.2.1 (by simp), cc4.cell hS3.2.2.2.2.2.2.2.2.2.2.2.2.2.2.2.1 (by simp), cc4.cell hS3.2.2.2.2.2.2.2.2.2.2.2.2.2.2.2.2.1 (by simp), cc4.cell hS3.2.2.2.2.2.2.2.2.2.2.2.2.2.2.2.2.2.1 (by simp), cc4.cell hS3.2.2.2.2.2.2.2.2.2.2.2.2.2.2.2.2.2.2.1 (by simp), cc4.cell hS3.2.2.2.2.2.2.2.2.2.2.2.2.2.2.2.2.2.2.2.1 (by simp), cc4.cell hS3.2.2.2.2.2.2.2.2.2.2.2.2.2.2.2.2.2.2.2.2.1 (by simp), cc4.cell hS3.2.2.2.2.2.2.2.2.2.2.2.2.2.2.2.2.2.2.2.2.2 (by simp)⟩
        have ch4 := (ch3).trans' cc4 (by simp)
        refine hK.out _ _ hS4 (fun hHeld => ?_)
        clear hK K
        try simp only [Act.put, List.setIfInBounds_toArray, List.set_cons_succ, List.set_cons_zero]
        refine wpAnyH_ready (rs := [8]) (by kernel_rfl) (by simp) (AllReadyH.cons rfl (fun K hK => ?_) (AllReadyH.nil))
        have hS05 := hS4
        have e5_0 := Bg15.at (i := 0) rfl
        have f5_0 := Bg15.free 0
        have e5_1 := Bg15.at (i := 1) rfl
        have f5_1 := Bg15.free 1
        have e5_2 := Bg15.at (i := 2) rfl
        have f5_2 := Bg15.free 2
        have e5_3 := Bg15.at (i := 3) rfl
        have f5_3 := Bg15.free 3
        have cc5 : Chg [g15] v4 ((((v4.setCell ⟨g15, 0, none⟩ (.int .i64 c1)).setCell ⟨g15, 1, none⟩ (.int .u64 p1)).setCell ⟨g15, 2, none⟩ (.int .i64 i1)).setCell ⟨g15, 3, none⟩ (.slice a1 n1 d1)) := (((((Chg.refl [g15] v4).setCell ⟨g15, 0, none⟩ (.int .i64 c1) (.inl (by simp))).setCell ⟨g15, 1, none⟩ (.int .u64 p1) (.inl (by simp))).setCell ⟨g15, 2, none⟩ (.int .i64 i1) (.inl (by simp))).setCell ⟨g15, 3, none⟩ (.slice a1 n1 d1) (.inl (by simp)))
        have Bg15_5 : Blk ((((v4.setCell ⟨g15, 0, none⟩ (.int .i64 c1)).setCell ⟨g15, 1, none⟩ (.int .u64 p1)).setCell ⟨g15, 2, none⟩ (.int .i64 i1)).setCell ⟨g15, 3, none⟩ (.slice a1 n1 d1)) g15 68 [.int .i64 c1, .int .u64 p1, .int .i64 i1, .slice a1 n1 d1] := ((((Bg15.set 0 (.int .i64 c1)).set 1 (.int .u64 p1)).set 2 (.int .i64 i1)).set 3 (.slice a1 n1 d1))
        go_simp
        generalize ((((v4.setCell ⟨g15, 0, none⟩ (.int .i64 c1)).setCell ⟨g15, 1, none⟩ (.int .u64 p1)).setCell ⟨g15, 2, none⟩ (.int .i64 i1)).setCell ⟨g15, 3, none⟩ (.slice a1 n1 d1)) = v5 at *
        clear e5_0 f5_0 e5_1 f5_1 e5_2 f5_2 e5_3 f5_3
        have LED5 := LED4.aside cc5 (fun z hz => by simp at hz; subst hz; exact ⟨N154, by omega⟩)
        have ROX5 := ROX4.chg cc5 (by simp; omega)
        have N165 := N164
        have N155 := N154
        have g16_5 := g16_4.chg cc5 (by simp; omega)
        have hS5 : v5.cell? ⟨ga, 0, none⟩ = some (.int .i64 e1.client) ∧ v5.cell? ⟨ga, 1, none⟩ = some (.int .u64 e1.nonce) ∧ v5.cell? ⟨ga, 2, none⟩ = some (.int .u64 e1.fee) ∧ v5.cell? ⟨ga, 3, none⟩ = some (.bool e1.good) ∧ v5.cell? ⟨ga, 4, none⟩ = some (.int .i64 e1.tx.kind) ∧ v5.cell? ⟨ga, 5, none⟩ = some (.int .i64 e1.tx.asset) ∧ v5.cell? ⟨ga, 6, none⟩ = some (.int .i64 e1.tx.dst) ∧ v5.cell? ⟨ga, 7, none⟩ = some (.bool e1.tx.buy) ∧ v5.cell? ⟨ga, 8, none⟩ = some (.int .u64 e1.tx.price) ∧ v5.cell? ⟨ga, 9, none⟩ = some (.int .u64 e1.tx.qty) ∧ v5.cell? ⟨ga, 10, none⟩ = some (.int .i64 e1.tx.id) ∧ v5.cell? ⟨gb, 0, none⟩ = some (.int .i64 e2.client) ∧ v5.cell? ⟨gb, 1, none⟩ = some (.int .u64 e2.nonce) ∧ v5.cell? ⟨gb, 2, none⟩ = some (.int .u64 e2.fee) ∧ v5.cell? ⟨gb, 3, none⟩ = some (.bool e2.good) ∧ v5.cell? ⟨gb, 4, none⟩ = some (.int .i64 e2.tx.kind) ∧ v5.cell? ⟨gb, 5, none⟩ = some (.int .i64 e2.tx.asset) ∧ v5.cell? ⟨gb, 6, none⟩ = some (.int .i64 e2.tx.dst) ∧ v5.cell? ⟨gb, 7, none⟩ = some (.bool e2.tx.buy) ∧ v5.cell? ⟨gb, 8, none⟩ = some (.int .u64 e2.tx.price) ∧ v5.cell? ⟨gb, 9, none⟩ = some (.int .u64 e2.tx.qty) ∧ v5.cell? ⟨gb, 10, none⟩ = some (.int .i64 e2.tx.id) := ⟨cc5.cell hS4.1 (by simp; omega), cc5.cell hS4.2.1 (by simp; omega), cc5.cell hS4.2.2.1 (by simp; omega), cc5.cell hS4.2.2.2.1 (by simp; omega), cc5.cell hS4.2.2.2.2.1 (by simp; omega), cc5.cell hS4.2.2.2.2.2.1 (by simp; omega), cc5.cell hS4.2.2.2.2.2.2.1 (by simp; omega), cc5.cell hS4.2.2.2.2.2.2.2.1 (by simp; omega), cc5.cell hS4.2.2.2.2.2.2.2.2.1 (by simp; omega), cc5.cell hS4.2.2.2.2.2.2.2.2.2.1 (by simp; omega), cc5.cell hS4.2.2.2.2.2.2.2.2.2.2.1 (by simp; omega), cc5.cell hS4.2.2.2.2.2.2.2.2.2.2.2.1 (by simp; omega), cc5.cell hS4.2.2.2.2.2.2.2.2.2.2.2.2.1 (by simp; omega), cc5.cell hS4.2.2.2.2.2.2.2.2.2.2.2.2.2.1 (by simp; omega), cc5.cell hS4.2.2.2.2.2.2.2.2.2.2.2.2.2.2.1 (by simp; omega), cc5.cell hS4.2.2.2.2.2.2.2.2.2.2.2.2.2.2.2.1 (by simp; omega), cc5.cell hS4.2.2.2.2.2.2.2.2.2.2.2.2.2.2.2.2.1 (by simp; omega), cc5.cell hS4.2.2.2.2.2.2.2.2.2.2.2.2.2.2.2.2.2.1 (by simp; omega), cc5.cell hS4.2.2.2.2.2.2.2.2.2.2.2.2.2.2.2.2.2.2.1 (by simp; omega), cc5.cell hS4.2.2.2.2.2.2.2.2.2.2.2.2.2.2.2.2.2.2.2.1 (by simp; omega), cc5.cell hS4.2.2.2.2.2.2.2.2.2.2.2.2.2.2.2.2.2.2.2.2.1 (by simp; omega), cc5.cell hS4.2.2.2.2.2.2.2.2.2.2.2.2.2.2.2.2.2.2.2.2.2 (by simp; omega)⟩
        have ch5 := (ch4).trans' cc5 (fun z hz => .inr (by simp at hz; subst hz; omega))
        refine hK.out _ _ hS5 (fun hHeld => ?_)
        clear hK K
        try simp only [Act.put, List.setIfInBounds_toArray, List.set_cons_succ, List.set_cons_zero]
        refine wpAnyH_ready (rs := [9]) (by kernel_rfl) (by simp) (AllReadyH.cons rfl (fun K hK => ?_) (AllReadyH.nil))
        have hS06 := hS5
        have e6_0 := g16_5.at (i := 0) rfl
        have f6_0 := g16_5.free 0
        have e6_1 := g16_5.at (i := 1) rfl
        have f6_1 := g16_5.free 1
        have e6_2 := g16_5.at (i := 2) rfl
        have f6_2 := g16_5.free 2
        have e6_3 := g16_5.at (i := 3) rfl
        have f6_3 := g16_5.free 3
        have cc6 : Chg [g16] v5 ((((v5.setCell ⟨g16, 0, none⟩ (.int .i64 c2)).setCell ⟨g16, 1, none⟩ (.int .u64 p2)).setCell ⟨g16, 2, none⟩ (.int .i64 i2)).setCell ⟨g16, 3, none⟩ (.slice a2 n2 d2)) := (((((Chg.refl [g16] v5).setCell ⟨g16, 0, none⟩ (.int .i64 c2) (.inl (by simp))).setCell ⟨g16, 1, none⟩ (.int .u64 p2) (.inl (by simp))).setCell ⟨g16, 2, none⟩ (.int .i64 i2) (.inl (by simp))).setCell ⟨g16, 3, none⟩ (.slice a2 n2 d2) (.inl (by simp)))
        have Bg16_6 : Blk ((((v5.setCell ⟨g16, 0, none⟩ (.int .i64 c2)).setCell ⟨g16, 1, none⟩ (.int .u64 p2)).setCell ⟨g16, 2, none⟩ (.int .i64 i2)).setCell ⟨g16, 3, none⟩ (.slice a2 n2 d2)) g16 68 [.int .i64 c2, .int .u64 p2, .int .i64 i2, .slice a2 n2 d2] := ((((g16_5.set 0 (.int .i64 c2)).set 1 (.int .u64 p2)).set 2 (.int .i64 i2)).set 3 (.slice a2 n2 d2))
        go_simp
        generalize ((((v5.setCell ⟨g16, 0, none⟩ (.int .i64 c2)).setCell ⟨g16, 1, none⟩ (.int .u64 p2)).setCell ⟨g16, 2, none⟩ (.int .i64 i2)).setCell ⟨g16, 3, none⟩ (.slice a2 n2 d2)) = v6 at *
        clear e6_0 f6_0 e6_1 f6_1 e6_2 f6_2 e6_3 f6_3
        have LED6 := LED5.aside cc6 (fun z hz => by simp at hz; subst hz; exact ⟨N165, by omega⟩)
        have ROX6 := ROX5.chg cc6 (by simp; omega)
        have N166 := N165
        have N156 := N155
        have g15_6 := Bg15_5.chg cc6 (by simp; omega)
        have hS6 : v6.cell? ⟨ga, 0, none⟩ = some (.int .i64 e1.client) ∧ v6.cell? ⟨ga, 1, none⟩ = some (.int .u64 e1.nonce) ∧ v6.cell? ⟨ga, 2, none⟩ = some (.int .u64 e1.fee) ∧ v6.cell? ⟨ga, 3, none⟩ = some (.bool e1.good) ∧ v6.cell? ⟨ga, 4, none⟩ = some (.int .i64 e1.tx.kind) ∧ v6.cell? ⟨ga, 5, none⟩ = some (.int .i64 e1.tx.asset) ∧ v6.cell? ⟨ga, 6, none⟩ = some (.int .i64 e1.tx.dst) ∧ v6.cell? ⟨ga, 7, none⟩ = some (.bool e1.tx.buy) ∧ v6.cell? ⟨ga, 8, none⟩ = some (.int .u64 e1.tx.price) ∧ v6.cell? ⟨ga, 9, none⟩ = some (.int .u64 e1.tx.qty) ∧ v6.cell? ⟨ga, 10, none⟩ = some (.int .i64 e1.tx.id) ∧ v6.cell? ⟨gb, 0, none⟩ = some (.int .i64 e2.client) ∧ v6.cell? ⟨gb, 1, none⟩ = some (.int .u64 e2.nonce) ∧ v6.cell? ⟨gb, 2, none⟩ = some (.int .u64 e2.fee) ∧ v6.cell? ⟨gb, 3, none⟩ = some (.bool e2.good) ∧ v6.cell? ⟨gb, 4, none⟩ = some (.int .i64 e2.tx.kind) ∧ v6.cell? ⟨gb, 5, none⟩ = some (.int .i64 e2.tx.asset) ∧ v6.cell? ⟨gb, 6, none⟩ = some (.int .i64 e2.tx.dst) ∧ v6.cell? ⟨gb, 7, none⟩ = some (.bool e2.tx.buy) ∧ v6.cell? ⟨gb, 8, none⟩ = some (.int .u64 e2.tx.price) ∧ v6.cell? ⟨gb, 9, none⟩ = some (.int .u64 e2.tx.qty) ∧ v6.cell? ⟨gb, 10, none⟩ = some (.int .i64 e2.tx.id) := ⟨cc6.cell hS5.1 (by simp; omega), cc6.cell hS5.2.1 (by simp; omega), cc6.cell hS5.2.2.1 (by simp; omega), cc6.cell hS5.2.2.2.1 (by simp; omega), cc6.cell hS5.2.2.2.2.1 (by simp; omega), cc6.cell hS5.2.2.2.2.2.1 (by simp; omega), cc6.cell hS5.2.2.2.2.2.2.1 (by simp; omega), cc6.cell hS5.2.2.2.2.2.2.2.1 (by simp; omega), cc6.cell hS5.2.2.2.2.2.2.2.2.1 (by simp; omega), cc6.cell hS5.2.2.2.2.2.2.2.2.2.1 (by simp; omega), cc6.cell hS5.2.2.2.2.2.2.2.2.2.2.1 (by simp; omega), cc6.cell hS5.2.2.2.2.2.2.2.2.2.2.2.1 (by simp; omega), cc6.cell hS5.2.2.2.2.2.2.2.2.2.2.2.2.1 (by simp; omega), cc6.cell hS5.2.2.2.2.2.2.2.2.2.2.2.2.2.1 (by simp; omega), cc6.cell hS5.2.2.2.2.2.2.2.2.2.2.2.2.2.2.1 (by simp; omega), cc6.cell hS5.2.2.2.2.2.2.2.2.2.2.2.2.2.2.2.1 (by simp; omega), cc6.cell hS5.2.2.2.2.2.2.2.2.2.2.2.2.2.2.2.2.1 (by simp; omega), cc6.cell hS5.2.2.2.2.2.2.2.2.2.2.2.2.2.2.2.2.2.1 (by simp; omega), cc6.cell hS5.2.2.2.2.2.2.2.2.2.2.2.2.2.2.2.2.2.2.1 (by simp; omega), cc6.cell hS5.2.2.2.2.2.2.2.2.2.2.2.2.2.2.2.2.2.2.2.1 (by simp; omega), cc6.cell hS5.2.2.2.2.2.2.2.2.2.2.2.2.2.2.2.2.2.2.2.2.1 (by simp; omega), cc6.cell hS5.2.2.2.2.2.2.2.2.2.2.2.2.2.2.2.2.2.2.2.2.2 (by simp; omega)⟩
        have ch6 := (ch5).trans' cc6 (fun z hz => .inr (by simp at hz; subst hz; omega))
        refine hK.out _ _ hS6 (fun hHeld => ?_)
        clear hK K
        try simp only [Act.put, List.setIfInBounds_toArray, List.set_cons_succ, List.set_cons_zero]
        refine wpAnyH_done (by kernel_rfl) ?_ _
        exact hQ _ _ _ _ _ _ _ _ LED6 ROX6.row g15_6 Bg16_6 _ _ _ _ _ _
    · skip
      have hS02 := hS1
      have cc2 : Chg [] v1 (v1.alloc (.cells #[.int .i64 0, .int .u64 0, .int .i64 0, .slice none 0 0] 68)) := (Chg.refl _ _).alloc _
      have Bg15 : Blk (v1.alloc (.cells #[.int .i64 0, .int .u64 0, .int .i64 0, .slice none 0 0] 68)) v1.heap.size 68 [.int .i64 0, .int .u64 0, .int .i64 0, .slice none 0 0] := Blk.new _ _ _
      have Lg15 := ch1.size
      have N152 : v1.heap.size ∉ F2_ := fun hm => by have := (hL2.lt _ hm).2; omega
      have sz_2 := cc2.size
      go_simp
      generalize hg15 : v1.heap.size = g15 at *
      generalize v1.alloc _ = v2 at *
      have LED2 := hL2.to cc2
      have hS2 : v2.cell? ⟨ga, 0, none⟩ = some (.int .i64 e1.client) ∧ v2.cell? ⟨ga, 1, none⟩ = some (.int .u64 e1.nonce) ∧ v2.cell? ⟨ga, 2, none⟩ = some (.int .u64 e1.fee) ∧ v2.cell? ⟨ga, 3, none⟩ = some (.bool e1.good) ∧ v2.cell? ⟨ga, 4, none⟩ = some (.int .i64 e1.tx.kind) ∧ v2.cell? ⟨ga, 5, none⟩ = some (.int .i64 e1.tx.asset) ∧ v2.cell? ⟨ga, 6, none⟩ = some (.int .i64 e1.tx.dst) ∧ v2.cell? ⟨ga, 7, none⟩ = some (.bool e1.tx.buy) ∧ v2.cell? ⟨ga, 8, none⟩ = some (.int .u64 e1.tx.price) ∧ v2.cell? ⟨ga, 9, none⟩ = some (.int .u64 e1.tx.qty) ∧ v2.cell? ⟨ga, 10, none⟩ = some (.int .i64 e1.tx.id) ∧ v2.cell? ⟨gb, 0, none⟩ = some (.int .i64 e2.client) ∧ v2.cell? ⟨gb, 1, none⟩ = some (.int .u64 e2.nonce) ∧ v2.cell? ⟨gb, 2, none⟩ = some (.int .u64 e2.fee) ∧ v2.cell? ⟨gb, 3, none⟩ = some (.bool e2.good) ∧ v2.cell? ⟨gb, 4, none⟩ = some (.int .i64 e2.tx.kind) ∧ v2.cell? ⟨gb, 5, none⟩ = some (.int .i64 e2.tx.asset) ∧ v2.cell? ⟨gb, 6, none⟩ = some (.int .i64 e2.tx.dst) ∧ v2.cell? ⟨gb, 7, none⟩ = some (.bool e2.tx.buy) ∧ v2.cell? ⟨gb, 8, none⟩ = some (.int .u64 e2.tx.price) ∧ v2.cell? ⟨gb, 9, none⟩ = some (.int .u64 e2.tx.qty) ∧ v2.cell? ⟨gb, 10, none⟩ = some (.int .i64 e2.tx.id) := ⟨cc2.cell hS1.1 (by simp), cc2.cell hS1.2.1 (by simp), cc2.cell hS1.2.2.1 (by simp), cc2.cell hS1.2.2.2.1 (by simp), cc2.cell hS1.2.2.2.2.1 (by simp), cc2.cell hS1.2.2.2.2.2.1 (by simp), cc2.cell hS1.2.2.2.2.2.2.1 (by simp), cc2.cell hS1.2.2.2.2.2.2.2.1 (by simp), cc2.cell hS1.2.2.2.2.2.2.2.2.1 (by simp), cc2.cell hS1.2.2.2.2.2.2.2.2.2.1 (by simp), cc2.cell hS1.2.2.2.2.2.2.2.2.2.2.1 (by simp), cc2.cell hS1.2.2.2.2.2.2.2.2.2.2.2.1 (by simp), cc2.cell hS1.2.2.2.2.2.2.2.2.2.2.2.2.1 (by simp), cc2.cell hS1.2.2.2.2.2.2.2.2.2.2.2.2.2.1 (by simp), cc2.cell hS1.2.2.2.2.2.2.2.2.2.2.2.2.2.2.1 (by simp), cc2.cell hS1.2.2.2.2.2.2.2.2.2.2.2.2.2.2.2.1 (by simp), cc2.cell hS1.2.2.2.2.2.2.2.2.2.2.2.2.2.2.2.2.1 (by simp), cc2.cell hS1.2.2.2.2.2.2.2.2.2.2.2.2.2.2.2.2.2.1 (by simp), cc2.cell hS1.2.2.2.2.2.2.2.2.2.2.2.2.2.2.2.2.2.2.1 (by simp), cc2.cell hS1.2.2.2.2.2.2.2.2.2.2.2.2.2.2.2.2.2.2.2.1 (by simp), cc2.cell hS1.2.2.2.2.2.2.2.2.2.2.2.2.2.2.2.2.2.2.2.2.1 (by simp), cc2.cell hS1.2.2.2.2.2.2.2.2.2.2.2.2.2.2.2.2.2.2.2.2.2 (by simp)⟩
      have ch2 := (ch1).trans' cc2 (by simp)
      refine hK.out _ _ hS2 (fun hHeld => ?_)
      clear hK K
      try simp only [Act.put, List.setIfInBounds_toArray, List.set_cons_succ, List.set_cons_zero]
      refine wpAnyH_ready (rs := [5, 7]) (by kernel_rfl) (by simp) (AllReadyH.cons rfl (fun K hK => ?_) (AllReadyH.cons rfl (fun K hK => ?_) (AllReadyH.nil)))
      · skip
        have hS03 := hS2
        go_simp
        have sz5 := ch2.size
        have lug15_5 := Bg15.lt
        refine (lxDo LED2 (by omega) e2 HE2.out S2 ⟨c2, p2, i2, T2⟩ HD2.out).mono ?_
        dsimp only
        rw [HN2.out]
        rintro y v3 ⟨a2, d2, F5_, rfl, hN2, hL5, cc3, gr5⟩
        have nA2 : ga ∉ F5_ := fun hm => (gr5 _ hm).elim nA1 fun e => by omega
        have nB2 : gb ∉ F5_ := fun hm => (gr5 _ hm).elim nB1 fun e => by omega
        have sw5 := cc3.size
        have N153 := (show g15 ∉ F5_ from fun hm => (gr5 _ hm).elim N152 fun e => by omega)
        have g15_3 := Bg15.chg cc3 (N152)
        have hS3 : v3.cell? ⟨ga, 0, none⟩ = some (.int .i64 e1.client) ∧ v3.cell? ⟨ga, 1, none⟩ = some (.int .u64 e1.nonce) ∧ v3.cell? ⟨ga, 2, none⟩ = some (.int .u64 e1.fee) ∧ v3.cell? ⟨ga, 3, none⟩ = some (.bool e1.good) ∧ v3.cell? ⟨ga, 4, none⟩ = some (.int .i64 e1.tx.kind) ∧ v3.cell? ⟨ga, 5, none⟩ = some (.int .i64 e1.tx.asset) ∧ v3.cell? ⟨ga, 6, none⟩ = some (.int .i64 e1.tx.dst) ∧ v3.cell? ⟨ga, 7, none⟩ = some (.bool e1.tx.buy) ∧ v3.cell? ⟨ga, 8, none⟩ = some (.int .u64 e1.tx.price) ∧ v3.cell? ⟨ga, 9, none⟩ = some (.int .u64 e1.tx.qty) ∧ v3.cell? ⟨ga, 10, none⟩ = some (.int .i64 e1.tx.id) ∧ v3.cell? ⟨gb, 0, none⟩ = some (.int .i64 e2.client) ∧ v3.cell? ⟨gb, 1, none⟩ = some (.int .u64 e2.nonce) ∧ v3.cell? ⟨gb, 2, none⟩ = some (.int .u64 e2.fee) ∧ v3.cell? ⟨gb, 3, none⟩ = some (.bool e2.good) ∧ v3.cell? ⟨gb, 4, none⟩ = some (.int .i64 e2.tx.kind) ∧ v3.cell? ⟨gb, 5, none⟩ = some (.int .i64 e2.tx.asset) ∧ v3.cell? ⟨gb, 6, none⟩ = some (.int .i64 e2.tx.dst) ∧ v3.cell? ⟨gb, 7, none⟩ = some (.bool e2.tx.buy) ∧ v3.cell? ⟨gb, 8, none⟩ = some (.int .u64 e2.tx.price) ∧ v3.cell? ⟨gb, 9, none⟩ = some (.int .u64 e2.tx.qty) ∧ v3.cell? ⟨gb, 10, none⟩ = some (.int .i64 e2.tx.id) := ⟨cc3.cell hS2.1 (by first | exact nA1 | exact nB1), cc3.cell hS2.2.1 (by first | exact nA1 | exact nB1), cc3.cell hS2.2.2.1 (by first | exact nA1 | exact nB1), cc3.cell hS2.2.2.2.1 (by first | exact nA1 | exact nB1), cc3.cell hS2.2.2.2.2.1 (by first | exact nA1 | exact nB1), cc3.cell hS2.2.2.2.2.2.1 (by first | exact nA1 | exact nB1), cc3.cell hS2.2.2.2.2.2.2.1 (by first | exact nA1 | exact nB1), cc3.cell hS2.2.2.2.2.2.2.2.1 (by first | exact nA1 | exact nB1), cc3.cell hS2.2.2.2.2.2.2.2.2.1 (by first | exact nA1 | exact nB1), cc3.cell hS2.2.2.2.2.2.2.2.2.2.1 (by first | exact nA1 | exact nB1), cc3.cell hS2.2.2.2.2.2.2.2.2.2.2.1 (by first | exact nA1 | exact nB1), cc3.cell hS2.2.2.2.2.2.2.2.2.2.2.2.1 (by first | exact nA1 | exact nB1), cc3.cell hS2.2.2.2.2.2.2.2.2.2.2.2.2.1 (by first | exact nA1 | exact nB1), cc3.cell hS2.2.2.2.2.2.2.2.2.2.2.2.2.2.1 (by first | exact nA1 | exact nB1), cc3.cell hS2.2.2.2.2.2.2.2.2.2.2.2.2.2.2.1 (by first | exact nA1 | exact nB1), cc3.cell hS2.2.2.2.2.2.2.2.2.2.2.2.2.2.2.2.1 (by first | exact nA1 | exact nB1), cc3.cell hS2.2.2.2.2.2.2.2.2.2.2.2.2.2.2.2.2.1 (by first | exact nA1 | exact nB1), cc3.cell hS2.2.2.2.2.2.2.2.2.2.2.2.2.2.2.2.2.2.1 (by first | exact nA1 | exact nB1), cc3.cell hS2.2.2.2.2.2.2.2.2.2.2.2.2.2.2.2.2.2.2.1 (by first | exact nA1 | exact nB1), cc3.cell hS2.2.2.2.2.2.2.2.2.2.2.2.2.2.2.2.2.2.2.2.1 (by first | exact nA1 | exact nB1), cc3.cell hS2.2.2.2.2.2.2.2.2.2.2.2.2.2.2.2.2.2.2.2.2.1 (by first | exact nA1 | exact nB1), cc3.cell hS2.2.2.2.2.2.2.2.2.2.2.2.2.2.2.2.2.2.2.2.2.2 (by first | exact nA1 | exact nB1)⟩
        have ch3 := (ch2).trans' cc3 (fun z hz => (gr2 z hz).imp id fun e => by omega)
        go_wp2_with fail
        refine hK.out _ _ hS3 (fun hHeld => ?_)
        clear hK K
        try simp only [Act.put, List.setIfInBounds_toArray, List.set_cons_succ, List.set_cons_zero]
        refine wpAnyH_ready (rs := [7]) (by kernel_rfl) (by simp) (AllReadyH.cons rfl (fun K hK => ?_) (AllReadyH.nil))
        have hS04 := hS3
        have cc4 : Chg [] v3 (v3.alloc (.cells #[.int .i64 0, .int .u64 0, .int .i64 0, .slice none 0 0] 68)) := (Chg.refl _ _).alloc _
        have Bg16 : Blk (v3.alloc (.cells #[.int .i64 0, .int .u64 0, .int .i64 0, .slice none 0 0] 68)) v3.heap.size 68 [.int .i64 0, .int .u64 0, .int .i64 0, .slice none 0 0] := Blk.new _ _ _
        have Lg16 := ch3.size
        have ltg15_4 := g15_3.lt
        have N164 : v3.heap.size ∉ F5_ := fun hm => by have := (hL5.lt _ hm).2; omega
        have sz_4 := cc4.size
        go_simp
        generalize hg16 : v3.heap.size = g16 at *
        generalize v3.alloc _ = v4 at *
        have N154 := N153
        have LED4 := hL5.to cc4
        have ROX4 := hN2.btw.chg cc4 (by simp)
        have g15_4 := g15_3.chg cc4 (by simp)
        have hS4 : v4.cell? ⟨ga, 0, none⟩ = some (.int .i64 e1.client) ∧ v4.cell? ⟨ga, 1, none⟩ = some (.int .u64 e1.nonce) ∧ v4.cell? ⟨ga, 2, none⟩ = some (.int .u64 e1.fee) ∧ v4.cell? ⟨ga, 3, none⟩ = some (.bool e1.good) ∧ v4.cell? ⟨ga, 4, none⟩ = some (.int .i64 e1.tx.kind) ∧ v4.cell? ⟨ga, 5, none⟩ = some (.int .i64 e1.tx.asset) ∧ v4.cell? ⟨ga, 6, none⟩ = some (.int .i64 e1.tx.dst) ∧ v4.cell? ⟨ga, 7, none⟩ = some (.bool e1.tx.buy) ∧ v4.cell? ⟨ga, 8, none⟩ = some (.int .u64 e1.tx.price) ∧ v4.cell? ⟨ga, 9, none⟩ = some (.int .u64 e1.tx.qty) ∧ v4.cell? ⟨ga, 10, none⟩ = some (.int .i64 e1.tx.id) ∧ v4.cell? ⟨gb, 0, none⟩ = some (.int .i64 e2.client) ∧ v4.cell? ⟨gb, 1, none⟩ = some (.int .u64 e2.nonce) ∧ v4.cell? ⟨gb, 2, none⟩ = some (.int .u64 e2.fee) ∧ v4.cell? ⟨gb, 3, none⟩ = some (.bool e2.good) ∧ v4.cell? ⟨gb, 4, none⟩ = some (.int .i64 e2.tx.kind) ∧ v4.cell? ⟨gb, 5, none⟩ = some (.int .i64 e2.tx.asset) ∧ v4.cell? ⟨gb, 6, none⟩ = some (.int .i64 e2.tx.dst) ∧ v4.cell? ⟨gb, 7, none⟩ = some (.bool e2.tx.buy) ∧ v4.cell? ⟨gb, 8, none⟩ = some (.int .u64 e2.tx.price) ∧ v4.cell? ⟨gb, 9, none⟩ = some (.int .u64 e2.tx.qty) ∧ v4.cell? ⟨gb, 10, none⟩ = some (.int .i64 e2.tx.id) := ⟨cc4.cell hS3.1 (by simp), cc4.cell hS3.2.1 (by simp), cc4.cell hS3.2.2.1 (by simp), cc4.cell hS3.2.2.2.1 (by simp), cc4.cell hS3.2.2.2.2.1 (by simp), cc4.cell hS3.2.2.2.2.2.1 (by simp), cc4.cell hS3.2.2.2.2.2.2.1 (by simp), cc4.cell hS3.2.2.2.2.2.2.2.1 (by simp), cc4.cell hS3.2.2.2.2.2.2.2.2.1 (by simp), cc4.cell hS3.2.2.2.2.2.2.2.2.2.1 (by simp), cc4.cell hS3.2.2.2.2.2.2.2.2.2.2.1 (by simp), cc4.cell hS3.2.2.2.2.2.2.2.2.2.2.2.1 (by simp), cc4.cell hS3.2.2.2.2.2.2.2.2.2.2.2.2.1 (by simp), cc4.cell hS3.2.2.2.2.2.2.2.2.2.2.2.2.2.1 (by simp), cc4.cell hS3.2.2.2.2.2.2.2.2.2.2.2.2.2.2.1 (by simp), cc4.cell hS3.2.2.2.2.2.2.2.2.2.2.2.2.2.2.2.1 (by simp), cc4.cell hS3.2.2.2.2.2.2.2.2.2.2.2.2.2.2.2.2.1 (by simp), cc4.cell hS3.2.2.2.2.2.2.2.2.2.2.2.2.2.2.2.2.2.1 (by simp), cc4.cell hS3.2.2.2.2.2.2.2.2.2.2.2.2.2.2.2.2.2.2.1 (by simp), cc4.cell hS3.2.2.2.2.2.2.2.2.2.2.2.2.2.2.2.2.2.2.2.1 (by simp), cc4.cell hS3.2.2.2.2.2.2.2.2.2.2.2.2.2.2.2.2.2.2.2.2.1 (by simp), cc4.cell hS3.2.2.2.2.2.2.2.2.2.2.2.2.2.2.2.2.2.2.2.2.2 (by simp)⟩
        have ch4 := (ch3).trans' cc4 (by simp)
        refine hK.out _ _ hS4 (fun hHeld => ?_)
        clear hK K
        try simp only [Act.put, List.setIfInBounds_toArray, List.set_cons_succ, List.set_cons_zero]
        refine wpAnyH_ready (rs := [8]) (by kernel_rfl) (by simp) (AllReadyH.cons rfl (fun K hK => ?_) (AllReadyH.nil))
        have hS05 := hS4
        have e5_0 := g15_4.at (i := 0) rfl
        have f5_0 := g15_4.free 0
        have e5_1 := g15_4.at (i := 1) rfl
        have f5_1 := g15_4.free 1
        have e5_2 := g15_4.at (i := 2) rfl
        have f5_2 := g15_4.free 2
        have e5_3 := g15_4.at (i := 3) rfl
        have f5_3 := g15_4.free 3
        have cc5 : Chg [g15] v4 ((((v4.setCell ⟨g15, 0, none⟩ (.int .i64 c1)).setCell ⟨g15, 1, none⟩ (.int .u64 p1)).setCell ⟨g15, 2, none⟩ (.int .i64 i1)).setCell ⟨g15, 3, none⟩ (.slice a1 n1 d1)) := (((((Chg.refl [g15] v4).setCell ⟨g15, 0, none⟩ (.int .i64 c1) (.inl (by simp))).setCell ⟨g15, 1, none⟩ (.int .u64 p1) (.inl (by simp))).setCell ⟨g15, 2, none⟩ (.int .i64 i1) (.inl (by simp))).setCell ⟨g15, 3, none⟩ (.slice a1 n1 d1) (.inl (by simp)))
        have Bg15_5 : Blk ((((v4.setCell ⟨g15, 0, none⟩ (.int .i64 c1)).setCell ⟨g15, 1, none⟩ (.int .u64 p1)).setCell ⟨g15, 2, none⟩ (.int .i64 i1)).setCell ⟨g15, 3, none⟩ (.slice a1 n1 d1)) g15 68 [.int .i64 c1, .int .u64 p1, .int .i64 i1, .slice a1 n1 d1] := ((((g15_4.set 0 (.int .i64 c1)).set 1 (.int .u64 p1)).set 2 (.int .i64 i1)).set 3 (.slice a1 n1 d1))
        go_simp
        generalize ((((v4.setCell ⟨g15, 0, none⟩ (.int .i64 c1)).setCell ⟨g15, 1, none⟩ (.int .u64 p1)).setCell ⟨g15, 2, none⟩ (.int .i64 i1)).setCell ⟨g15, 3, none⟩ (.slice a1 n1 d1)) = v5 at *
        clear e5_0 f5_0 e5_1 f5_1 e5_2 f5_2 e5_3 f5_3
        have N155 := N154
        have LED5 := LED4.aside cc5 (fun z hz => by simp at hz; subst hz; exact ⟨N155, by omega⟩)
        have ROX5 := ROX4.chg cc5 (by simp; omega)
        have N165 := N164
        have g16_5 := Bg16.chg cc5 (by simp; omega)
        have hS5 : v5.cell? ⟨ga, 0, none⟩ = some (.int .i64 e1.client) ∧ v5.cell? ⟨ga, 1, none⟩ = some (.int .u64 e1.nonce) ∧ v5.cell? ⟨ga, 2, none⟩ = some (.int .u64 e1.fee) ∧ v5.cell? ⟨ga, 3, none⟩ = some (.bool e1.good) ∧ v5.cell? ⟨ga, 4, none⟩ = some (.int .i64 e1.tx.kind) ∧ v5.cell? ⟨ga, 5, none⟩ = some (.int .i64 e1.tx.asset) ∧ v5.cell? ⟨ga, 6, none⟩ = some (.int .i64 e1.tx.dst) ∧ v5.cell? ⟨ga, 7, none⟩ = some (.bool e1.tx.buy) ∧ v5.cell? ⟨ga, 8, none⟩ = some (.int .u64 e1.tx.price) ∧ v5.cell? ⟨ga, 9, none⟩ = some (.int .u64 e1.tx.qty) ∧ v5.cell? ⟨ga, 10, none⟩ = some (.int .i64 e1.tx.id) ∧ v5.cell? ⟨gb, 0, none⟩ = some (.int .i64 e2.client) ∧ v5.cell? ⟨gb, 1, none⟩ = some (.int .u64 e2.nonce) ∧ v5.cell? ⟨gb, 2, none⟩ = some (.int .u64 e2.fee) ∧ v5.cell? ⟨gb, 3, none⟩ = some (.bool e2.good) ∧ v5.cell? ⟨gb, 4, none⟩ = some (.int .i64 e2.tx.kind) ∧ v5.cell? ⟨gb, 5, none⟩ = some (.int .i64 e2.tx.asset) ∧ v5.cell? ⟨gb, 6, none⟩ = some (.int .i64 e2.tx.dst) ∧ v5.cell? ⟨gb, 7, none⟩ = some (.bool e2.tx.buy) ∧ v5.cell? ⟨gb, 8, none⟩ = some (.int .u64 e2.tx.price) ∧ v5.cell? ⟨gb, 9, none⟩ = some (.int .u64 e2.tx.qty) ∧ v5.cell? ⟨gb, 10, none⟩ = some (.int .i64 e2.tx.id) := ⟨cc5.cell hS4.1 (by simp; omega), cc5.cell hS4.2.1 (by simp; omega), cc5.cell hS4.2.2.1 (by simp; omega), cc5.cell hS4.2.2.2.1 (by simp; omega), cc5.cell hS4.2.2.2.2.1 (by simp; omega), cc5.cell hS4.2.2.2.2.2.1 (by simp; omega), cc5.cell hS4.2.2.2.2.2.2.1 (by simp; omega), cc5.cell hS4.2.2.2.2.2.2.2.1 (by simp; omega), cc5.cell hS4.2.2.2.2.2.2.2.2.1 (by simp; omega), cc5.cell hS4.2.2.2.2.2.2.2.2.2.1 (by simp; omega), cc5.cell hS4.2.2.2.2.2.2.2.2.2.2.1 (by simp; omega), cc5.cell hS4.2.2.2.2.2.2.2.2.2.2.2.1 (by simp; omega), cc5.cell hS4.2.2.2.2.2.2.2.2.2.2.2.2.1 (by simp; omega), cc5.cell hS4.2.2.2.2.2.2.2.2.2.2.2.2.2.1 (by simp; omega), cc5.cell hS4.2.2.2.2.2.2.2.2.2.2.2.2.2.2.1 (by simp; omega), cc5.cell hS4.2.2.2.2.2.2.2.2.2.2.2.2.2.2.2.1 (by simp; omega), cc5.cell hS4.2.2.2.2.2.2.2.2.2.2.2.2.2.2.2.2.1 (by simp; omega), cc5.cell hS4.2.2.2.2.2.2.2.2.2.2.2.2.2.2.2.2.2.1 (by simp; omega), cc5.cell hS4.2.2.2.2.2.2.2.2.2.2.2.2.2.2.2.2.2.2.1 (by simp; omega), cc5.cell hS4.2.2.2.2.2.2.2.2.2.2.2.2.2.2.2.2.2.2.2.1 (by simp; omega), cc5.cell hS4.2.2.2.2.2.2.2.2.2.2.2.2.2.2.2.2.2.2.2.2.1 (by simp; omega), cc5.cell hS4.2.2.2.2.2.2.2.2.2.2.2.2.2.2.2.2.2.2.2.2.2 (by simp; omega)⟩
        have ch5 := (ch4).trans' cc5 (fun z hz => .inr (by simp at hz; subst hz; omega))
        refine hK.out _ _ hS5 (fun hHeld => ?_)
        clear hK K
        try simp only [Act.put, List.setIfInBounds_toArray, List.set_cons_succ, List.set_cons_zero]
        refine wpAnyH_ready (rs := [9]) (by kernel_rfl) (by simp) (AllReadyH.cons rfl (fun K hK => ?_) (AllReadyH.nil))
        have hS06 := hS5
        have e6_0 := g16_5.at (i := 0) rfl
        have f6_0 := g16_5.free 0
        have e6_1 := g16_5.at (i := 1) rfl
        have f6_1 := g16_5.free 1
        have e6_2 := g16_5.at (i := 2) rfl
        have f6_2 := g16_5.free 2
        have e6_3 := g16_5.at (i := 3) rfl
        have f6_3 := g16_5.free 3
        have cc6 : Chg [g16] v5 ((((v5.setCell ⟨g16, 0, none⟩ (.int .i64 c2)).setCell ⟨g16, 1, none⟩ (.int .u64 p2)).setCell ⟨g16, 2, none⟩ (.int .i64 i2)).setCell ⟨g16, 3, none⟩ (.slice a2 n2 d2)) := (((((Chg.refl [g16] v5).setCell ⟨g16, 0, none⟩ (.int .i64 c2) (.inl (by simp))).setCell ⟨g16, 1, none⟩ (.int .u64 p2) (.inl (by simp))).setCell ⟨g16, 2, none⟩ (.int .i64 i2) (.inl (by simp))).setCell ⟨g16, 3, none⟩ (.slice a2 n2 d2) (.inl (by simp)))
        have Bg16_6 : Blk ((((v5.setCell ⟨g16, 0, none⟩ (.int .i64 c2)).setCell ⟨g16, 1, none⟩ (.int .u64 p2)).setCell ⟨g16, 2, none⟩ (.int .i64 i2)).setCell ⟨g16, 3, none⟩ (.slice a2 n2 d2)) g16 68 [.int .i64 c2, .int .u64 p2, .int .i64 i2, .slice a2 n2 d2] := ((((g16_5.set 0 (.int .i64 c2)).set 1 (.int .u64 p2)).set 2 (.int .i64 i2)).set 3 (.slice a2 n2 d2))
        go_simp
        generalize ((((v5.setCell ⟨g16, 0, none⟩ (.int .i64 c2)).setCell ⟨g16, 1, none⟩ (.int .u64 p2)).setCell ⟨g16, 2, none⟩ (.int .i64 i2)).setCell ⟨g16, 3, none⟩ (.slice a2 n2 d2)) = v6 at *
        clear e6_0 f6_0 e6_1 f6_1 e6_2 f6_2 e6_3 f6_3
        have N156 := N155
        have LED6 := LED5.aside cc6 (fun z hz => by simp at hz; subst hz; exact ⟨N165, by omega⟩)
        have ROX6 := ROX5.chg cc6 (by simp; omega)
        have N166 := N165
        have g15_6 := Bg15_5.chg cc6 (by simp; omega)
        have hS6 : v6.cell? ⟨ga, 0, none⟩ = some (.int .i64 e1.client) ∧ v6.cell? ⟨ga, 1, none⟩ = some (.int .u64 e1.nonce) ∧ v6.cell? ⟨ga, 2, none⟩ = some (.int .u64 e1.fee) ∧ v6.cell? ⟨ga, 3, none⟩ = some (.bool e1.good) ∧ v6.cell? ⟨ga, 4, none⟩ = some (.int .i64 e1.tx.kind) ∧ v6.cell? ⟨ga, 5, none⟩ = some (.int .i64 e1.tx.asset) ∧ v6.cell? ⟨ga, 6, none⟩ = some (.int .i64 e1.tx.dst) ∧ v6.cell? ⟨ga, 7, none⟩ = some (.bool e1.tx.buy) ∧ v6.cell? ⟨ga, 8, none⟩ = some (.int .u64 e1.tx.price) ∧ v6.cell? ⟨ga, 9, none⟩ = some (.int .u64 e1.tx.qty) ∧ v6.cell? ⟨ga, 10, none⟩ = some (.int .i64 e1.tx.id) ∧ v6.cell? ⟨gb, 0, none⟩ = some (.int .i64 e2.client) ∧ v6.cell? ⟨gb, 1, none⟩ = some (.int .u64 e2.nonce) ∧ v6.cell? ⟨gb, 2, none⟩ = some (.int .u64 e2.fee) ∧ v6.cell? ⟨gb, 3, none⟩ = some (.bool e2.good) ∧ v6.cell? ⟨gb, 4, none⟩ = some (.int .i64 e2.tx.kind) ∧ v6.cell? ⟨gb, 5, none⟩ = some (.int .i64 e2.tx.asset) ∧ v6.cell? ⟨gb, 6, none⟩ = some (.int .i64 e2.tx.dst) ∧ v6.cell? ⟨gb, 7, none⟩ = some (.bool e2.tx.buy) ∧ v6.cell? ⟨gb, 8, none⟩ = some (.int .u64 e2.tx.price) ∧ v6.cell? ⟨gb, 9, none⟩ = some (.int .u64 e2.tx.qty) ∧ v6.cell? ⟨gb, 10, none⟩ = some (.int .i64 e2.tx.id) := ⟨cc6.cell hS5.1 (by simp; omega), cc6.cell hS5.2.1 (by simp; omega), cc6.cell hS5.2.2.1 (by simp; omega), cc6.cell hS5.2.2.2.1 (by simp; omega), cc6.cell hS5.2.2.2.2.1 (by simp; omega), cc6.cell hS5.2.2.2.2.2.1 (by simp; omega), cc6.cell hS5.2.2.2.2.2.2.1 (by simp; omega), cc6.cell hS5.2.2.2.2.2.2.2.1 (by simp; omega), cc6.cell hS5.2.2.2.2.2.2.2.2.1 (by simp; omega), cc6.cell hS5.2.2.2.2.2.2.2.2.2.1 (by simp; omega), cc6.cell hS5.2.2.2.2.2.2.2.2.2.2.1 (by simp; omega), cc6.cell hS5.2.2.2.2.2.2.2.2.2.2.2.1 (by simp; omega), cc6.cell hS5.2.2.2.2.2.2.2.2.2.2.2.2.1 (by simp; omega), cc6.cell hS5.2.2.2.2.2.2.2.2.2.2.2.2.2.1 (by simp; omega), cc6.cell hS5.2.2.2.2.2.2.2.2.2.2.2.2.2.2.1 (by simp; omega), cc6.cell hS5.2.2.2.2.2.2.2.2.2.2.2.2.2.2.2.1 (by simp; omega), cc6.cell hS5.2.2.2.2.2.2.2.2.2.2.2.2.2.2.2.2.1 (by simp; omega), cc6.cell hS5.2.2.2.2.2.2.2.2.2.2.2.2.2.2.2.2.2.1 (by simp; omega), cc6.cell hS5.2.2.2.2.2.2.2.2.2.2.2.2.2.2.2.2.2.2.1 (by simp; omega), cc6.cell hS5.2.2.2.2.2.2.2.2.2.2.2.2.2.2.2.2.2.2.2.1 (by simp; omega), cc6.cell hS5.2.2.2.2.2.2.2.2.2.2.2.2.2.2.2.2.2.2.2.2.1 (by simp; omega), cc6.cell hS5.2.2.2.2.2.2.2.2.2.2.2.2.2.2.2.2.2.2.2.2.2 (by simp; omega)⟩
        have ch6 := (ch5).trans' cc6 (fun z hz => .inr (by simp at hz; subst hz; omega))
        refine hK.out _ _ hS6 (fun hHeld => ?_)
        clear hK K
        try simp only [Act.put, List.setIfInBounds_toArray, List.set_cons_succ, List.set_cons_zero]
        refine wpAnyH_done (by kernel_rfl) ?_ _
        exact hQ _ _ _ _ _ _ _ _ LED6 ROX6.row g15_6 Bg16_6 _ _ _ _ _ _
      · skip
        have hS03 := hS2
        have cc3 : Chg [] v2 (v2.alloc (.cells #[.int .i64 0, .int .u64 0, .int .i64 0, .slice none 0 0] 68)) := (Chg.refl _ _).alloc _
        have Bg16 : Blk (v2.alloc (.cells #[.int .i64 0, .int .u64 0, .int .i64 0, .slice none 0 0] 68)) v2.heap.size 68 [.int .i64 0, .int .u64 0, .int .i64 0, .slice none 0 0] := Blk.new _ _ _
        have Lg16 := ch2.size
        have ltg15_3 := Bg15.lt
        have N163 : v2.heap.size ∉ F2_ := fun hm => by have := (LED2.lt _ hm).2; omega
        have sz_3 := cc3.size
        go_simp
        generalize hg16 : v2.heap.size = g16 at *
        generalize v2.alloc _ = v3 at *
        have LED3 := LED2.to cc3
        have N153 := N152
        have g15_3 := Bg15.chg cc3 (by simp)
        have hS3 : v3.cell? ⟨ga, 0, none⟩ = some (.int .i64 e1.client) ∧ v3.cell? ⟨ga, 1, none⟩ = some (.int .u64 e1.nonce) ∧ v3.cell? ⟨ga, 2, none⟩ = some (.int .u64 e1.fee) ∧ v3.cell? ⟨ga, 3, none⟩ = some (.bool e1.good) ∧ v3.cell? ⟨ga, 4, none⟩ = some (.int .i64 e1.tx.kind) ∧ v3.cell? ⟨ga, 5, none⟩ = some (.int .i64 e1.tx.asset) ∧ v3.cell? ⟨ga, 6, none⟩ = some (.int .i64 e1.tx.dst) ∧ v3.cell? ⟨ga, 7, none⟩ = some (.bool e1.tx.buy) ∧ v3.cell? ⟨ga, 8, none⟩ = some (.int .u64 e1.tx.price) ∧ v3.cell? ⟨ga, 9, none⟩ = some (.int .u64 e1.tx.qty) ∧ v3.cell? ⟨ga, 10, none⟩ = some (.int .i64 e1.tx.id) ∧ v3.cell? ⟨gb, 0, none⟩ = some (.int .i64 e2.client) ∧ v3.cell? ⟨gb, 1, none⟩ = some (.int .u64 e2.nonce) ∧ v3.cell? ⟨gb, 2, none⟩ = some (.int .u64 e2.fee) ∧ v3.cell? ⟨gb, 3, none⟩ = some (.bool e2.good) ∧ v3.cell? ⟨gb, 4, none⟩ = some (.int .i64 e2.tx.kind) ∧ v3.cell? ⟨gb, 5, none⟩ = some (.int .i64 e2.tx.asset) ∧ v3.cell? ⟨gb, 6, none⟩ = some (.int .i64 e2.tx.dst) ∧ v3.cell? ⟨gb, 7, none⟩ = some (.bool e2.tx.buy) ∧ v3.cell? ⟨gb, 8, none⟩ = some (.int .u64 e2.tx.price) ∧ v3.cell? ⟨gb, 9, none⟩ = some (.int .u64 e2.tx.qty) ∧ v3.cell? ⟨gb, 10, none⟩ = some (.int .i64 e2.tx.id) := ⟨cc3.cell hS2.1 (by simp), cc3.cell hS2.2.1 (by simp), cc3.cell hS2.2.2.1 (by simp), cc3.cell hS2.2.2.2.1 (by simp), cc3.cell hS2.2.2.2.2.1 (by simp), cc3.cell hS2.2.2.2.2.2.1 (by simp), cc3.cell hS2.2.2.2.2.2.2.1 (by simp), cc3.cell hS2.2.2.2.2.2.2.2.1 (by simp), cc3.cell hS2.2.2.2.2.2.2.2.2.1 (by simp), cc3.cell hS2.2.2.2.2.2.2.2.2.2.1 (by simp), cc3.cell hS2.2.2.2.2.2.2.2.2.2.2.1 (by simp), cc3.cell hS2.2.2.2.2.2.2.2.2.2.2.2.1 (by simp), cc3.cell hS2.2.2.2.2.2.2.2.2.2.2.2.2.1 (by simp), cc3.cell hS2.2.2.2.2.2.2.2.2.2.2.2.2.2.1 (by simp), cc3.cell hS2.2.2.2.2.2.2.2.2.2.2.2.2.2.2.1 (by simp), cc3.cell hS2.2.2.2.2.2.2.2.2.2.2.2.2.2.2.2.1 (by simp), cc3.cell hS2.2.2.2.2.2.2.2.2.2.2.2.2.2.2.2.2.1 (by simp), cc3.cell hS2.2.2.2.2.2.2.2.2.2.2.2.2.2.2.2.2.2.1 (by simp), cc3.cell hS2.2.2.2.2.2.2.2.2.2.2.2.2.2.2.2.2.2.2.1 (by simp), cc3.cell hS2.2.2.2.2.2.2.2.2.2.2.2.2.2.2.2.2.2.2.2.1 (by simp), cc3.cell hS2.2.2.2.2.2.2.2.2.2.2.2.2.2.2.2.2.2.2.2.2.1 (by simp), cc3.cell hS2.2.2.2.2.2.2.2.2.2.2.2.2.2.2.2.2.2.2.2.2.2 (by simp)⟩
        have ch3 := (ch2).trans' cc3 (by simp)
        refine hK.out _ _ hS3 (fun hHeld => ?_)
        clear hK K
        try simp only [Act.put, List.setIfInBounds_toArray, List.set_cons_succ, List.set_cons_zero]
        refine wpAnyH_ready (rs := [5]) (by kernel_rfl) (by simp) (AllReadyH.cons rfl (fun K hK => ?_) (AllReadyH.nil))
        have hS04 := hS3
        go_simp
        have sz5 := ch3.size
        have lug15_5 := g15_3.lt
        have lug16_5 := Bg16.lt
        refine (lxDo LED3 (by omega) e2 HE2.out S2 ⟨c2, p2, i2, T2⟩ HD2.out).mono ?_
        dsimp only
        rw [HN2.out]
        rintro y v4 ⟨a2, d2, F5_, rfl, hN2, hL5, cc4, gr5⟩
        have nA2 : ga ∉ F5_ := fun hm => (gr5 _ hm).elim nA1 fun e => by omega
        have nB2 : gb ∉ F5_ := fun hm => (gr5 _ hm).elim nB1 fun e => by omega
        have sw5 := cc4.size
        have N154 := (show g15 ∉ F5_ from fun hm => (gr5 _ hm).elim N153 fun e => by omega)
        have N164 := (show g16 ∉ F5_ from fun hm => (gr5 _ hm).elim N163 fun e => by omega)
        have g15_4 := g15_3.chg cc4 (N153)
        have g16_4 := Bg16.chg cc4 (N163)
        have hS4 : v4.cell? ⟨ga, 0, none⟩ = some (.int .i64 e1.client) ∧ v4.cell? ⟨ga, 1, none⟩ = some (.int .u64 e1.nonce) ∧ v4.cell? ⟨ga, 2, none⟩ = some (.int .u64 e1.fee) ∧ v4.cell? ⟨ga, 3, none⟩ = some (.bool e1.good) ∧ v4.cell? ⟨ga, 4, none⟩ = some (.int .i64 e1.tx.kind) ∧ v4.cell? ⟨ga, 5, none⟩ = some (.int .i64 e1.tx.asset) ∧ v4.cell? ⟨ga, 6, none⟩ = some (.int .i64 e1.tx.dst) ∧ v4.cell? ⟨ga, 7, none⟩ = some (.bool e1.tx.buy) ∧ v4.cell? ⟨ga, 8, none⟩ = some (.int .u64 e1.tx.price) ∧ v4.cell? ⟨ga, 9, none⟩ = some (.int .u64 e1.tx.qty) ∧ v4.cell? ⟨ga, 10, none⟩ = some (.int .i64 e1.tx.id) ∧ v4.cell? ⟨gb, 0, none⟩ = some (.int .i64 e2.client) ∧ v4.cell? ⟨gb, 1, none⟩ = some (.int .u64 e2.nonce) ∧ v4.cell? ⟨gb, 2, none⟩ = some (.int .u64 e2.fee) ∧ v4.cell? ⟨gb, 3, none⟩ = some (.bool e2.good) ∧ v4.cell? ⟨gb, 4, none⟩ = some (.int .i64 e2.tx.kind) ∧ v4.cell? ⟨gb, 5, none⟩ = some (.int .i64 e2.tx.asset) ∧ v4.cell? ⟨gb, 6, none⟩ = some (.int .i64 e2.tx.dst) ∧ v4.cell? ⟨gb, 7, none⟩ = some (.bool e2.tx.buy) ∧ v4.cell? ⟨gb, 8, none⟩ = some (.int .u64 e2.tx.price) ∧ v4.cell? ⟨gb, 9, none⟩ = some (.int .u64 e2.tx.qty) ∧ v4.cell? ⟨gb, 10, none⟩ = some (.int .i64 e2.tx.id) := ⟨cc4.cell hS3.1 (by first | exact nA1 | exact nB1), cc4.cell hS3.2.1 (by first | exact nA1 | exact nB1), cc4.cell hS3.2.2.1 (by first | exact nA1 | exact nB1), cc4.cell hS3.2.2.2.1 (by first | exact nA1 | exact nB1), cc4.cell hS3.2.2.2.2.1 (by first | exact nA1 | exact nB1), cc4.cell hS3.2.2.2.2.2.1 (by first | exact nA1 | exact nB1), cc4.cell hS3.2.2.2.2.2.2.1 (by first | exact nA1 | exact nB1), cc4.cell hS3.2.2.2.2.2.2.2.1 (by first | exact nA1 | exact nB1), cc4.cell hS3.2.2.2.2.2.2.2.2.1 (by first | exact nA1 | exact nB1), cc4.cell hS3.2.2.2.2.2.2.2.2.2.1 (by first | exact nA1 | exact nB1), cc4.cell hS3.2.2.2.2.2.2.2.2.2.2.1 (by first | exact nA1 | exact nB1), cc4.cell hS3.2.2.2.2.2.2.2.2.2.2.2.1 (by first | exact nA1 | exact nB1), cc4.cell hS3.2.2.2.2.2.2.2.2.2.2.2.2.1 (by first | exact nA1 | exact nB1), cc4.cell hS3.2.2.2.2.2.2.2.2.2.2.2.2.2.1 (by first | exact nA1 | exact nB1), cc4.cell hS3.2.2.2.2.2.2.2.2.2.2.2.2.2.2.1 (by first | exact nA1 | exact nB1), cc4.cell hS3.2.2.2.2.2.2.2.2.2.2.2.2.2.2.2.1 (by first | exact nA1 | exact nB1), cc4.cell hS3.2.2.2.2.2.2.2.2.2.2.2.2.2.2.2.2.1 (by first | exact nA1 | exact nB1), cc4.cell hS3.2.2.2.2.2.2.2.2.2.2.2.2.2.2.2.2.2.1 (by first | exact nA1 | exact nB1), cc4.cell hS3.2.2.2.2.2.2.2.2.2.2.2.2.2.2.2.2.2.2.1 (by first | exact nA1 | exact nB1), cc4.cell hS3.2.2.2.2.2.2.2.2.2.2.2.2.2.2.2.2.2.2.2.1 (by first | exact nA1 | exact nB1), cc4.cell hS3.2.2.2.2.2.2.2.2.2.2.2.2.2.2.2.2.2.2.2.2.1 (by first | exact nA1 | exact nB1), cc4.cell hS3.2.2.2.2.2.2.2.2.2.2.2.2.2.2.2.2.2.2.2.2.2 (by first | exact nA1 | exact nB1)⟩
        have ch4 := (ch3).trans' cc4 (fun z hz => (gr2 z hz).imp id fun e => by omega)
        go_wp2_with fail
        refine hK.out _ _ hS4 (fun hHeld => ?_)
        clear hK K
        try simp only [Act.put, List.setIfInBounds_toArray, List.set_cons_succ, List.set_cons_zero]
        refine wpAnyH_ready (rs := [8]) (by kernel_rfl) (by simp) (AllReadyH.cons rfl (fun K hK => ?_) (AllReadyH.nil))
        have hS05 := hS4
        have e5_0 := g15_4.at (i := 0) rfl
        have f5_0 := g15_4.free 0
        have e5_1 := g15_4.at (i := 1) rfl
        have f5_1 := g15_4.free 1
        have e5_2 := g15_4.at (i := 2) rfl
        have f5_2 := g15_4.free 2
        have e5_3 := g15_4.at (i := 3) rfl
        have f5_3 := g15_4.free 3
        have cc5 : Chg [g15] v4 ((((v4.setCell ⟨g15, 0, none⟩ (.int .i64 c1)).setCell ⟨g15, 1, none⟩ (.int .u64 p1)).setCell ⟨g15, 2, none⟩ (.int .i64 i1)).setCell ⟨g15, 3, none⟩ (.slice a1 n1 d1)) := (((((Chg.refl [g15] v4).setCell ⟨g15, 0, none⟩ (.int .i64 c1) (.inl (by simp))).setCell ⟨g15, 1, none⟩ (.int .u64 p1) (.inl (by simp))).setCell ⟨g15, 2, none⟩ (.int .i64 i1) (.inl (by simp))).setCell ⟨g15, 3, none⟩ (.slice a1 n1 d1) (.inl (by simp)))
        have Bg15_5 : Blk ((((v4.setCell ⟨g15, 0, none⟩ (.int .i64 c1)).setCell ⟨g15, 1, none⟩ (.int .u64 p1)).setCell ⟨g15, 2, none⟩ (.int .i64 i1)).setCell ⟨g15, 3, none⟩ (.slice a1 n1 d1)) g15 68 [.int .i64 c1, .int .u64 p1, .int .i64 i1, .slice a1 n1 d1] := ((((g15_4.set 0 (.int .i64 c1)).set 1 (.int .u64 p1)).set 2 (.int .i64 i1)).set 3 (.slice a1 n1 d1))
        go_simp
        generalize ((((v4.setCell ⟨g15, 0, none⟩ (.int .i64 c1)).setCell ⟨g15, 1, none⟩ (.int .u64 p1)).setCell ⟨g15, 2, none⟩ (.int .i64 i1)).setCell ⟨g15, 3, none⟩ (.slice a1 n1 d1)) = v5 at *
        clear e5_0 f5_0 e5_1 f5_1 e5_2 f5_2 e5_3 f5_3
        have N155 := N154
        have N165 := N164
        have LED5 := hL5.aside cc5 (fun z hz => by simp at hz; subst hz; exact ⟨N155, by omega⟩)
        have ROX5 := hN2.btw.chg cc5 (by simp; omega)
        have g16_5 := g16_4.chg cc5 (by simp; omega)
        have hS5 : v5.cell? ⟨ga, 0, none⟩ = some (.int .i64 e1.client) ∧ v5.cell? ⟨ga, 1, none⟩ = some (.int .u64 e1.nonce) ∧ v5.cell? ⟨ga, 2, none⟩ = some (.int .u64 e1.fee) ∧ v5.cell? ⟨ga, 3, none⟩ = some (.bool e1.good) ∧ v5.cell? ⟨ga, 4, none⟩ = some (.int .i64 e1.tx.kind) ∧ v5.cell? ⟨ga, 5, none⟩ = some (.int .i64 e1.tx.asset) ∧ v5.cell? ⟨ga, 6, none⟩ = some (.int .i64 e1.tx.dst) ∧ v5.cell? ⟨ga, 7, none⟩ = some (.bool e1.tx.buy) ∧ v5.cell? ⟨ga, 8, none⟩ = some (.int .u64 e1.tx.price) ∧ v5.cell? ⟨ga, 9, none⟩ = some (.int .u64 e1.tx.qty) ∧ v5.cell? ⟨ga, 10, none⟩ = some (.int .i64 e1.tx.id) ∧ v5.cell? ⟨gb, 0, none⟩ = some (.int .i64 e2.client) ∧ v5.cell? ⟨gb, 1, none⟩ = some (.int .u64 e2.nonce) ∧ v5.cell? ⟨gb, 2, none⟩ = some (.int .u64 e2.fee) ∧ v5.cell? ⟨gb, 3, none⟩ = some (.bool e2.good) ∧ v5.cell? ⟨gb, 4, none⟩ = some (.int .i64 e2.tx.kind) ∧ v5.cell? ⟨gb, 5, none⟩ = some (.int .i64 e2.tx.asset) ∧ v5.cell? ⟨gb, 6, none⟩ = some (.int .i64 e2.tx.dst) ∧ v5.cell? ⟨gb, 7, none⟩ = some (.bool e2.tx.buy) ∧ v5.cell? ⟨gb, 8, none⟩ = some (.int .u64 e2.tx.price) ∧ v5.cell? ⟨gb, 9, none⟩ = some (.int .u64 e2.tx.qty) ∧ v5.cell? ⟨gb, 10, none⟩ = some (.int .i64 e2.tx.id) := ⟨cc5.cell hS4.1 (by simp; omega), cc5.cell hS4.2.1 (by simp; omega), cc5.cell hS4.2.2.1 (by simp; omega), cc5.cell hS4.2.2.2.1 (by simp; omega), cc5.cell hS4.2.2.2.2.1 (by simp; omega), cc5.cell hS4.2.2.2.2.2.1 (by simp; omega), cc5.cell hS4.2.2.2.2.2.2.1 (by simp; omega), cc5.cell hS4.2.2.2.2.2.2.2.1 (by simp; omega), cc5.cell hS4.2.2.2.2.2.2.2.2.1 (by simp; omega), cc5.cell hS4.2.2.2.2.2.2.2.2.2.1 (by simp; omega), cc5.cell hS4.2.2.2.2.2.2.2.2.2.2.1 (by simp; omega), cc5.cell hS4.2.2.2.2.2.2.2.2.2.2.2.1 (by simp; omega), cc5.cell hS4.2.2.2.2.2.2.2.2.2.2.2.2.1 (by simp; omega), cc5.cell hS4.2.2.2.2.2.2.2.2.2.2.2.2.2.1 (by simp; omega), cc5.cell hS4.2.2.2.2.2.2.2.2.2.2.2.2.2.2.1 (by simp; omega), cc5.cell hS4.2.2.2.2.2.2.2.2.2.2.2.2.2.2.2.1 (by simp; omega), cc5.cell hS4.2.2.2.2.2.2.2.2.2.2.2.2.2.2.2.2.1 (by simp; omega), cc5.cell hS4.2.2.2.2.2.2.2.2.2.2.2.2.2.2.2.2.2.1 (by simp; omega), cc5.cell hS4.2.2.2.2.2.2.2.2.2.2.2.2.2.2.2.2.2.2.1 (by simp; omega), cc5.cell hS4.2.2.2.2.2.2.2.2.2.2.2.2.2.2.2.2.2.2.2.1 (by simp; omega), cc5.cell hS4.2.2.2.2.2.2.2.2.2.2.2.2.2.2.2.2.2.2.2.2.1 (by simp; omega), cc5.cell hS4.2.2.2.2.2.2.2.2.2.2.2.2.2.2.2.2.2.2.2.2.2 (by simp; omega)⟩
        have ch5 := (ch4).trans' cc5 (fun z hz => .inr (by simp at hz; subst hz; omega))
        refine hK.out _ _ hS5 (fun hHeld => ?_)
        clear hK K
        try simp only [Act.put, List.setIfInBounds_toArray, List.set_cons_succ, List.set_cons_zero]
        refine wpAnyH_ready (rs := [9]) (by kernel_rfl) (by simp) (AllReadyH.cons rfl (fun K hK => ?_) (AllReadyH.nil))
        have hS06 := hS5
        have e6_0 := g16_5.at (i := 0) rfl
        have f6_0 := g16_5.free 0
        have e6_1 := g16_5.at (i := 1) rfl
        have f6_1 := g16_5.free 1
        have e6_2 := g16_5.at (i := 2) rfl
        have f6_2 := g16_5.free 2
        have e6_3 := g16_5.at (i := 3) rfl
        have f6_3 := g16_5.free 3
        have cc6 : Chg [g16] v5 ((((v5.setCell ⟨g16, 0, none⟩ (.int .i64 c2)).setCell ⟨g16, 1, none⟩ (.int .u64 p2)).setCell ⟨g16, 2, none⟩ (.int .i64 i2)).setCell ⟨g16, 3, none⟩ (.slice a2 n2 d2)) := (((((Chg.refl [g16] v5).setCell ⟨g16, 0, none⟩ (.int .i64 c2) (.inl (by simp))).setCell ⟨g16, 1, none⟩ (.int .u64 p2) (.inl (by simp))).setCell ⟨g16, 2, none⟩ (.int .i64 i2) (.inl (by simp))).setCell ⟨g16, 3, none⟩ (.slice a2 n2 d2) (.inl (by simp)))
        have Bg16_6 : Blk ((((v5.setCell ⟨g16, 0, none⟩ (.int .i64 c2)).setCell ⟨g16, 1, none⟩ (.int .u64 p2)).setCell ⟨g16, 2, none⟩ (.int .i64 i2)).setCell ⟨g16, 3, none⟩ (.slice a2 n2 d2)) g16 68 [.int .i64 c2, .int .u64 p2, .int .i64 i2, .slice a2 n2 d2] := ((((g16_5.set 0 (.int .i64 c2)).set 1 (.int .u64 p2)).set 2 (.int .i64 i2)).set 3 (.slice a2 n2 d2))
        go_simp
        generalize ((((v5.setCell ⟨g16, 0, none⟩ (.int .i64 c2)).setCell ⟨g16, 1, none⟩ (.int .u64 p2)).setCell ⟨g16, 2, none⟩ (.int .i64 i2)).setCell ⟨g16, 3, none⟩ (.slice a2 n2 d2)) = v6 at *
        clear e6_0 f6_0 e6_1 f6_1 e6_2 f6_2 e6_3 f6_3
        have N156 := N155
        have N166 := N165
        have LED6 := LED5.aside cc6 (fun z hz => by simp at hz; subst hz; exact ⟨N166, by omega⟩)
        have ROX6 := ROX5.chg cc6 (by simp; omega)
        have g15_6 := Bg15_5.chg cc6 (by simp; omega)
        have hS6 : v6.cell? ⟨ga, 0, none⟩ = some (.int .i64 e1.client) ∧ v6.cell? ⟨ga, 1, none⟩ = some (.int .u64 e1.nonce) ∧ v6.cell? ⟨ga, 2, none⟩ = some (.int .u64 e1.fee) ∧ v6.cell? ⟨ga, 3, none⟩ = some (.bool e1.good) ∧ v6.cell? ⟨ga, 4, none⟩ = some (.int .i64 e1.tx.kind) ∧ v6.cell? ⟨ga, 5, none⟩ = some (.int .i64 e1.tx.asset) ∧ v6.cell? ⟨ga, 6, none⟩ = some (.int .i64 e1.tx.dst) ∧ v6.cell? ⟨ga, 7, none⟩ = some (.bool e1.tx.buy) ∧ v6.cell? ⟨ga, 8, none⟩ = some (.int .u64 e1.tx.price) ∧ v6.cell? ⟨ga, 9, none⟩ = some (.int .u64 e1.tx.qty) ∧ v6.cell? ⟨ga, 10, none⟩ = some (.int .i64 e1.tx.id) ∧ v6.cell? ⟨gb, 0, none⟩ = some (.int .i64 e2.client) ∧ v6.cell? ⟨gb, 1, none⟩ = some (.int .u64 e2.nonce) ∧ v6.cell? ⟨gb, 2, none⟩ = some (.int .u64 e2.fee) ∧ v6.cell? ⟨gb, 3, none⟩ = some (.bool e2.good) ∧ v6.cell? ⟨gb, 4, none⟩ = some (.int .i64 e2.tx.kind) ∧ v6.cell? ⟨gb, 5, none⟩ = some (.int .i64 e2.tx.asset) ∧ v6.cell? ⟨gb, 6, none⟩ = some (.int .i64 e2.tx.dst) ∧ v6.cell? ⟨gb, 7, none⟩ = some (.bool e2.tx.buy) ∧ v6.cell? ⟨gb, 8, none⟩ = some (.int .u64 e2.tx.price) ∧ v6.cell? ⟨gb, 9, none⟩ = some (.int .u64 e2.tx.qty) ∧ v6.cell? ⟨gb, 10, none⟩ = some (.int .i64 e2.tx.id) := ⟨cc6.cell hS5.1 (by simp; omega), cc6.cell hS5.2.1 (by simp; omega), cc6.cell hS5.2.2.1 (by simp; omega), cc6.cell hS5.2.2.2.1 (by simp; omega), cc6.cell hS5.2.2.2.2.1 (by simp; omega), cc6.cell hS5.2.2.2.2.2.1 (by simp; omega), cc6.cell hS5.2.2.2.2.2.2.1 (by simp; omega), cc6.cell hS5.2.2.2.2.2.2.2.1 (by simp; omega), cc6.cell hS5.2.2.2.2.2.2.2.2.1 (by simp; omega), cc6.cell hS5.2.2.2.2.2.2.2.2.2.1 (by simp; omega), cc6.cell hS5.2.2.2.2.2.2.2.2.2.2.1 (by simp; omega), cc6.cell hS5.2.2.2.2.2.2.2.2.2.2.2.1 (by simp; omega), cc6.cell hS5.2.2.2.2.2.2.2.2.2.2.2.2.1 (by simp; omega), cc6.cell hS5.2.2.2.2.2.2.2.2.2.2.2.2.2.1 (by simp; omega), cc6.cell hS5.2.2.2.2.2.2.2.2.2.2.2.2.2.2.1 (by simp; omega), cc6.cell hS5.2.2.2.2.2.2.2.2.2.2.2.2.2.2.2.1 (by simp; omega), cc6.cell hS5.2.2.2.2.2.2.2.2.2.2.2.2.2.2.2.2.1 (by simp; omega), cc6.cell hS5.2.2.2.2.2.2.2.2.2.2.2.2.2.2.2.2.2.1 (by simp; omega), cc6.cell hS5.2.2.2.2.2.2.2.2.2.2.2.2.2.2.2.2.2.2.1 (by simp; omega), cc6.cell hS5.2.2.2.2.2.2.2.2.2.2.2.2.2.2.2.2.2.2.2.1 (by simp; omega), cc6.cell hS5.2.2.2.2.2.2.2.2.2.2.2.2.2.2.2.2.2.2.2.2.1 (by simp; omega), cc6.cell hS5.2.2.2.2.2.2.2.2.2.2.2.2.2.2.2.2.2.2.2.2.2 (by simp; omega)⟩
        have ch6 := (ch5).trans' cc6 (fun z hz => .inr (by simp at hz; subst hz; omega))
        refine hK.out _ _ hS6 (fun hHeld => ?_)
        clear hK K
        try simp only [Act.put, List.setIfInBounds_toArray, List.set_cons_succ, List.set_cons_zero]
        refine wpAnyH_done (by kernel_rfl) ?_ _
        exact hQ _ _ _ _ _ _ _ _ LED6 ROX6.row g15_6 Bg16_6 _ _ _ _ _ _
    · skip
      have hS02 := hS1
      have cc2 : Chg [] v1 (v1.alloc (.cells #[.int .i64 0, .int .u64 0, .int .i64 0, .slice none 0 0] 68)) := (Chg.refl _ _).alloc _
      have Bg16 : Blk (v1.alloc (.cells #[.int .i64 0, .int .u64 0, .int .i64 0, .slice none 0 0] 68)) v1.heap.size 68 [.int .i64 0, .int .u64 0, .int .i64 0, .slice none 0 0] := Blk.new _ _ _
      have Lg16 := ch1.size
      have N162 : v1.heap.size ∉ F2_ := fun hm => by have := (hL2.lt _ hm).2; omega
      have sz_2 := cc2.size
      go_simp
      generalize hg16 : v1.heap.size = g16 at *
      generalize v1.alloc _ = v2 at *
      have LED2 := hL2.to cc2
      have hS2 : v2.cell? ⟨ga, 0, none⟩ = some (.int .i64 e1.client) ∧ v2.cell? ⟨ga, 1, none⟩ = some (.int .u64 e1.nonce) ∧ v2.cell? ⟨ga, 2, none⟩ = some (.int .u64 e1.fee) ∧ v2.cell? ⟨ga, 3, none⟩ = some (.bool e1.good) ∧ v2.cell? ⟨ga, 4, none⟩ = some (.int .i64 e1.tx.kind) ∧ v2.cell? ⟨ga, 5, none⟩ = some (.int .i64 e1.tx.asset) ∧ v2.cell? ⟨ga, 6, none⟩ = some (.int .i64 e1.tx.dst) ∧ v2.cell? ⟨ga, 7, none⟩ = some (.bool e1.tx.buy) ∧ v2.cell? ⟨ga, 8, none⟩ = some (.int .u64 e1.tx.price) ∧ v2.cell? ⟨ga, 9, none⟩ = some (.int .u64 e1.tx.qty) ∧ v2.cell? ⟨ga, 10, none⟩ = some (.int .i64 e1.tx.id) ∧ v2.cell? ⟨gb, 0, none⟩ = some (.int .i64 e2.client) ∧ v2.cell? ⟨gb, 1, none⟩ = some (.int .u64 e2.nonce) ∧ v2.cell? ⟨gb, 2, none⟩ = some (.int .u64 e2.fee) ∧ v2.cell? ⟨gb, 3, none⟩ = some (.bool e2.good) ∧ v2.cell? ⟨gb, 4, none⟩ = some (.int .i64 e2.tx.kind) ∧ v2.cell? ⟨gb, 5, none⟩ = some (.int .i64 e2.tx.asset) ∧ v2.cell? ⟨gb, 6, none⟩ = some (.int .i64 e2.tx.dst) ∧ v2.cell? ⟨gb, 7, none⟩ = some (.bool e2.tx.buy) ∧ v2.cell? ⟨gb, 8, none⟩ = some (.int .u64 e2.tx.price) ∧ v2.cell? ⟨gb, 9, none⟩ = some (.int .u64 e2.tx.qty) ∧ v2.cell? ⟨gb, 10, none⟩ = some (.int .i64 e2.tx.id) := ⟨cc2.cell hS1.1 (by simp), cc2.cell hS1.2.1 (by simp), cc2.cell hS1.2.2.1 (by simp), cc2.cell hS1.2.2.2.1 (by simp), cc2.cell hS1.2.2.2.2.1 (by simp), cc2.cell hS1.2.2.2.2.2.1 (by simp), cc2.cell hS1.2.2.2.2.2.2.1 (by simp), cc2.cell hS1.2.2.2.2.2.2.2.1 (by simp), cc2.cell hS1.2.2.2.2.2.2.2.2.1 (by simp), cc2.cell hS1.2.2.2.2.2.2.2.2.2.1 (by simp), cc2.cell hS1.2.2.2.2.2.2.2.2.2.2.1 (by simp), cc2.cell hS1.2.2.2.2.2.2.2.2.2.2.2.1 (by simp), cc2.cell hS1.2.2.2.2.2.2.2.2.2.2.2.2.1 (by simp), cc2.cell hS1.2.2.2.2.2.2.2.2.2.2.2.2.2.1 (by simp), cc2.cell hS1.2.2.2.2.2.2.2.2.2.2.2.2.2.2.1 (by simp), cc2.cell hS1.2.2.2.2.2.2.2.2.2.2.2.2.2.2.2.1 (by simp), cc2.cell hS1.2.2.2.2.2.2.2.2.2.2.2.2.2.2.2.2.1 (by simp), cc2.cell hS1.2.2.2.2.2.2.2.2.2.2.2.2.2.2.2.2.2.1 (by simp), cc2.cell hS1.2.2.2.2.2.2.2.2.2.2.2.2.2.2.2.2.2.2.1 (by simp), cc2.cell hS1.2.2.2.2.2.2.2.2.2.2.2.2.2.2.2.2.2.2.2.1 (by simp), cc2.cell hS1.2.2.2.2.2.2.2.2.2.2.2.2.2.2.2.2.2.2.2.2.1 (by simp), cc2.cell hS1.2.2.2.2.2.2.2.2.2.2.2.2.2.2.2.2.2.2.2.2.2 (by simp)⟩
      have ch2 := (ch1).trans' cc2 (by simp)
      refine hK.out _ _ hS2 (fun hHeld => ?_)
      clear hK K
      try simp only [Act.put, List.setIfInBounds_toArray, List.set_cons_succ, List.set_cons_zero]
      refine wpAnyH_ready (rs := [5, 6]) (by kernel_rfl) (by simp) (AllReadyH.cons rfl (fun K hK => ?_) (AllReadyH.cons rfl (fun K hK => ?_) (AllReadyH.nil)))
      · skip
        have hS03 := hS2
        go_simp
        have sz5 := ch2.size
        have lug16_5 := Bg16.lt
        refine (lxDo LED2 (by omega) e2 HE2.out S2 ⟨c2, p2, i2, T2⟩ HD2.out).mono ?_
        dsimp only
        rw [HN2.out]
        rintro y v3 ⟨a2, d2, F5_, rfl, hN2, hL5, cc3, gr5⟩
        have nA2 : ga ∉ F5_ := fun hm => (gr5 _ hm).elim nA1 fun e => by omega
        have nB2 : gb ∉ F5_ := fun hm => (gr5 _ hm).elim nB1 fun e => by omega
        have sw5 := cc3.size
        have N163 := (show g16 ∉ F5_ from fun hm => (gr5 _ hm).elim N162 fun e => by omega)
        have g16_3 := Bg16.chg cc3 (N162)
        have hS3 : v3.cell? ⟨ga, 0, none⟩ = some (.int .i64 e1.client) ∧ v3.cell? ⟨ga, 1, none⟩ = some (.int .u64 e1.nonce) ∧ v3.cell? ⟨ga, 2, none⟩ = some (.int .u64 e1.fee) ∧ v3.cell? ⟨ga, 3, none⟩ = some (.bool e1.good) ∧ v3.cell? ⟨ga, 4, none⟩ = some (.int .i64 e1.tx.kind) ∧ v3.cell? ⟨ga, 5, none⟩ = some (.int .i64 e1.tx.asset) ∧ v3.cell? ⟨ga, 6, none⟩ = some (.int .i64 e1.tx.dst) ∧ v3.cell? ⟨ga, 7, none⟩ = some (.bool e1.tx.buy) ∧ v3.cell? ⟨ga, 8, none⟩ = some (.int .u64 e1.tx.price) ∧ v3.cell? ⟨ga, 9, none⟩ = some (.int .u64 e1.tx.qty) ∧ v3.cell? ⟨ga, 10, none⟩ = some (.int .i64 e1.tx.id) ∧ v3.cell? ⟨gb, 0, none⟩ = some (.int .i64 e2.client) ∧ v3.cell? ⟨gb, 1, none⟩ = some (.int .u64 e2.nonce) ∧ v3.cell? ⟨gb, 2, none⟩ = some (.int .u64 e2.fee) ∧ v3.cell? ⟨gb, 3, none⟩ = some (.bool e2.good) ∧ v3.cell? ⟨gb, 4, none⟩ = some (.int .i64 e2.tx.kind) ∧ v3.cell? ⟨gb, 5, none⟩ = some (.int .i64 e2.tx.asset) ∧ v3.cell? ⟨gb, 6, none⟩ = some (.int .i64 e2.tx.dst) ∧ v3.cell? ⟨gb, 7, none⟩ = some (.bool e2.tx.buy) ∧ v3.cell? ⟨gb, 8, none⟩ = some (.int .u64 e2.tx.price) ∧ v3.cell? ⟨gb, 9, none⟩ = some (.int .u64 e2.tx.qty) ∧ v3.cell? ⟨gb, 10, none⟩ = some (.int .i64 e2.tx.id) := ⟨cc3.cell hS2.1 (by first | exact nA1 | exact nB1), cc3.cell hS2.2.1 (by first | exact nA1 | exact nB1), cc3.cell hS2.2.2.1 (by first | exact nA1 | exact nB1), cc3.cell hS2.2.2.2.1 (by first | exact nA1 | exact nB1), cc3.cell hS2.2.2.2.2.1 (by first | exact nA1 | exact nB1), cc3.cell hS2.2.2.2.2.2.1 (by first | exact nA1 | exact nB1), cc3.cell hS2.2.2.2.2.2.2.1 (by first | exact nA1 | exact nB1), cc3.cell hS2.2.2.2.2.2.2.2.1 (by first | exact nA1 | exact nB1), cc3.cell hS2.2.2.2.2.2.2.2.2.1 (by first | exact nA1 | exact nB1), cc3.cell hS2.2.2.2.2.2.2.2.2.2.1 (by first | exact nA1 | exact nB1), cc3.cell hS2.2.2.2.2.2.2.2.2.2.2.1 (by first | exact nA1 | exact nB1), cc3.cell hS2.2.2.2.2.2.2.2.2.2.2.2.1 (by first | exact nA1 | exact nB1), cc3.cell hS2.2.2.2.2.2.2.2.2.2.2.2.2.1 (by first | exact nA1 | exact nB1), cc3.cell hS2.2.2.2.2.2.2.2.2.2.2.2.2.2.1 (by first | exact nA1 | exact nB1), cc3.cell hS2.2.2.2.2.2.2.2.2.2.2.2.2.2.2.1 (by first | exact nA1 | exact nB1), cc3.cell hS2.2.2.2.2.2.2.2.2.2.2.2.2.2.2.2.1 (by first | exact nA1 | exact nB1), cc3.cell hS2.2.2.2.2.2.2.2.2.2.2.2.2.2.2.2.2.1 (by first | exact nA1 | exact nB1), cc3.cell hS2.2.2.2.2.2.2.2.2.2.2.2.2.2.2.2.2.2.1 (by first | exact nA1 | exact nB1), cc3.cell hS2.2.2.2.2.2.2.2.2.2.2.2.2.2.2.2.2.2.2.1 (by first | exact nA1 | exact nB1), cc3.cell hS2.2.2.2.2.2.2.2.2.2.2.2.2.2.2.2.2.2.2.2.1 (by first | exact nA1 | exact nB1), cc3.cell hS2.2.2.2.2.2.2.2.2.2.2.2.2.2.2.2.2.2.2.2.2.1 (by first | exact nA1 | exact nB1), cc3.cell hS2.2.2.2.2.2.2.2.2.2.2.2.2.2.2.2.2.2.2.2.2.2 (by first | exact nA1 | exact nB1)⟩
        have ch3 := (ch2).trans' cc3 (fun z hz => (gr2 z hz).imp id fun e => by omega)
        go_wp2_with fail
        refine hK.out _ _ hS3 (fun hHeld => ?_)
        clear hK K
        try simp only [Act.put, List.setIfInBounds_toArray, List.set_cons_succ, List.set_cons_zero]
        refine wpAnyH_ready (rs := [6]) (by kernel_rfl) (by simp) (AllReadyH.cons rfl (fun K hK => ?_) (AllReadyH.nil))
        have hS04 := hS3
        have cc4 : Chg [] v3 (v3.alloc (.cells #[.int .i64 0, .int .u64 0, .int .i64 0, .slice none 0 0] 68)) := (Chg.refl _ _).alloc _
        have Bg15 : Blk (v3.alloc (.cells #[.int .i64 0, .int .u64 0, .int .i64 0, .slice none 0 0] 68)) v3.heap.size 68 [.int .i64 0, .int .u64 0, .int .i64 0, .slice none 0 0] := Blk.new _ _ _
        have Lg15 := ch3.size
        have ltg16_4 := g16_3.lt
        have N154 : v3.heap.size ∉ F5_ := fun hm => by have := (hL5.lt _ hm).2; omega
        have sz_4 := cc4.size
        go_simp
        generalize hg15 : v3.heap.size = g15 at *
        generalize v3.alloc _ = v4 at *
        have N164 := N163
        have LED4 := hL5.to cc4
        have ROX4 := hN2.btw.chg cc4 (by simp)
        have g16_4 := g16_3.chg cc4 (by simp)
        have hS4 : v4.cell? ⟨ga, 0, none⟩ = some (.int .i64 e1.client) ∧ v4.cell? ⟨ga, 1, none⟩ = some (.int .u64 e1.nonce) ∧ v4.cell? ⟨ga, 2, none⟩ = some (.int .u64 e1.fee) ∧ v4.cell? ⟨ga, 3, none⟩ = some (.bool e1.good) ∧ v4.cell? ⟨ga, 4, none⟩ = some (.int .i64 e1.tx.kind) ∧ v4.cell? ⟨ga, 5, none⟩ = some (.int .i64 e1.tx.asset) ∧ v4.cell? ⟨ga, 6, none⟩ = some (.int .i64 e1.tx.dst) ∧ v4.cell? ⟨ga, 7, none⟩ = some (.bool e1.tx.buy) ∧ v4.cell? ⟨ga, 8, none⟩ = some (.int .u64 e1.tx.price) ∧ v4.cell? ⟨ga, 9, none⟩ = some (.int .u64 e1.tx.qty) ∧ v4.cell? ⟨ga, 10, none⟩ = some (.int .i64 e1.tx.id) ∧ v4.cell? ⟨gb, 0, none⟩ = some (.int .i64 e2.client) ∧ v4.cell? ⟨gb, 1, none⟩ = some (.int .u64 e2.nonce) ∧ v4.cell? ⟨gb, 2, none⟩ = some (.int .u64 e2.fee) ∧ v4.cell? ⟨gb, 3, none⟩ = some (.bool e2.good) ∧ v4.cell? ⟨gb, 4, none⟩ = some (.int .i64 e2.tx.kind) ∧ v4.cell? ⟨gb, 5, none⟩ = some (.int .i64 e2.tx.asset) ∧ v4.cell? ⟨gb, 6, none⟩ = some (.int .i64 e2.tx.dst) ∧ v4.cell? ⟨gb, 7, none⟩ = some (.bool e2.tx.buy) ∧ v4.cell? ⟨gb, 8, none⟩ = some (.int .u64 e2.tx.price) ∧ v4.cell? ⟨gb, 9, none⟩ = some (.int .u64 e2.tx.qty) ∧ v4.cell? ⟨gb, 10, none⟩ = some (.int .i64 e2.tx.id) := ⟨cc4.cell hS3.1 (by simp), cc4.cell hS3.2.1 (by simp), cc4.cell hS3.2.2.1 (by simp), cc4.cell hS3.2.2.2.1 (by simp), cc4.cell hS3.2.2.2.2.1 (by simp), cc4.cell hS3.2.2.2.2.2.1 (by simp), cc4.cell hS3.2.2.2.2.2.2.1 (by simp), cc4.cell hS3.2.2.2.2.2.2.2.1 (by simp), cc4.cell hS3.2.2.2.2.2.2.2.2.1 (by simp), cc4.cell hS3.2.2.2.2.2.2.2.2.2.1 (by simp), cc4.cell hS3.2.2.2.2.2.2.2.2.2.2.1 (by simp), cc4.cell hS3.2.2.2.2.2.2.2.2.2.2.2.1 (by simp), cc4.cell hS3.2.2.2.2.2.2.2.2.2.2.2.2.1 (by simp), cc4.cell hS3.2.2.2.2.2.2.2.2.2.2.2.2.2.1 (by simp), cc4.cell hS3.2.2.2.2.2.2.2.2.2.2.2.2.2.2.1 (by simp), cc4.cell hS3.2.2.2.2.2.2.2.2.2.2.2.2.2.2.2.1 (by simp), cc4.cell hS3.2.2.2.2.2.2.2.2.2.2.2.2.2.2.2.2.1 (by simp), cc4.cell hS3.2.2.2.2.2.2.2.2.2.2.2.2.2.2.2.2.2.1 (by simp), cc4.cell hS3.2.2.2.2.2.2.2.2.2.2.2.2.2.2.2.2.2.2.1 (by simp), cc4.cell hS3.2.2.2.2.2.2.2.2.2.2.2.2.2.2.2.2.2.2.2.1 (by simp), cc4.cell hS3.2.2.2.2.2.2.2.2.2.2.2.2.2.2.2.2.2.2.2.2.1 (by simp), cc4.cell hS3.2.2.2.2.2.2.2.2.2.2.2.2.2.2.2.2.2.2.2.2.2 (by simp)⟩
        have ch4 := (ch3).trans' cc4 (by simp)
        refine hK.out _ _ hS4 (fun hHeld => ?_)
        clear hK K
        try simp only [Act.put, List.setIfInBounds_toArray, List.set_cons_succ, List.set_cons_zero]
        refine wpAnyH_ready (rs := [8]) (by kernel_rfl) (by simp) (AllReadyH.cons rfl (fun K hK => ?_) (AllReadyH.nil))
        have hS05 := hS4
        have e5_0 := Bg15.at (i := 0) rfl
        have f5_0 := Bg15.free 0
        have e5_1 := Bg15.at (i := 1) rfl
        have f5_1 := Bg15.free 1
        have e5_2 := Bg15.at (i := 2) rfl
        have f5_2 := Bg15.free 2
        have e5_3 := Bg15.at (i := 3) rfl
        have f5_3 := Bg15.free 3
        have cc5 : Chg [g15] v4 ((((v4.setCell ⟨g15, 0, none⟩ (.int .i64 c1)).setCell ⟨g15, 1, none⟩ (.int .u64 p1)).setCell ⟨g15, 2, none⟩ (.int .i64 i1)).setCell ⟨g15, 3, none⟩ (.slice a1 n1 d1)) := (((((Chg.refl [g15] v4).setCell ⟨g15, 0, none⟩ (.int .i64 c1) (.inl (by simp))).setCell ⟨g15, 1, none⟩ (.int .u64 p1) (.inl (by simp))).setCell ⟨g15, 2, none⟩ (.int .i64 i1) (.inl (by simp))).setCell ⟨g15, 3, none⟩ (.slice a1 n1 d1) (.inl (by simp)))
        have Bg15_5 : Blk ((((v4.setCell ⟨g15, 0, none⟩ (.int .i64 c1)).setCell ⟨g15, 1, none⟩ (.int .u64 p1)).setCell ⟨g15, 2, none⟩ (.int .i64 i1)).setCell ⟨g15, 3, none⟩ (.slice a1 n1 d1)) g15 68 [.int .i64 c1, .int .u64 p1, .int .i64 i1, .slice a1 n1 d1] := ((((Bg15.set 0 (.int .i64 c1)).set 1 (.int .u64 p1)).set 2 (.int .i64 i1)).set 3 (.slice a1 n1 d1))
        go_simp
        generalize ((((v4.setCell ⟨g15, 0, none⟩ (.int .i64 c1)).setCell ⟨g15, 1, none⟩ (.int .u64 p1)).setCell ⟨g15, 2, none⟩ (.int .i64 i1)).setCell ⟨g15, 3, none⟩ (.slice a1 n1 d1)) = v5 at *
        clear e5_0 f5_0 e5_1 f5_1 e5_2 f5_2 e5_3 f5_3
        have N165 := N164
        have LED5 := LED4.aside cc5 (fun z hz => by simp at hz; subst hz; exact ⟨N154, by omega⟩)
        have ROX5 := ROX4.chg cc5 (by simp; omega)
        have N155 := N154
        have g16_5 := g16_4.chg cc5 (by simp; omega)
        have hS5 : v5.cell? ⟨ga, 0, none⟩ = some (.int .i64 e1.client) ∧ v5.cell? ⟨ga, 1, none⟩ = some (.int .u64 e1.nonce) ∧ v5.cell? ⟨ga, 2, none⟩ = some (.int .u64 e1.fee) ∧ v5.cell? ⟨ga, 3, none⟩ = some (.bool e1.good) ∧ v5.cell? ⟨ga, 4, none⟩ = some (.int .i64 e1.tx.kind) ∧ v5.cell? ⟨ga, 5, none⟩ = some (.int .i64 e1.tx.asset) ∧ v5.cell? ⟨ga, 6, none⟩ = some (.int .i64 e1.tx.dst) ∧ v5.cell? ⟨ga, 7, none⟩ = some (.bool e1.tx.buy) ∧ v5.cell? ⟨ga, 8, none⟩ = some (.int .u64 e1.tx.price) ∧ v5.cell? ⟨ga, 9, none⟩ = some (.int .u64 e1.tx.qty) ∧ v5.cell? ⟨ga, 10, none⟩ = some (.int .i64 e1.tx.id) ∧ v5.cell? ⟨gb, 0, none⟩ = some (.int .i64 e2.client) ∧ v5.cell? ⟨gb, 1, none⟩ = some (.int .u64 e2.nonce) ∧ v5.cell? ⟨gb, 2, none⟩ = some (.int .u64 e2.fee) ∧ v5.cell? ⟨gb, 3, none⟩ = some (.bool e2.good) ∧ v5.cell? ⟨gb, 4, none⟩ = some (.int .i64 e2.tx.kind) ∧ v5.cell? ⟨gb, 5, none⟩ = some (.int .i64 e2.tx.asset) ∧ v5.cell? ⟨gb, 6, none⟩ = some (.int .i64 e2.tx.dst) ∧ v5.cell? ⟨gb, 7, none⟩ = some (.bool e2.tx.buy) ∧ v5.cell? ⟨gb, 8, none⟩ = some (.int .u64 e2.tx.price) ∧ v5.cell? ⟨gb, 9, none⟩ = some (.int .u64 e2.tx.qty) ∧ v5.cell? ⟨gb, 10, none⟩ = some (.int .i64 e2.tx.id) := ⟨cc5.cell hS4.1 (by simp; omega), cc5.cell hS4.2.1 (by simp; omega), cc5.cell hS4.2.2.1 (by simp; omega), cc5.cell hS4.2.2.2.1 (by simp; omega), cc5.cell hS4.2.2.2.2.1 (by simp; omega), cc5.cell hS4.2.2.2.2.2.1 (by simp; omega), cc5.cell hS4.2.2.2.2.2.2.1 (by simp; omega), cc5.cell hS4.2.2.2.2.2.2.2.1 (by simp; omega), cc5.cell hS4.2.2.2.2.2.2.2.2.1 (by simp; omega), cc5.cell hS4.2.2.2.2.2.2.2.2.2.1 (by simp; omega), cc5.cell hS4.2.2.2.2.2.2.2.2.2.2.1 (by simp; omega), cc5.cell hS4.2.2.2.2.2.2.2.2.2.2.2.1 (by simp; omega), cc5.cell hS4.2.2.2.2.2.2.2.2.2.2.2.2.1 (by simp; omega), cc5.cell hS4.2.2.2.2.2.2.2.2.2.2.2.2.2.1 (by simp; omega), cc5.cell hS4.2.2.2.2.2.2.2.2.2.2.2.2.2.2.1 (by simp; omega), cc5.cell hS4.2.2.2.2.2.2.2.2.2.2.2.2.2.2.2.1 (by simp; omega), cc5.cell hS4.2.2.2.2.2.2.2.2.2.2.2.2.2.2.2.2.1 (by simp; omega), cc5.cell hS4.2.2.2.2.2.2.2.2.2.2.2.2.2.2.2.2.2.1 (by simp; omega), cc5.cell hS4.2.2.2.2.2.2.2.2.2.2.2.2.2.2.2.2.2.2.1 (by simp; omega), cc5.cell hS4.2.2.2.2.2.2.2.2.2.2.2.2.2.2.2.2.2.2.2.1 (by simp; omega), cc5.cell hS4.2.2.2.2.2.2.2.2.2.2.2.2.2.2.2.2.2.2.2.2.1 (by simp; omega), cc5.cell hS4.2.2.2.2.2.2.2.2.2.2.2.2.2.2.2.2.2.2.2.2.2 (by simp; omega)⟩
        have ch5 := (ch4).trans' cc5 (fun z hz => .inr (by simp at hz; subst hz; omega))
        refine hK.out _ _ hS5 (fun hHeld => ?_)
        clear hK K
        try simp only [Act.put, List.setIfInBounds_toArray, List.set_cons_succ, List.set_cons_zero]
        refine wpAnyH_ready (rs := [9]) (by kernel_rfl) (by simp) (AllReadyH.cons rfl (fun K hK => ?_) (AllReadyH.nil))
        have hS06 := hS5
        have e6_0 := g16_5.at (i := 0) rfl
        have f6_0 := g16_5.free 0
        have e6_1 := g16_5.at (i := 1) rfl
        have f6_1 := g16_5.free 1
        have e6_2 := g16_5.at (i := 2) rfl
        have f6_2 := g16_5.free 2
        have e6_3 := g16_5.at (i := 3) rfl
        have f6_3 := g16_5.free 3
        have cc6 : Chg [g16] v5 ((((v5.setCell ⟨g16, 0, none⟩ (.int .i64 c2)).setCell ⟨g16, 1, none⟩ (.int .u64 p2)).setCell ⟨g16, 2, none⟩ (.int .i64 i2)).setCell ⟨g16, 3, none⟩ (.slice a2 n2 d2)) := (((((Chg.refl [g16] v5).setCell ⟨g16, 0, none⟩ (.int .i64 c2) (.inl (by simp))).setCell ⟨g16, 1, none⟩ (.int .u64 p2) (.inl (by simp))).setCell ⟨g16, 2, none⟩ (.int .i64 i2) (.inl (by simp))).setCell ⟨g16, 3, none⟩ (.slice a2 n2 d2) (.inl (by simp)))
        have Bg16_6 : Blk ((((v5.setCell ⟨g16, 0, none⟩ (.int .i64 c2)).setCell ⟨g16, 1, none⟩ (.int .u64 p2)).setCell ⟨g16, 2, none⟩ (.int .i64 i2)).setCell ⟨g16, 3, none⟩ (.slice a2 n2 d2)) g16 68 [.int .i64 c2, .int .u64 p2, .int .i64 i2, .slice a2 n2 d2] := ((((g16_5.set 0 (.int .i64 c2)).set 1 (.int .u64 p2)).set 2 (.int .i64 i2)).set 3 (.slice a2 n2 d2))
        go_simp
        generalize ((((v5.setCell ⟨g16, 0, none⟩ (.int .i64 c2)).setCell ⟨g16, 1, none⟩ (.int .u64 p2)).setCell ⟨g16, 2, none⟩ (.int .i64 i2)).setCell ⟨g16, 3, none⟩ (.slice a2 n2 d2)) = v6 at *
        clear e6_0 f6_0 e6_1 f6_1 e6_2 f6_2 e6_3 f6_3
        have N166 := N165
        have LED6 := LED5.aside cc6 (fun z hz => by simp at hz; subst hz; exact ⟨N166, by omega⟩)
        have ROX6 := ROX5.chg cc6 (by simp; omega)
        have N156 := N155
        have g15_6 := Bg15_5.chg cc6 (by simp; omega)
        have hS6 : v6.cell? ⟨ga, 0, none⟩ = some (.int .i64 e1.client) ∧ v6.cell? ⟨ga, 1, none⟩ = some (.int .u64 e1.nonce) ∧ v6.cell? ⟨ga, 2, none⟩ = some (.int .u64 e1.fee) ∧ v6.cell? ⟨ga, 3, none⟩ = some (.bool e1.good) ∧ v6.cell? ⟨ga, 4, none⟩ = some (.int .i64 e1.tx.kind) ∧ v6.cell? ⟨ga, 5, none⟩ = some (.int .i64 e1.tx.asset) ∧ v6.cell? ⟨ga, 6, none⟩ = some (.int .i64 e1.tx.dst) ∧ v6.cell? ⟨ga, 7, none⟩ = some (.bool e1.tx.buy) ∧ v6.cell? ⟨ga, 8, none⟩ = some (.int .u64 e1.tx.price) ∧ v6.cell? ⟨ga, 9, none⟩ = some (.int .u64 e1.tx.qty) ∧ v6.cell? ⟨ga, 10, none⟩ = some (.int .i64 e1.tx.id) ∧ v6.cell? ⟨gb, 0, none⟩ = some (.int .i64 e2.client) ∧ v6.cell? ⟨gb, 1, none⟩ = some (.int .u64 e2.nonce) ∧ v6.cell? ⟨gb, 2, none⟩ = some (.int .u64 e2.fee) ∧ v6.cell? ⟨gb, 3, none⟩ = some (.bool e2.good) ∧ v6.cell? ⟨gb, 4, none⟩ = some (.int .i64 e2.tx.kind) ∧ v6.cell? ⟨gb, 5, none⟩ = some (.int .i64 e2.tx.asset) ∧ v6.cell? ⟨gb, 6, none⟩ = some (.int .i64 e2.tx.dst) ∧ v6.cell? ⟨gb, 7, none⟩ = some (.bool e2.tx.buy) ∧ v6.cell? ⟨gb, 8, none⟩ = some (.int .u64 e2.tx.price) ∧ v6.cell? ⟨gb, 9, none⟩ = some (.int .u64 e2.tx.qty) ∧ v6.cell? ⟨gb, 10, none⟩ = some (.int .i64 e2.tx.id) := ⟨cc6.cell hS5.1 (by simp; omega), cc6.cell hS5.2.1 (by simp; omega), cc6.cell hS5.2.2.1 (by simp; omega), cc6.cell hS5.2.2.2.1 (by simp; omega), cc6.cell hS5.2.2.2.2.1 (by simp; omega), cc6.cell hS5.2.2.2.2.2.1 (by simp; omega), cc6.cell hS5.2.2.2.2.2.2.1 (by simp; omega), cc6.cell hS5.2.2.2.2.2.2.2.1 (by simp; omega), cc6.cell hS5.2.2.2.2.2.2.2.2.1 (by simp; omega), cc6.cell hS5.2.2.2.2.2.2.2.2.2.1 (by simp; omega), cc6.cell hS5.2.2.2.2.2.2.2.2.2.2.1 (by simp; omega), cc6.cell hS5.2.2.2.2.2.2.2.2.2.2.2.1 (by simp; omega), cc6.cell hS5.2.2.2.2.2.2.2.2.2.2.2.2.1 (by simp; omega), cc6.cell hS5.2.2.2.2.2.2.2.2.2.2.2.2.2.1 (by simp; omega), cc6.cell hS5.2.2.2.2.2.2.2.2.2.2.2.2.2.2.1 (by simp; omega), cc6.cell hS5.2.2.2.2.2.2.2.2.2.2.2.2.2.2.2.1 (by simp; omega), cc6.cell hS5.2.2.2.2.2.2.2.2.2.2.2.2.2.2.2.2.1 (by simp; omega), cc6.cell hS5.2.2.2.2.2.2.2.2.2.2.2.2.2.2.2.2.2.1 (by simp; omega), cc6.cell hS5.2.2.2.2.2.2.2.2.2.2.2.2.2.2.2.2.2.2.1 (by simp; omega), cc6.cell hS5.2.2.2.2.2.2.2.2.2.2.2.2.2.2.2.2.2.2.2.1 (by simp; omega), cc6.cell hS5.2.2.2.2.2.2.2.2.2.2.2.2.2.2.2.2.2.2.2.2.1 (by simp; omega), cc6.cell hS5.2.2.2.2.2.2.2.2.2.2.2.2.2.2.2.2.2.2.2.2.2 (by simp; omega)⟩
        have ch6 := (ch5).trans' cc6 (fun z hz => .inr (by simp at hz; subst hz; omega))
        refine hK.out _ _ hS6 (fun hHeld => ?_)
        clear hK K
        try simp only [Act.put, List.setIfInBounds_toArray, List.set_cons_succ, List.set_cons_zero]
        refine wpAnyH_done (by kernel_rfl) ?_ _
        exact hQ _ _ _ _ _ _ _ _ LED6 ROX6.row g15_6 Bg16_6 _ _ _ _ _ _
      · skip
        have hS03 := hS2
        have cc3 : Chg [] v2 (v2.alloc (.cells #[.int .i64 0, .int .u64 0, .int .i64 0, .slice none 0 0] 68)) := (Chg.refl _ _).alloc _
        have Bg15 : Blk (v2.alloc (.cells #[.int .i64 0, .int .u64 0, .int .i64 0, .slice none 0 0] 68)) v2.heap.size 68 [.int .i64 0, .int .u64 0, .int .i64 0, .slice none 0 0] := Blk.new _ _ _
        have Lg15 := ch2.size
        have ltg16_3 := Bg16.lt
        have N153 : v2.heap.size ∉ F2_ := fun hm => by have := (LED2.lt _ hm).2; omega
        have sz_3 := cc3.size
        go_simp
        generalize hg15 : v2.heap.size = g15 at *
        generalize v2.alloc _ = v3 at *
        have LED3 := LED2.to cc3
        have N163 := N162
        have g16_3 := Bg16.chg cc3 (by simp)
        have hS3 : v3.cell? ⟨ga, 0, none⟩ = some (.int .i64 e1.client) ∧ v3.cell? ⟨ga, 1, none⟩ = some (.int .u64 e1.nonce) ∧ v3.cell? ⟨ga, 2, none⟩ = some (.int .u64 e1.fee) ∧ v3.cell? ⟨ga, 3, none⟩ = some (.bool e1.good) ∧ v3.cell? ⟨ga, 4, none⟩ = some (.int .i64 e1.tx.kind) ∧ v3.cell? ⟨ga, 5, none⟩ = some (.int .i64 e1.tx.asset) ∧ v3.cell? ⟨ga, 6, none⟩ = some (.int .i64 e1.tx.dst) ∧ v3.cell? ⟨ga, 7, none⟩ = some (.bool e1.tx.buy) ∧ v3.cell? ⟨ga, 8, none⟩ = some (.int .u64 e1.tx.price) ∧ v3.cell? ⟨ga, 9, none⟩ = some (.int .u64 e1.tx.qty) ∧ v3.cell? ⟨ga, 10, none⟩ = some (.int .i64 e1.tx.id) ∧ v3.cell? ⟨gb, 0, none⟩ = some (.int .i64 e2.client) ∧ v3.cell? ⟨gb, 1, none⟩ = some (.int .u64 e2.nonce) ∧ v3.cell? ⟨gb, 2, none⟩ = some (.int .u64 e2.fee) ∧ v3.cell? ⟨gb, 3, none⟩ = some (.bool e2.good) ∧ v3.cell? ⟨gb, 4, none⟩ = some (.int .i64 e2.tx.kind) ∧ v3.cell? ⟨gb, 5, none⟩ = some (.int .i64 e2.tx.asset) ∧ v3.cell? ⟨gb, 6, none⟩ = some (.int .i64 e2.tx.dst) ∧ v3.cell? ⟨gb, 7, none⟩ = some (.bool e2.tx.buy) ∧ v3.cell? ⟨gb, 8, none⟩ = some (.int .u64 e2.tx.price) ∧ v3.cell? ⟨gb, 9, none⟩ = some (.int .u64 e2.tx.qty) ∧ v3.cell? ⟨gb, 10, none⟩ = some (.int .i64 e2.tx.id) := ⟨cc3.cell hS2.1 (by simp), cc3.cell hS2.2.1 (by simp), cc3.cell hS2.2.2.1 (by simp), cc3.cell hS2.2.2.2.1 (by simp), cc3.cell hS2.2.2.2.2.1 (by simp), cc3.cell hS2.2.2.2.2.2.1 (by simp), cc3.cell hS2.2.2.2.2.2.2.1 (by simp), cc3.cell hS2.2.2.2.2.2.2.2.1 (by simp), cc3.cell hS2.2.2.2.2.2.2.2.2.1 (by simp), cc3.cell hS2.2.2.2.2.2.2.2.2.2.1 (by simp), cc3.cell hS2.2.2.2.2.2.2.2.2.2.2.1 (by simp), cc3.cell hS2.2.2.2.2.2.2.2.2.2.2.2.1 (by simp), cc3.cell hS2.2.2.2.2.2.2.2.2.2.2.2.2.1 (by simp), cc3.cell hS2.2.2.2.2.2.2.2.2.2.2.2.2.2.1 (by simp), cc3.cell hS2.2.2.2.2.2.2.2.2.2.2.2.2.2.2.1 (by simp), cc3.cell hS2.2.2.2.2.2.2.2.2.2.2.2.2.2.2.2.1 (by simp), cc3.cell hS2.2.2.2.2.2.2.2.2.2.2.2.2.2.2.2.2.1 (by simp), cc3.cell hS2.2.2.2.2.2.2.2.2.2.2.2.2.2.2.2.2.2.1 (by simp), cc3.cell hS2.2.2.2.2.2.2.2.2.2.2.2.2.2.2.2.2.2.2.1 (by simp), cc3.cell hS2.2.2.2.2.2.2.2.2.2.2.2.2.2.2.2.2.2.2.2.1 (by simp), cc3.cell hS2.2.2.2.2.2.2.2.2.2.2.2.2.2.2.2.2.2.2.2.2.1 (by simp), cc3.cell hS2.2.2.2.2.2.2.2.2.2.2.2.2.2.2.2.2.2.2.2.2.2 (by simp)⟩
        have ch3 := (ch2).trans' cc3 (by simp)
        refine hK.out _ _ hS3 (fun hHeld => ?_)
        clear hK K
        try simp only [Act.put, List.setIfInBounds_toArray, List.set_cons_succ, List.set_cons_zero]
        refine wpAnyH_ready (rs := [5]) (by kernel_rfl) (by simp) (AllReadyH.cons rfl (fun K hK => ?_) (AllReadyH.nil))
        have hS04 := hS3
        go_simp
        have sz5 := ch3.size
        have lug16_5 := g16_3.lt
        have lug15_5 := Bg15.lt
        refine (lxDo LED3 (by omega) e2 HE2.out S2 ⟨c2, p2, i2, T2⟩ HD2.out).mono ?_
        dsimp only
        rw [HN2.out]
        rintro y v4 ⟨a2, d2, F5_, rfl, hN2, hL5, cc4, gr5⟩
        have nA2 : ga ∉ F5_ := fun hm => (gr5 _ hm).elim nA1 fun e => by omega
        have nB2 : gb ∉ F5_ := fun hm => (gr5 _ hm).elim nB1 fun e => by omega
        have sw5 := cc4.size
        have N164 := (show g16 ∉ F5_ from fun hm => (gr5 _ hm).elim N163 fun e => by omega)
        have N154 := (show g15 ∉ F5_ from fun hm => (gr5 _ hm).elim N153 fun e => by omega)
        have g16_4 := g16_3.chg cc4 (N163)
        have g15_4 := Bg15.chg cc4 (N153)
        have hS4 : v4.cell? ⟨ga, 0, none⟩ = some (.int .i64 e1.client) ∧ v4.cell? ⟨ga, 1, none⟩ = some (.int .u64 e1.nonce) ∧ v4.cell? ⟨ga, 2, none⟩ = some (.int .u64 e1.fee) ∧ v4.cell? ⟨ga, 3, none⟩ = some (.bool e1.good) ∧ v4.cell? ⟨ga, 4, none⟩ = some (.int .i64 e1.tx.kind) ∧ v4.cell? ⟨ga, 5, none⟩ = some (.int .i64 e1.tx.asset) ∧ v4.cell? ⟨ga, 6, none⟩ = some (.int .i64 e1.tx.dst) ∧ v4.cell? ⟨ga, 7, none⟩ = some (.bool e1.tx.buy) ∧ v4.cell? ⟨ga, 8, none⟩ = some (.int .u64 e1.tx.price) ∧ v4.cell? ⟨ga, 9, none⟩ = some (.int .u64 e1.tx.qty) ∧ v4.cell? ⟨ga, 10, none⟩ = some (.int .i64 e1.tx.id) ∧ v4.cell? ⟨gb, 0, none⟩ = some (.int .i64 e2.client) ∧ v4.cell? ⟨gb, 1, none⟩ = some (.int .u64 e2.nonce) ∧ v4.cell? ⟨gb, 2, none⟩ = some (.int .u64 e2.fee) ∧ v4.cell? ⟨gb, 3, none⟩ = some (.bool e2.good) ∧ v4.cell? ⟨gb, 4, none⟩ = some (.int .i64 e2.tx.kind) ∧ v4.cell? ⟨gb, 5, none⟩ = some (.int .i64 e2.tx.asset) ∧ v4.cell? ⟨gb, 6, none⟩ = some (.int .i64 e2.tx.dst) ∧ v4.cell? ⟨gb, 7, none⟩ = some (.bool e2.tx.buy) ∧ v4.cell? ⟨gb, 8, none⟩ = some (.int .u64 e2.tx.price) ∧ v4.cell? ⟨gb, 9, none⟩ = some (.int .u64 e2.tx.qty) ∧ v4.cell? ⟨gb, 10, none⟩ = some (.int .i64 e2.tx.id) := ⟨cc4.cell hS3.1 (by first | exact nA1 | exact nB1), cc4.cell hS3.2.1 (by first | exact nA1 | exact nB1), cc4.cell hS3.2.2.1 (by first | exact nA1 | exact nB1), cc4.cell hS3.2.2.2.1 (by first | exact nA1 | exact nB1), cc4.cell hS3.2.2.2.2.1 (by first | exact nA1 | exact nB1), cc4.cell hS3.2.2.2.2.2.1 (by first | exact nA1 | exact nB1), cc4.cell hS3.2.2.2.2.2.2.1 (by first | exact nA1 | exact nB1), cc4.cell hS3.2.2.2.2.2.2.2.1 (by first | exact nA1 | exact nB1), cc4.cell hS3.2.2.2.2.2.2.2.2.1 (by first | exact nA1 | exact nB1), cc4.cell hS3.2.2.2.2.2.2.2.2.2.1 (by first | exact nA1 | exact nB1), cc4.cell hS3.2.2.2.2.2.2.2.2.2.2.1 (by first | exact nA1 | exact nB1), cc4.cell hS3.2.2.2.2.2.2.2.2.2.2.2.1 (by first | exact nA1 | exact nB1), cc4.cell hS3.2.2.2.2.2.2.2.2.2.2.2.2.1 (by first | exact nA1 | exact nB1), cc4.cell hS3.2.2.2.2.2.2.2.2.2.2.2.2.2.1 (by first | exact nA1 | exact nB1), cc4.cell hS3.2.2.2.2.2.2.2.2.2.2.2.2.2.2.1 (by first | exact nA1 | exact nB1), cc4.cell hS3.2.2.2.2.2.2.2.2.2.2.2.2.2.2.2.1 (by first | exact nA1 | exact nB1), cc4.cell hS3.2.2.2.2.2.2.2.2.2.2.2.2.2.2.2.2.1 (by first | exact nA1 | exact nB1), cc4.cell hS3.2.2.2.2.2.2.2.2.2.2.2.2.2.2.2.2.2.1 (by first | exact nA1 | exact nB1), cc4.cell hS3.2.2.2.2.2.2.2.2.2.2.2.2.2.2.2.2.2.2.1 (by first | exact nA1 | exact nB1), cc4.cell hS3.2.2.2.2.2.2.2.2.2.2.2.2.2.2.2.2.2.2.2.1 (by first | exact nA1 | exact nB1), cc4.cell hS3.2.2.2.2.2.2.2.2.2.2.2.2.2.2.2.2.2.2.2.2.1 (by first | exact nA1 | exact nB1), cc4.cell hS3.2.2.2.2.2.2.2.2.2.2.2.2.2.2.2.2.2.2.2.2.2 (by first | exact nA1 | exact nB1)⟩
        have ch4 := (ch3).trans' cc4 (fun z hz => (gr2 z hz).imp id fun e => by omega)
        go_wp2_with fail
        refine hK.out _ _ hS4 (fun hHeld => ?_)
        clear hK K
        try simp only [Act.put, List.setIfInBounds_toArray, List.set_cons_succ, List.set_cons_zero]
        refine wpAnyH_ready (rs := [8]) (by kernel_rfl) (by simp) (AllReadyH.cons rfl (fun K hK => ?_) (AllReadyH.nil))
        have hS05 := hS4
        have e5_0 := g15_4.at (i := 0) rfl
        have f5_0 := g15_4.free 0
        have e5_1 := g15_4.at (i := 1) rfl
        have f5_1 := g15_4.free 1
        have e5_2 := g15_4.at (i := 2) rfl
        have f5_2 := g15_4.free 2
        have e5_3 := g15_4.at (i := 3) rfl
        have f5_3 := g15_4.free 3
        have cc5 : Chg [g15] v4 ((((v4.setCell ⟨g15, 0, none⟩ (.int .i64 c1)).setCell ⟨g15, 1, none⟩ (.int .u64 p1)).setCell ⟨g15, 2, none⟩ (.int .i64 i1)).setCell ⟨g15, 3, none⟩ (.slice a1 n1 d1)) := (((((Chg.refl [g15] v4).setCell ⟨g15, 0, none⟩ (.int .i64 c1) (.inl (by simp))).setCell ⟨g15, 1, none⟩ (.int .u64 p1) (.inl (by simp))).setCell ⟨g15, 2, none⟩ (.int .i64 i1) (.inl (by simp))).setCell ⟨g15, 3, none⟩ (.slice a1 n1 d1) (.inl (by simp)))
        have Bg15_5 : Blk ((((v4.setCell ⟨g15, 0, none⟩ (.int .i64 c1)).setCell ⟨g15, 1, none⟩ (.int .u64 p1)).setCell ⟨g15, 2, none⟩ (.int .i64 i1)).setCell ⟨g15, 3, none⟩ (.slice a1 n1 d1)) g15 68 [.int .i64 c1, .int .u64 p1, .int .i64 i1, .slice a1 n1 d1] := ((((g15_4.set 0 (.int .i64 c1)).set 1 (.int .u64 p1)).set 2 (.int .i64 i1)).set 3 (.slice a1 n1 d1))
        go_simp
        generalize ((((v4.setCell ⟨g15, 0, none⟩ (.int .i64 c1)).setCell ⟨g15, 1, none⟩ (.int .u64 p1)).setCell ⟨g15, 2, none⟩ (.int .i64 i1)).setCell ⟨g15, 3, none⟩ (.slice a1 n1 d1)) = v5 at *
        clear e5_0 f5_0 e5_1 f5_1 e5_2 f5_2 e5_3 f5_3
        have N165 := N164
        have N155 := N154
        have LED5 := hL5.aside cc5 (fun z hz => by simp at hz; subst hz; exact ⟨N155, by omega⟩)
        have ROX5 := hN2.btw.chg cc5 (by simp; omega)
        have g16_5 := g16_4.chg cc5 (by simp; omega)
        have hS5 : v5.cell? ⟨ga, 0, none⟩ = some (.int .i64 e1.client) ∧ v5.cell? ⟨ga, 1, none⟩ = some (.int .u64 e1.nonce) ∧ v5.cell? ⟨ga, 2, none⟩ = some (.int .u64 e1.fee) ∧ v5.cell? ⟨ga, 3, none⟩ = some (.bool e1.good) ∧ v5.cell? ⟨ga, 4, none⟩ = some (.int .i64 e1.tx.kind) ∧ v5.cell? ⟨ga, 5, none⟩ = some (.int .i64 e1.tx.asset) ∧ v5.cell? ⟨ga, 6, none⟩ = some (.int .i64 e1.tx.dst) ∧ v5.cell? ⟨ga, 7, none⟩ = some (.bool e1.tx.buy) ∧ v5.cell? ⟨ga, 8, none⟩ = some (.int .u64 e1.tx.price) ∧ v5.cell? ⟨ga, 9, none⟩ = some (.int .u64 e1.tx.qty) ∧ v5.cell? ⟨ga, 10, none⟩ = some (.int .i64 e1.tx.id) ∧ v5.cell? ⟨gb, 0, none⟩ = some (.int .i64 e2.client) ∧ v5.cell? ⟨gb, 1, none⟩ = some (.int .u64 e2.nonce) ∧ v5.cell? ⟨gb, 2, none⟩ = some (.int .u64 e2.fee) ∧ v5.cell? ⟨gb, 3, none⟩ = some (.bool e2.good) ∧ v5.cell? ⟨gb, 4, none⟩ = some (.int .i64 e2.tx.kind) ∧ v5.cell? ⟨gb, 5, none⟩ = some (.int .i64 e2.tx.asset) ∧ v5.cell? ⟨gb, 6, none⟩ = some (.int .i64 e2.tx.dst) ∧ v5.cell? ⟨gb, 7, none⟩ = some (.bool e2.tx.buy) ∧ v5.cell? ⟨gb, 8, none⟩ = some (.int .u64 e2.tx.price) ∧ v5.cell? ⟨gb, 9, none⟩ = some (.int .u64 e2.tx.qty) ∧ v5.cell? ⟨gb, 10, none⟩ = some (.int .i64 e2.tx.id) := ⟨cc5.cell hS4.1 (by simp; omega), cc5.cell hS4.2.1 (by simp; omega), cc5.cell hS4.2.2.1 (by simp; omega), cc5.cell hS4.2.2.2.1 (by simp; omega), cc5.cell hS4.2.2.2.2.1 (by simp; omega), cc5.cell hS4.2.2.2.2.2.1 (by simp; omega), cc5.cell hS4.2.2.2.2.2.2.1 (by simp; omega), cc5.cell hS4.2.2.2.2.2.2.2.1 (by simp; omega), cc5.cell hS4.2.2.2.2.2.2.2.2.1 (by simp; omega), cc5.cell hS4.2.2.2.2.2.2.2.2.2.1 (by simp; omega), cc5.cell hS4.2.2.2.2.2.2.2.2.2.2.1 (by simp; omega), cc5.cell hS4.2.2.2.2.2.2.2.2.2.2.2.1 (by simp; omega), cc5.cell hS4.2.2.2.2.2.2.2.2.2.2.2.2.1 (by simp; omega), cc5.cell hS4.2.2.2.2.2.2.2.2.2.2.2.2.2.1 (by simp; omega), cc5.cell hS4.2.2.2.2.2.2.2.2.2.2.2.2.2.2.1 (by simp; omega), cc5.cell hS4.2.2.2.2.2.2.2.2.2.2.2.2.2.2.2.1 (by simp; omega), cc5.cell hS4.2.2.2.2.2.2.2.2.2.2.2.2.2.2.2.2.1 (by simp; omega), cc5.cell hS4.2.2.2.2.2.2.2.2.2.2.2.2.2.2.2.2.2.1 (by simp; omega), cc5.cell hS4.2.2.2.2.2.2.2.2.2.2.2.2.2.2.2.2.2.2.1 (by simp; omega), cc5.cell hS4.2.2.2.2.2.2.2.2.2.2.2.2.2.2.2.2.2.2.2.1 (by simp; omega), cc5.cell hS4.2.2.2.2.2.2.2.2.2.2.2.2.2.2.2.2.2.2.2.2.1 (by simp; omega), cc5.cell hS4.2.2.2.2.2.2.2.2.2.2.2.2.2.2.2.2.2.2.2.2.2 (by simp; omega)⟩
        have ch5 := (ch4).trans' cc5 (fun z hz => .inr (by simp at hz; subst hz; omega))
        refine hK.out _ _ hS5 (fun hHeld => ?_)
        clear hK K
        try simp only [Act.put, List.setIfInBounds_toArray, List.set_cons_succ, List.set_cons_zero]
        refine wpAnyH_ready (rs := [9]) (by kernel_rfl) (by simp) (AllReadyH.cons rfl (fun K hK => ?_) (AllReadyH.nil))
        have hS06 := hS5
        have e6_0 := g16_5.at (i := 0) rfl
        have f6_0 := g16_5.free 0
        have e6_1 := g16_5.at (i := 1) rfl
        have f6_1 := g16_5.free 1
        have e6_2 := g16_5.at (i := 2) rfl
        have f6_2 := g16_5.free 2
        have e6_3 := g16_5.at (i := 3) rfl
        have f6_3 := g16_5.free 3
        have cc6 : Chg [g16] v5 ((((v5.setCell ⟨g16, 0, none⟩ (.int .i64 c2)).setCell ⟨g16, 1, none⟩ (.int .u64 p2)).setCell ⟨g16, 2, none⟩ (.int .i64 i2)).setCell ⟨g16, 3, none⟩ (.slice a2 n2 d2)) := (((((Chg.refl [g16] v5).setCell ⟨g16, 0, none⟩ (.int .i64 c2) (.inl (by simp))).setCell ⟨g16, 1, none⟩ (.int .u64 p2) (.inl (by simp))).setCell ⟨g16, 2, none⟩ (.int .i64 i2) (.inl (by simp))).setCell ⟨g16, 3, none⟩ (.slice a2 n2 d2) (.inl (by simp)))
        have Bg16_6 : Blk ((((v5.setCell ⟨g16, 0, none⟩ (.int .i64 c2)).setCell ⟨g16, 1, none⟩ (.int .u64 p2)).setCell ⟨g16, 2, none⟩ (.int .i64 i2)).setCell ⟨g16, 3, none⟩ (.slice a2 n2 d2)) g16 68 [.int .i64 c2, .int .u64 p2, .int .i64 i2, .slice a2 n2 d2] := ((((g16_5.set 0 (.int .i64 c2)).set 1 (.int .u64 p2)).set 2 (.int .i64 i2)).set 3 (.slice a2 n2 d2))
        go_simp
        generalize ((((v5.setCell ⟨g16, 0, none⟩ (.int .i64 c2)).setCell ⟨g16, 1, none⟩ (.int .u64 p2)).setCell ⟨g16, 2, none⟩ (.int .i64 i2)).setCell ⟨g16, 3, none⟩ (.slice a2 n2 d2)) = v6 at *
        clear e6_0 f6_0 e6_1 f6_1 e6_2 f6_2 e6_3 f6_3
        have N166 := N165
        have N156 := N155
        have LED6 := LED5.aside cc6 (fun z hz => by simp at hz; subst hz; exact ⟨N166, by omega⟩)
        have ROX6 := ROX5.chg cc6 (by simp; omega)
        have g15_6 := Bg15_5.chg cc6 (by simp; omega)
        have hS6 : v6.cell? ⟨ga, 0, none⟩ = some (.int .i64 e1.client) ∧ v6.cell? ⟨ga, 1, none⟩ = some (.int .u64 e1.nonce) ∧ v6.cell? ⟨ga, 2, none⟩ = some (.int .u64 e1.fee) ∧ v6.cell? ⟨ga, 3, none⟩ = some (.bool e1.good) ∧ v6.cell? ⟨ga, 4, none⟩ = some (.int .i64 e1.tx.kind) ∧ v6.cell? ⟨ga, 5, none⟩ = some (.int .i64 e1.tx.asset) ∧ v6.cell? ⟨ga, 6, none⟩ = some (.int .i64 e1.tx.dst) ∧ v6.cell? ⟨ga, 7, none⟩ = some (.bool e1.tx.buy) ∧ v6.cell? ⟨ga, 8, none⟩ = some (.int .u64 e1.tx.price) ∧ v6.cell? ⟨ga, 9, none⟩ = some (.int .u64 e1.tx.qty) ∧ v6.cell? ⟨ga, 10, none⟩ = some (.int .i64 e1.tx.id) ∧ v6.cell? ⟨gb, 0, none⟩ = some (.int .i64 e2.client) ∧ v6.cell? ⟨gb, 1, none⟩ = some (.int .u64 e2.nonce) ∧ v6.cell? ⟨gb, 2, none⟩ = some (.int .u64 e2.fee) ∧ v6.cell? ⟨gb, 3, none⟩ = some (.bool e2.good) ∧ v6.cell? ⟨gb, 4, none⟩ = some (.int .i64 e2.tx.kind) ∧ v6.cell? ⟨gb, 5, none⟩ = some (.int .i64 e2.tx.asset) ∧ v6.cell? ⟨gb, 6, none⟩ = some (.int .i64 e2.tx.dst) ∧ v6.cell? ⟨gb, 7, none⟩ = some (.bool e2.tx.buy) ∧ v6.cell? ⟨gb, 8, none⟩ = some (.int .u64 e2.tx.price) ∧ v6.cell? ⟨gb, 9, none⟩ = some (.int .u64 e2.tx.qty) ∧ v6.cell? ⟨gb, 10, none⟩ = some (.int .i64 e2.tx.id) := ⟨cc6.cell hS5.1 (by simp; omega), cc6.cell hS5.2.1 (by simp; omega), cc6.cell hS5.2.2.1 (by simp; omega), cc6.cell hS5.2.2.2.1 (by simp; omega), cc6.cell hS5.2.2.2.2.1 (by simp; omega), cc6.cell hS5.2.2.2.2.2.1 (by simp; omega), cc6.cell hS5.2.2.2.2.2.2.1 (by simp; omega), cc6.cell hS5.2.2.2.2.2.2.2.1 (by simp; omega), cc6.cell hS5.2.2.2.2.2.2.2.2.1 (by simp; omega), cc6.cell hS5.2.2.2.2.2.2.2.2.2.1 (by simp; omega), cc6.cell hS5.2.2.2.2.2.2.2.2.2.2.1 (by simp; omega), cc6.cell hS5.2.2.2.2.2.2.2.2.2.2.2.1 (by simp; omega), cc6.cell hS5.2.2.2.2.2.2.2.2.2.2.2.2.1 (by simp; omega), cc6.cell hS5.2.2.2.2.2.2.2.2.2.2.2.2.2.1 (by simp; omega), cc6.cell hS5.2.2.2.2.2.2.2.2.2.2.2.2.2.2.1 (by simp; omega), cc6.cell hS5.2.2.2.2.2.2.2.2.2.2.2.2.2.2.2.1 (by simp; omega), cc6.cell hS5.2.2.2.2.2.2.2.2.2.2.2.2.2.2.2.2.1 (by simp; omega), cc6.cell hS5.2.2.2.2.2.2.2.2.2.2.2.2.2.2.2.2.2.1 (by simp; omega), cc6.cell hS5.2.2.2.2.2.2.2.2.2.2.2.2.2.2.2.2.2.2.1 (by simp; omega), cc6.cell hS5.2.2.2.2.2.2.2.2.2.2.2.2.2.2.2.2.2.2.2.1 (by simp; omega), cc6.cell hS5.2.2.2.2.2.2.2.2.2.2.2.2.2.2.2.2.2.2.2.2.1 (by simp; omega), cc6.cell hS5.2.2.2.2.2.2.2.2.2.2.2.2.2.2.2.2.2.2.2.2.2 (by simp; omega)⟩
        have ch6 := (ch5).trans' cc6 (fun z hz => .inr (by simp at hz; subst hz; omega))
        refine hK.out _ _ hS6 (fun hHeld => ?_)
        clear hK K
        try simp only [Act.put, List.setIfInBounds_toArray, List.set_cons_succ, List.set_cons_zero]
        refine wpAnyH_done (by kernel_rfl) ?_ _
        exact hQ _ _ _ _ _ _ _ _ LED6 ROX6.row g15_6 Bg16_6 _ _ _ _ _ _
  · skip
    have hS01 := hS
    have cc1 : Chg [] v0 (v0.alloc (.cells #[.int .i64 0, .int .u64 0, .int .i64 0, .slice none 0 0] 68)) := (Chg.refl _ _).alloc _
    have Bg15 : Blk (v0.alloc (.cells #[.int .i64 0, .int .u64 0, .int .i64 0, .slice none 0 0] 68)) v0.heap.size 68 [.int .i64 0, .int .u64 0, .int .i64 0, .slice none 0 0] := Blk.new _ _ _
    have Lg15 := chW.size
    have N151 : v0.heap.size ∉ FF := fun hm => by have := (LED_0.lt _ hm).2; omega
    have sz_1 := cc1.size
    go_simp
    generalize hg15 : v0.heap.size = g15 at *
    generalize v0.alloc _ = v1 at *
    have LED1 := LED_0.to cc1
    have hS1 : v1.cell? ⟨ga, 0, none⟩ = some (.int .i64 e1.client) ∧ v1.cell? ⟨ga, 1, none⟩ = some (.int .u64 e1.nonce) ∧ v1.cell? ⟨ga, 2, none⟩ = some (.int .u64 e1.fee) ∧ v1.cell? ⟨ga, 3, none⟩ = some (.bool e1.good) ∧ v1.cell? ⟨ga, 4, none⟩ = some (.int .i64 e1.tx.kind) ∧ v1.cell? ⟨ga, 5, none⟩ = some (.int .i64 e1.tx.asset) ∧ v1.cell? ⟨ga, 6, none⟩ = some (.int .i64 e1.tx.dst) ∧ v1.cell? ⟨ga, 7, none⟩ = some (.bool e1.tx.buy) ∧ v1.cell? ⟨ga, 8, none⟩ = some (.int .u64 e1.tx.price) ∧ v1.cell? ⟨ga, 9, none⟩ = some (.int .u64 e1.tx.qty) ∧ v1.cell? ⟨ga, 10, none⟩ = some (.int .i64 e1.tx.id) ∧ v1.cell? ⟨gb, 0, none⟩ = some (.int .i64 e2.client) ∧ v1.cell? ⟨gb, 1, none⟩ = some (.int .u64 e2.nonce) ∧ v1.cell? ⟨gb, 2, none⟩ = some (.int .u64 e2.fee) ∧ v1.cell? ⟨gb, 3, none⟩ = some (.bool e2.good) ∧ v1.cell? ⟨gb, 4, none⟩ = some (.int .i64 e2.tx.kind) ∧ v1.cell? ⟨gb, 5, none⟩ = some (.int .i64 e2.tx.asset) ∧ v1.cell? ⟨gb, 6, none⟩ = some (.int .i64 e2.tx.dst) ∧ v1.cell? ⟨gb, 7, none⟩ = some (.bool e2.tx.buy) ∧ v1.cell? ⟨gb, 8, none⟩ = some (.int .u64 e2.tx.price) ∧ v1.cell? ⟨gb, 9, none⟩ = some (.int .u64 e2.tx.qty) ∧ v1.cell? ⟨gb, 10, none⟩ = some (.int .i64 e2.tx.id) := ⟨cc1.cell hS.1 (by simp), cc1.cell hS.2.1 (by simp), cc1.cell hS.2.2.1 (by simp), cc1.cell hS.2.2.2.1 (by simp), cc1.cell hS.2.2.2.2.1 (by simp), cc1.cell hS.2.2.2.2.2.1 (by simp), cc1.cell hS.2.2.2.2.2.2.1 (by simp), cc1.cell hS.2.2.2.2.2.2.2.1 (by simp), cc1.cell hS.2.2.2.2.2.2.2.2.1 (by simp), cc1.cell hS.2.2.2.2.2.2.2.2.2.1 (by simp), cc1.cell hS.2.2.2.2.2.2.2.2.2.2.1 (by simp), cc1.cell hS.2.2.2.2.2.2.2.2.2.2.2.1 (by simp), cc1.cell hS.2.2.2.2.2.2.2.2.2.2.2.2.1 (by simp), cc1.cell hS.2.2.2.2.2.2.2.2.2.2.2.2.2.1 (by simp), cc1.cell hS.2.2.2.2.2.2.2.2.2.2.2.2.2.2.1 (by simp), cc1.cell hS.2.2.2.2.2.2.2.2.2.2.2.2.2.2.2.1 (by simp), cc1.cell hS.2.2.2.2.2.2.2.2.2.2.2.2.2.2.2.2.1 (by simp), cc1.cell hS.2.2.2.2.2.2.2.2.2.2.2.2.2.2.2.2.2.1 (by simp), cc1.cell hS.2.2.2.2.2.2.2.2.2.2.2.2.2.2.2.2.2.2.1 (by simp), cc1.cell hS.2.2.2.2.2.2.2.2.2.2.2.2.2.2.2.2.2.2.2.1 (by simp), cc1.cell hS.2.2.2.2.2.2.2.2.2.2.2.2.2.2.2.2.2.2.2.2.1 (by simp), cc1.cell hS.2.2.2.2.2.2.2.2.2.2.2.2.2.2.2.2.2.2.2.2.2 (by simp)⟩
    have ch1 := (chW).trans' cc1 (by simp)
    refine hK.out _ _ hS1 (fun hHeld => ?_)
    clear hK K
    try simp only [Act.put, List.setIfInBounds_toArray, List.set_cons_succ, List.set_cons_zero]
    refine wpAnyH_ready (rs := [2, 7]) (by kernel_rfl) (by simp) (AllReadyH.cons rfl (fun K hK => ?_) (AllReadyH.cons rfl (fun K hK => ?_) (AllReadyH.nil)))
    · skip
      have hS02 := hS1
      go_simp
      have sz2 := ch1.size
      have lug15_2 := Bg15.lt
      refine (lxDo LED1 (by omega) e1 HE1.out S1 ⟨c1, p1, i1, T1⟩ HD1.out).mono ?_
      dsimp only
      rw [HN1.out]
      rintro y v2 ⟨a1, d1, F2_, rfl, hN1, hL2, cc2, gr2⟩
      have nA1 : ga ∉ F2_ := fun hm => (gr2 _ hm).elim nA0 fun e => by omega
      have nB1 : gb ∉ F2_ := fun hm => (gr2 _ hm).elim nB0 fun e => by omega
      have sw2 := cc2.size
      have N152 := (show g15 ∉ F2_ from fun hm => (gr2 _ hm).elim N151 fun e => by omega)
      have g15_2 := Bg15.chg cc2 (N151)
      have hS2 : v2.cell? ⟨ga, 0, none⟩ = some (.int .i64 e1.client) ∧ v2.cell? ⟨ga, 1, none⟩ = some (.int .u64 e1.nonce) ∧ v2.cell? ⟨ga, 2, none⟩ = some (.int .u64 e1.fee) ∧ v2.cell? ⟨ga, 3, none⟩ = some (.bool e1.good) ∧ v2.cell? ⟨ga, 4, none⟩ = some (.int .i64 e1.tx.kind) ∧ v2.cell? ⟨ga, 5, none⟩ = some (.int .i64 e1.tx.asset) ∧ v2.cell? ⟨ga, 6, none⟩ = some (.int .i64 e1.tx.dst) ∧ v2.cell? ⟨ga, 7, none⟩ = some (.bool e1.tx.buy) ∧ v2.cell? ⟨ga, 8, none⟩ = some (.int .u64 e1.tx.price) ∧ v2.cell? ⟨ga, 9, none⟩ = some (.int .u64 e1.tx.qty) ∧ v2.cell? ⟨ga, 10, none⟩ = some (.int .i64 e1.tx.id) ∧ v2.cell? ⟨gb, 0, none⟩ = some (.int .i64 e2.client) ∧ v2.cell? ⟨gb, 1, none⟩ = some (.int .u64 e2.nonce) ∧ v2.cell? ⟨gb, 2, none⟩ = some (.int .u64 e2.fee) ∧ v2.cell? ⟨gb, 3, none⟩ = some (.bool e2.good) ∧ v2.cell? ⟨gb, 4, none⟩ = some (.int .i64 e2.tx.kind) ∧ v2.cell? ⟨gb, 5, none⟩ = some (.int .i64 e2.tx.asset) ∧ v2.cell? ⟨gb, 6, none⟩ = some (.int .i64 e2.tx.dst) ∧ v2.cell? ⟨gb, 7, none⟩ = some (.bool e2.tx.buy) ∧ v2.cell? ⟨gb, 8, none⟩ = some (.int .u64 e2.tx.price) ∧ v2.cell? ⟨gb, 9, none⟩ = some (.int .u64 e2.tx.qty) ∧ v2.cell? ⟨gb, 10, none⟩ = some (.int .i64 e2.tx.id) := ⟨cc2.cell hS1.1 (by first | exact nA0 | exact nB0), cc2.cell hS1.2.1 (by first | exact nA0 | exact nB0), cc2.cell hS1.2.2.1 (by first | exact nA0 | exact nB0), cc2.cell hS1.2.2.2.1 (by first | exact nA0 | exact nB0), cc2.cell hS1.2.2.2.2.1 (by first | exact nA0 | exact nB0), cc2.cell hS1.2.2.2.2.2.1 (by first | exact nA0 | exact nB0), cc2.cell hS1.2.2.2.2.2.2.1 (by first | exact nA0 | exact nB0), cc2.cell hS1.2.2.2.2.2.2.2.1 (by first | exact nA0 | exact nB0), cc2.cell hS1.2.2.2.2.2.2.2.2.1 (by first | exact nA0 | exact nB0), cc2.cell hS1.2.2.2.2.2.2.2.2.2.1 (by first | exact nA0 | exact nB0), cc2.cell hS1.2.2.2.2.2.2.2.2.2.2.1 (by first | exact nA0 | exact nB0), cc2.cell hS1.2.2.2.2.2.2.2.2.2.2.2.1 (by first | exact nA0 | exact nB0), cc2.cell hS1.2.2.2.2.2.2.2.2.2.2.2.2.1 (by first | exact nA0 | exact nB0), cc2.cell hS1.2.2.2.2.2.2.2.2.2.2.2.2.2.1 (by first | exact nA0 | exact nB0), cc2.cell hS1.2.2.2.2.2.2.2.2.2.2.2.2.2.2.1 (by first | exact nA0 | exact nB0), cc2.cell hS1.2.2.2.2.2.2.2.2.2.2.2.2.2.2.2.1 (by first | exact nA0 | exact nB0), cc2.cell hS1.2.2.2.2.2.2.2.2.2.2.2.2.2.2.2.2.1 (by first | exact nA0 | exact nB0), cc2.cell hS1.2.2.2.2.2.2.2.2.2.2.2.2.2.2.2.2.2.1 (by first | exact nA0 | exact nB0), cc2.cell hS1.2.2.2.2.2.2.2.2.2.2.2.2.2.2.2.2.2.2.1 (by first | exact nA0 | exact nB0), cc2.cell hS1.2.2.2.2.2.2.2.2.2.2.2.2.2.2.2.2.2.2.2.1 (by first | exact nA0 | exact nB0), cc2.cell hS1.2.2.2.2.2.2.2.2.2.2.2.2.2.2.2.2.2.2.2.2.1 (by first | exact nA0 | exact nB0), cc2.cell hS1.2.2.2.2.2.2.2.2.2.2.2.2.2.2.2.2.2.2.2.2.2 (by first | exact nA0 | exact nB0)⟩
      have ch2 := (ch1).trans' cc2 (fun z hz => .inl hz)
      go_wp2_with fail
      refine hK.out _ _ hS2 (fun hHeld => ?_)
      clear hK K
      try simp only [Act.put, List.setIfInBounds_toArray, List.set_cons_succ, List.set_cons_zero]
      refine wpAnyH_ready (rs := [5, 7]) (by kernel_rfl) (by simp) (AllReadyH.cons rfl (fun K hK => ?_) (AllReadyH.cons rfl (fun K hK => ?_) (AllReadyH.nil)))
      · skip
        have hS03 := hS2
        go_simp
        have sz5 := ch2.size
        have lug15_5 := g15_2.lt
        refine (lxDo hL2 (by omega) e2 HE2.out S2 ⟨c2, p2, i2, T2⟩ HD2.out).mono ?_
        dsimp only
        rw [HN2.out]
        rintro y v3 ⟨a2, d2, F5_, rfl, hN2, hL5, cc3, gr5⟩
        have nA2 : ga ∉ F5_ := fun hm => (gr5 _ hm).elim nA1 fun e => by omega
        have nB2 : gb ∉ F5_ := fun hm => (gr5 _ hm).elim nB1 fun e => by omega
        have sw5 := cc3.size
        have N153 := (show g15 ∉ F5_ from fun hm => (gr5 _ hm).elim N152 fun e => by omega)
        have g15_3 := g15_2.chg cc3 (N152)
        have hS3 : v3.cell? ⟨ga, 0, none⟩ = some (.int .i64 e1.client) ∧ v3.cell? ⟨ga, 1, none⟩ = some (.int .u64 e1.nonce) ∧ v3.cell? ⟨ga, 2, none⟩ = some (.int .u64 e1.fee) ∧ v3.cell? ⟨ga, 3, none⟩ = some (.bool e1.good) ∧ v3.cell? ⟨ga, 4, none⟩ = some (.int .i64 e1.tx.kind) ∧ v3.cell? ⟨ga, 5, none⟩ = some (.int .i64 e1.tx.asset) ∧ v3.cell? ⟨ga, 6, none⟩ = some (.int .i64 e1.tx.dst) ∧ v3.cell? ⟨ga, 7, none⟩ = some (.bool e1.tx.buy) ∧ v3.cell? ⟨ga, 8, none⟩ = some (.int .u64 e1.tx.price) ∧ v3.cell? ⟨ga, 9, none⟩ = some (.int .u64 e1.tx.qty) ∧ v3.cell? ⟨ga, 10, none⟩ = some (.int .i64 e1.tx.id) ∧ v3.cell? ⟨gb, 0, none⟩ = some (.int .i64 e2.client) ∧ v3.cell? ⟨gb, 1, none⟩ = some (.int .u64 e2.nonce) ∧ v3.cell? ⟨gb, 2, none⟩ = some (.int .u64 e2.fee) ∧ v3.cell? ⟨gb, 3, none⟩ = some (.bool e2.good) ∧ v3.cell? ⟨gb, 4, none⟩ = some (.int .i64 e2.tx.kind) ∧ v3.cell? ⟨gb, 5, none⟩ = some (.int .i64 e2.tx.asset) ∧ v3.cell? ⟨gb, 6, none⟩ = some (.int .i64 e2.tx.dst) ∧ v3.cell? ⟨gb, 7, none⟩ = some (.bool e2.tx.buy) ∧ v3.cell? ⟨gb, 8, none⟩ = some (.int .u64 e2.tx.price) ∧ v3.cell? ⟨gb, 9, none⟩ = some (.int .u64 e2.tx.qty) ∧ v3.cell? ⟨gb, 10, none⟩ = some (.int .i64 e2.tx.id) := ⟨cc3.cell hS2.1 (by first | exact nA1 | exact nB1), cc3.cell hS2.2.1 (by first | exact nA1 | exact nB1), cc3.cell hS2.2.2.1 (by first | exact nA1 | exact nB1), cc3.cell hS2.2.2.2.1 (by first | exact nA1 | exact nB1), cc3.cell hS2.2.2.2.2.1 (by first | exact nA1 | exact nB1), cc3.cell hS2.2.2.2.2.2.1 (by first | exact nA1 | exact nB1), cc3.cell hS2.2.2.2.2.2.2.1 (by first | exact nA1 | exact nB1), cc3.cell hS2.2.2.2.2.2.2.2.1 (by first | exact nA1 | exact nB1), cc3.cell hS2.2.2.2.2.2.2.2.2.1 (by first | exact nA1 | exact nB1), cc3.cell hS2.2.2.2.2.2.2.2.2.2.1 (by first | exact nA1 | exact nB1), cc3.cell hS2.2.2.2.2.2.2.2.2.2.2.1 (by first | exact nA1 | exact nB1), cc3.cell hS2.2.2.2.2.2.2.2.2.2.2.2.1 (by first | exact nA1 | exact nB1), cc3.cell hS2.2.2.2.2.2.2.2.2.2.2.2.2.1 (by first | exact nA1 | exact nB1), cc3.cell hS2.2.2.2.2.2.2.2.2.2.2.2.2.2.1 (by first | exact nA1 | exact nB1), cc3.cell hS2.2.2.2.2.2.2.2.2.2.2.2.2.2.2.1 (by first | exact nA1 | exact nB1), cc3.cell hS2.2.2.2.2.2.2.2.2.2.2.2.2.2.2.2.1 (by first | exact nA1 | exact nB1), cc3.cell hS2.2.2.2.2.2.2.2.2.2.2.2.2.2.2.2.2.1 (by first | exact nA1 | exact nB1), cc3.cell hS2.2.2.2.2.2.2.2.2.2.2.2.2.2.2.2.2.2.1 (by first | exact nA1 | exact nB1), cc3.cell hS2.2.2.2.2.2.2.2.2.2.2.2.2.2.2.2.2.2.2.1 (by first | exact nA1 | exact nB1), cc3.cell hS2.2.2.2.2.2.2.2.2.2.2.2.2.2.2.2.2.2.2.2.1 (by first | exact nA1 | exact nB1), cc3.cell hS2.2.2.2.2.2.2.2.2.2.2.2.2.2.2.2.2.2.2.2.2.1 (by first | exact nA1 | exact nB1), cc3.cell hS2.2.2.2.2.2.2.2.2.2.2.2.2.2.2.2.2.2.2.2.2.2 (by first | exact nA1 | exact nB1)⟩
        have ch3 := (ch2).trans' cc3 (fun z hz => (gr2 z hz).imp id fun e => by omega)
        go_wp2_with fail
        refine hK.out _ _ hS3 (fun hHeld => ?_)
        clear hK K
        try simp only [Act.put, List.setIfInBounds_toArray, List.set_cons_succ, List.set_cons_zero]
        refine wpAnyH_ready (rs := [7]) (by kernel_rfl) (by simp) (AllReadyH.cons rfl (fun K hK => ?_) (AllReadyH.nil))
        have hS04 := hS3
        have cc4 : Chg [] v3 (v3.alloc (.cells #[.int .i64 0, .int .u64 0, .int .i64 0, .slice none 0 0] 68)) := (Chg.refl _ _).alloc _
        have Bg16 : Blk (v3.alloc (.cells #[.int .i64 0, .int .u64 0, .int .i64 0, .slice none 0 0] 68)) v3.heap.size 68 [.int .i64 0, .int .u64 0, .int .i64 0, .slice none 0 0] := Blk.new _ _ _
        have Lg16 := ch3.size
        have ltg15_4 := g15_3.lt
        have N164 : v3.heap.size ∉ F5_ := fun hm => by have := (hL5.lt _ hm).2; omega
        have sz_4 := cc4.size
        go_simp
        generalize hg16 : v3.heap.size = g16 at *
        generalize v3.alloc _ = v4 at *
        have N154 := N153
        have LED4 := hL5.to cc4
        have ROX4 := hN2.btw.chg cc4 (by simp)
        have g15_4 := g15_3.chg cc4 (by simp)
        have hS4 : v4.cell? ⟨ga, 0, none⟩ = some (.int .i64 e1.client) ∧ v4.cell? ⟨ga, 1, none⟩ = some (.int .u64 e1.nonce) ∧ v4.cell? ⟨ga, 2, none⟩ = some (.int .u64 e1.fee) ∧ v4.cell? ⟨ga, 3, none⟩ = some (.bool e1.good) ∧ v4.cell? ⟨ga, 4, none⟩ = some (.int .i64 e1.tx.kind) ∧ v4.cell? ⟨ga, 5, none⟩ = some (.int .i64 e1.tx.asset) ∧ v4.cell? ⟨ga, 6, none⟩ = some (.int .i64 e1.tx.dst) ∧ v4.cell? ⟨ga, 7, none⟩ = some (.bool e1.tx.buy) ∧ v4.cell? ⟨ga, 8, none⟩ = some (.int .u64 e1.tx.price) ∧ v4.cell? ⟨ga, 9, none⟩ = some (.int .u64 e1.tx.qty) ∧ v4.cell? ⟨ga, 10, none⟩ = some (.int .i64 e1.tx.id) ∧ v4.cell? ⟨gb, 0, none⟩ = some (.int .i64 e2.client) ∧ v4.cell? ⟨gb, 1, none⟩ = some (.int .u64 e2.nonce) ∧ v4.cell? ⟨gb, 2, none⟩ = some (.int .u64 e2.fee) ∧ v4.cell? ⟨gb, 3, none⟩ = some (.bool e2.good) ∧ v4.cell? ⟨gb, 4, none⟩ = some (.int .i64 e2.tx.kind) ∧ v4.cell? ⟨gb, 5, none⟩ = some (.int .i64 e2.tx.asset) ∧ v4.cell? ⟨gb, 6, none⟩ = some (.int .i64 e2.tx.dst) ∧ v4.cell? ⟨gb, 7, none⟩ = some (.bool e2.tx.buy) ∧ v4.cell? ⟨gb, 8, none⟩ = some (.int .u64 e2.tx.price) ∧ v4.cell? ⟨gb, 9, none⟩ = some (.int .u64 e2.tx.qty) ∧ v4.cell? ⟨gb, 10, none⟩ = some (.int .i64 e2.tx.id) := ⟨cc4.cell hS3.1 (by simp), cc4.cell hS3.2.1 (by simp), cc4.cell hS3.2.2.1 (by simp), cc4.cell hS3.2.2.2.1 (by simp), cc4.cell hS3.2.2.2.2.1 (by simp), cc4.cell hS3.2.2.2.2.2.1 (by simp), cc4.cell hS3.2.2.2.2.2.2.1 (by simp), cc4.cell hS3.2.2.2.2.2.2.2.1 (by simp), cc4.cell hS3.2.2.2.2.2.2.2.2.1 (by simp), cc4.cell hS3.2.2.2.2.2.2.2.2.2.1 (by simp), cc4.cell hS3.2.2.2.2.2.2.2.2.2.2.1 (by simp), cc4.cell hS3.2.2.2.2.2.2.2.2.2.2.2.1 (by simp), cc4.cell hS3.2.2.2.2.2.2.2.2.2.2.2.2.1 (by simp), cc4.cell hS3.2.2.2.2.2.2.2.2.2.2.2.2.2.1 (by simp), cc4.cell hS3.2.2.2.2.2.2.2.2.2.2.2.2.2.2.1 (by simp), cc4.cell hS3.2.2.2.2.2.2.2.2.2.2.2.2.2.2.2.1 (by simp), cc4.cell hS3.2.2.2.2.2.2.2.2.2.2.2.2.2.2.2.2.1 (by simp), cc4.cell hS3.2.2.2.2.2.2.2.2.2.2.2.2.2.2.2.2.2.1 (by simp), cc4.cell hS3.2.2.2.2.2.2.2.2.2.2.2.2.2.2.2.2.2.2.1 (by simp), cc4.cell hS3.2.2.2.2.2.2.2.2.2.2.2.2.2.2.2.2.2.2.2.1 (by simp), cc4.cell hS3.2.2.2.2.2.2.2.2.2.2.2.2.2.2.2.2.2.2.2.2.1 (by simp), cc4.cell hS3.2.2.2.2.2.2.2.2.2.2.2.2.2.2.2.2.2.2.2.2.2 (by simp)⟩
        have ch4 := (ch3).trans' cc4 (by simp)
        refine hK.out _ _ hS4 (fun hHeld => ?_)
        clear hK K
        try simp only [Act.put, List.setIfInBounds_toArray, List.set_cons_succ, List.set_cons_zero]
        refine wpAnyH_ready (rs := [8]) (by kernel_rfl) (by simp) (AllReadyH.cons rfl (fun K hK => ?_) (AllReadyH.nil))
        have hS05 := hS4
        have e5_0 := g15_4.at (i := 0) rfl
        have f5_0 := g15_4.free 0
        have e5_1 := g15_4.at (i := 1) rfl
        have f5_1 := g15_4.free 1
        have e5_2 := g15_4.at (i := 2) rfl
        have f5_2 := g15_4.free 2
        have e5_3 := g15_4.at (i := 3) rfl
        have f5_3 := g15_4.free 3
        have cc5 : Chg [g15] v4 ((((v4.setCell ⟨g15, 0, none⟩ (.int .i64 c1)).setCell ⟨g15, 1, none⟩ (.int .u64 p1)).setCell ⟨g15, 2, none⟩ (.int .i64 i1)).setCell ⟨g15, 3, none⟩ (.slice a1 n1 d1)) := (((((Chg.refl [g15] v4).setCell ⟨g15, 0, none⟩ (.int .i64 c1) (.inl (by simp))).setCell ⟨g15, 1, none⟩ (.int .u64 p1) (.inl (by simp))).setCell ⟨g15, 2, none⟩ (.int .i64 i1) (.inl (by simp))).setCell ⟨g15, 3, none⟩ (.slice a1 n1 d1) (.inl (by simp)))
        have Bg15_5 : Blk ((((v4.setCell ⟨g15, 0, none⟩ (.int .i64 c1)).setCell ⟨g15, 1, none⟩ (.int .u64 p1)).setCell ⟨g15, 2, none⟩ (.int .i64 i1)).setCell ⟨g15, 3, none⟩ (.slice a1 n1 d1)) g15 68 [.int .i64 c1, .int .u64 p1, .int .i64 i1, .slice a1 n1 d1] := ((((g15_4.set 0 (.int .i64 c1)).set 1 (.int .u64 p1)).set 2 (.int .i64 i1)).set 3 (.slice a1 n1 d1))
        go_simp
        generalize ((((v4.setCell ⟨g15, 0, none⟩ (.int .i64 c1)).setCell ⟨g15, 1, none⟩ (.int .u64 p1)).setCell ⟨g15, 2, none⟩ (.int .i64 i1)).setCell ⟨g15, 3, none⟩ (.slice a1 n1 d1)) = v5 at *
        clear e5_0 f5_0 e5_1 f5_1 e5_2 f5_2 e5_3 f5_3
        have N155 := N154
        have LED5 := LED4.aside cc5 (fun z hz => by simp at hz; subst hz; exact ⟨N155, by omega⟩)
        have ROX5 := ROX4.chg cc5 (by simp; omega)
        have N165 := N164
        have g16_5 := Bg16.chg cc5 (by simp; omega)
        have hS5 : v5.cell? ⟨ga, 0, none⟩ = some (.int .i64 e1.client) ∧ v5.cell? ⟨ga, 1, none⟩ = some (.int .u64 e1.nonce) ∧ v5.cell? ⟨ga, 2, none⟩ = some (.int .u64 e1.fee) ∧ v5.cell? ⟨ga, 3, none⟩ = some (.bool e1.good) ∧ v5.cell? ⟨ga, 4, none⟩ = some (.int .i64 e1.tx.kind) ∧ v5.cell? ⟨ga, 5, none⟩ = some (.int .i64 e1.tx.asset) ∧ v5.cell? ⟨ga, 6, none⟩ = some (.int .i64 e1.tx.dst) ∧ v5.cell? ⟨ga, 7, none⟩ = some (.bool e1.tx.buy) ∧ v5.cell? ⟨ga, 8, none⟩ = some (.int .u64 e1.tx.price) ∧ v5.cell? ⟨ga, 9, none⟩ = some (.int .u64 e1.tx.qty) ∧ v5.cell? ⟨ga, 10, none⟩ = some (.int .i64 e1.tx.id) ∧ v5.cell? ⟨gb, 0, none⟩ = some (.int .i64 e2.client) ∧ v5.cell? ⟨gb, 1, none⟩ = some (.int .u64 e2.nonce) ∧ v5.cell? ⟨gb, 2, none⟩ = some (.int .u64 e2.fee) ∧ v5.cell? ⟨gb, 3, none⟩ = some (.bool e2.good) ∧ v5.cell? ⟨gb, 4, none⟩ = some (.int .i64 e2.tx.kind) ∧ v5.cell? ⟨gb, 5, none⟩ = some (.int .i64 e2.tx.asset) ∧ v5.cell? ⟨gb, 6, none⟩ = some (.int .i64 e2.tx.dst) ∧ v5.cell? ⟨gb, 7, none⟩ = some (.bool e2.tx.buy) ∧ v5.cell? ⟨gb, 8, none⟩ = some (.int .u64 e2.tx.price) ∧ v5.cell? ⟨gb, 9, none⟩ = some (.int .u64 e2.tx.qty) ∧ v5.cell? ⟨gb, 10, none⟩ = some (.int .i64 e2.tx.id) := ⟨cc5.cell hS4.1 (by simp; omega), cc5.cell hS4.2.1 (by simp; omega), cc5.cell hS4.2.2.1 (by simp; omega), cc5.cell hS4.2.2.2.1 (by simp; omega), cc5.cell hS4.2.2.2.2.1 (by simp; omega), cc5.cell hS4.2.2.2.2.2.1 (by simp; omega), cc5.cell hS4.2.2.2.2.2.2.1 (by simp; omega), cc5.cell hS4.2.2.2.2.2.2.2.1 (by simp; omega), cc5.cell hS4.2.2.2.2.2.2.2.2.1 (by simp; omega), cc5.cell hS4.2.2.2.2.2.2.2.2.2.1 (by simp; omega), cc5.cell hS4.2.2.2.2.2.2.2.2.2.2.1 (by simp; omega), cc5.cell hS4.2.2.2.2.2.2.2.2.2.2.2.1 (by simp; omega), cc5.cell hS4.2.2.2.2.2.2.2.2.2.2.2.2.1 (by simp; omega), cc5.cell hS4.2.2.2.2.2.2.2.2.2.2.2.2.2.1 (by simp; omega), cc5.cell hS4.2.2.2.2.2.2.2.2.2.2.2.2.2.2.1 (by simp; omega), cc5.cell hS4.2.2.2.2.2.2.2.2.2.2.2.2.2.2.2.1 (by simp; omega), cc5.cell hS4.2.2.2.2.2.2.2.2.2.2.2.2.2.2.2.2.1 (by simp; omega), cc5.cell hS4.2.2.2.2.2.2.2.2.2.2.2.2.2.2.2.2.2.1 (by simp; omega), cc5.cell hS4.2.2.2.2.2.2.2.2.2.2.2.2.2.2.2.2.2.2.1 (by simp; omega), cc5.cell hS4.2.2.2.2.2.2.2.2.2.2.2.2.2.2.2.2.2.2.2.1 (by simp; omega), cc5.cell hS4.2.2.2.2.2.2.2.2.2.2.2.2.2.2.2.2.2.2.2.2.1 (by simp; omega), cc5.cell hS4.2.2.2.2.2.2.2.2.2.2.2.2.2.2.2.2.2.2.2.2.2 (by simp; omega)⟩
        have ch5 := (ch4).trans' cc5 (fun z hz => .inr (by simp at hz; subst hz; omega))
        refine hK.out _ _ hS5 (fun hHeld => ?_)
        clear hK K
        try simp only [Act.put, List.setIfInBounds_toArray, List.set_cons_succ, List.set_cons_zero]
        refine wpAnyH_ready (rs := [9]) (by kernel_rfl) (by simp) (AllReadyH.cons rfl (fun K hK => ?_) (AllReadyH.nil))
        have hS06 := hS5
        have e6_0 := g16_5.at (i := 0) rfl
        have f6_0 := g16_5.free 0
        have e6_1 := g16_5.at (i := 1) rfl
        have f6_1 := g16_5.free 1
        have e6_2 := g16_5.at (i := 2) rfl
        have f6_2 := g16_5.free 2
        have e6_3 := g16_5.at (i := 3) rfl
        have f6_3 := g16_5.free 3
        have cc6 : Chg [g16] v5 ((((v5.setCell ⟨g16, 0, none⟩ (.int .i64 c2)).setCell ⟨g16, 1, none⟩ (.int .u64 p2)).setCell ⟨g16, 2, none⟩ (.int .i64 i2)).setCell ⟨g16, 3, none⟩ (.slice a2 n2 d2)) := (((((Chg.refl [g16] v5).setCell ⟨g16, 0, none⟩ (.int .i64 c2) (.inl (by simp))).setCell ⟨g16, 1, none⟩ (.int .u64 p2) (.inl (by simp))).setCell ⟨g16, 2, none⟩ (.int .i64 i2) (.inl (by simp))).setCell ⟨g16, 3, none⟩ (.slice a2 n2 d2) (.inl (by simp)))
        have Bg16_6 : Blk ((((v5.setCell ⟨g16, 0, none⟩ (.int .i64 c2)).setCell ⟨g16, 1, none⟩ (.int .u64 p2)).setCell ⟨g16, 2, none⟩ (.int .i64 i2)).setCell ⟨g16, 3, none⟩ (.slice a2 n2 d2)) g16 68 [.int .i64 c2, .int .u64 p2, .int .i64 i2, .slice a2 n2 d2] := ((((g16_5.set 0 (.int .i64 c2)).set 1 (.int .u64 p2)).set 2 (.int .i64 i2)).set 3 (.slice a2 n2 d2))
        go_simp
        generalize ((((v5.setCell ⟨g16, 0, none⟩ (.int .i64 c2)).setCell ⟨g16, 1, none⟩ (.int .u64 p2)).setCell ⟨g16, 2, none⟩ (.int .i64 i2)).setCell ⟨g16, 3, none⟩ (.slice a2 n2 d2)) = v6 at *
        clear e6_0 f6_0 e6_1 f6_1 e6_2 f6_2 e6_3 f6_3
        have N156 := N155
        have LED6 := LED5.aside cc6 (fun z hz => by simp at hz; subst hz; exact ⟨N165, by omega⟩)
        have ROX6 := ROX5.chg cc6 (by simp; omega)
        have N166 := N165
        have g15_6 := Bg15_5.chg cc6 (by simp; omega)
        have hS6 : v6.cell? ⟨ga, 0, none⟩ = some (.int .i64 e1.client) ∧ v6.cell? ⟨ga, 1, none⟩ = some (.int .u64 e1.nonce) ∧ v6.cell? ⟨ga, 2, none⟩ = some (.int .u64 e1.fee) ∧ v6.cell? ⟨ga, 3, none⟩ = some (.bool e1.good) ∧ v6.cell? ⟨ga, 4, none⟩ = some (.int .i64 e1.tx.kind) ∧ v6.cell? ⟨ga, 5, none⟩ = some (.int .i64 e1.tx.asset) ∧ v6.cell? ⟨ga, 6, none⟩ = some (.int .i64 e1.tx.dst) ∧ v6.cell? ⟨ga, 7, none⟩ = some (.bool e1.tx.buy) ∧ v6.cell? ⟨ga, 8, none⟩ = some (.int .u64 e1.tx.price) ∧ v6.cell? ⟨ga, 9, none⟩ = some (.int .u64 e1.tx.qty) ∧ v6.cell? ⟨ga, 10, none⟩ = some (.int .i64 e1.tx.id) ∧ v6.cell? ⟨gb, 0, none⟩ = some (.int .i64 e2.client) ∧ v6.cell? ⟨gb, 1, none⟩ = some (.int .u64 e2.nonce) ∧ v6.cell? ⟨gb, 2, none⟩ = some (.int .u64 e2.fee) ∧ v6.cell? ⟨gb, 3, none⟩ = some (.bool e2.good) ∧ v6.cell? ⟨gb, 4, none⟩ = some (.int .i64 e2.tx.kind) ∧ v6.cell? ⟨gb, 5, none⟩ = some (.int .i64 e2.tx.asset) ∧ v6.cell? ⟨gb, 6, none⟩ = some (.int .i64 e2.tx.dst) ∧ v6.cell? ⟨gb, 7, none⟩ = some (.bool e2.tx.buy) ∧ v6.cell? ⟨gb, 8, none⟩ = some (.int .u64 e2.tx.price) ∧ v6.cell? ⟨gb, 9, none⟩ = some (.int .u64 e2.tx.qty) ∧ v6.cell? ⟨gb, 10, none⟩ = some (.int .i64 e2.tx.id) := ⟨cc6.cell hS5.1 (by simp; omega), cc6.cell hS5.2.1 (by simp; omega), cc6.cell hS5.2.2.1 (by simp; omega), cc6.cell hS5.2.2.2.1 (by simp; omega), cc6.cell hS5.2.2.2.2.1 (by simp; omega), cc6.cell hS5.2.2.2.2.2.1 (by simp; omega), cc6.cell hS5.2.2.2.2.2.2.1 (by simp; omega), cc6.cell hS5.2.2.2.2.2.2.2.1 (by simp; omega), cc6.cell hS5.2.2.2.2.2.2.2.2.1 (by simp; omega), cc6.cell hS5.2.2.2.2.2.2.2.2.2.1 (by simp; omega), cc6.cell hS5.2.2.2.2.2.2.2.2.2.2.1 (by simp; omega), cc6.cell hS5.2.2.2.2.2.2.2.2.2.2.2.1 (by simp; omega), cc6.cell hS5.2.2.2.2.2.2.2.2.2.2.2.2.1 (by simp; omega), cc6.cell hS5.2.2.2.2.2.2.2.2.2.2.2.2.2.1 (by simp; omega), cc6.cell hS5.2.2.2.2.2.2.2.2.2.2.2.2.2.2.1 (by simp; omega), cc6.cell hS5.2.2.2.2.2.2.2.2.2.2.2.2.2.2.2.1 (by simp; omega), cc6.cell hS5.2.2.2.2.2.2.2.2.2.2.2.2.2.2.2.2.1 (by simp; omega), cc6.cell hS5.2.2.2.2.2.2.2.2.2.2.2.2.2.2.2.2.2.1 (by simp; omega), cc6.cell hS5.2.2.2.2.2.2.2.2.2.2.2.2.2.2.2.2.2.2.1 (by simp; omega), cc6.cell hS5.2.2.2.2.2.2.2.2.2.2.2.2.2.2.2.2.2.2.2.1 (by simp; omega), cc6.cell hS5.2.2.2.2.2.2.2.2.2.2.2.2.2.2.2.2.2.2.2.2.1 (by simp; omega), cc6.cell hS5.2.2.2.2.2.2.2.2.2.2.2.2.2.2.2.2.2.2.2.2.2 (by simp; omega)⟩
        have ch6 := (ch5).trans' cc6 (fun z hz => .inr (by simp at hz; subst hz; omega))
        refine hK.out _ _ hS6 (fun hHeld => ?_)
        clear hK K
        try simp only [Act.put, List.setIfInBounds_toArray, List.set_cons_succ, List.set_cons_zero]
        refine wpAnyH_done (by kernel_rfl) ?_ _
        exact hQ _ _ _ _ _ _ _ _ LED6 ROX6.row g15_6 Bg16_6 _ _ _ _ _ _
      · skip
        have hS03 := hS2
        have cc3 : Chg [] v2 (v2.alloc (.cells #[.int .i64 0, .int .u64 0, .int .i64 0, .slice none 0 0] 68)) := (Chg.refl _ _).alloc _
        have Bg16 : Blk (v2.alloc (.cells #[.int .i64 0, .int .u64 0, .int .i64 0, .slice none 0 0] 68)) v2.heap.size 68 [.int .i64 0, .int .u64 0, .int .i64 0, .slice none 0 0] := Blk.new _ _ _
        have Lg16 := ch2.size
        have ltg15_3 := g15_2.lt
        have N163 : v2.heap.size ∉ F2_ := fun hm => by have := (hL2.lt _ hm).2; omega
        have sz_3 := cc3.size
        go_simp
        generalize hg16 : v2.heap.size = g16 at *
        generalize v2.alloc _ = v3 at *
        have N153 := N152
        have LED3 := hL2.to cc3
        have g15_3 := g15_2.chg cc3 (by simp)
        have hS3 : v3.cell? ⟨ga, 0, none⟩ = some (.int .i64 e1.client) ∧ v3.cell? ⟨ga, 1, none⟩ = some (.int .u64 e1.nonce) ∧ v3.cell? ⟨ga, 2, none⟩ = some (.int .u64 e1.fee) ∧ v3.cell? ⟨ga, 3, none⟩ = some (.bool e1.good) ∧ v3.cell? ⟨ga, 4, none⟩ = some (.int .i64 e1.tx.kind) ∧ v3.cell? ⟨ga, 5, none⟩ = some (.int .i64 e1.tx.asset) ∧ v3.cell? ⟨ga, 6, none⟩ = some (.int .i64 e1.tx.dst) ∧ v3.cell? ⟨ga, 7, none⟩ = some (.bool e1.tx.buy) ∧ v3.cell? ⟨ga, 8, none⟩ = some (.int .u64 e1.tx.price) ∧ v3.cell? ⟨ga, 9, none⟩ = some (.int .u64 e1.tx.qty) ∧ v3.cell? ⟨ga, 10, none⟩ = some (.int .i64 e1.tx.id) ∧ v3.cell? ⟨gb, 0, none⟩ = some (.int .i64 e2.client) ∧ v3.cell? ⟨gb, 1, none⟩ = some (.int .u64 e2.nonce) ∧ v3.cell? ⟨gb, 2, none⟩ = some (.int .u64 e2.fee) ∧ v3.cell? ⟨gb, 3, none⟩ = some (.bool e2.good) ∧ v3.cell? ⟨gb, 4, none⟩ = some (.int .i64 e2.tx.kind) ∧ v3.cell? ⟨gb, 5, none⟩ = some (.int .i64 e2.tx.asset) ∧ v3.cell? ⟨gb, 6, none⟩ = some (.int .i64 e2.tx.dst) ∧ v3.cell? ⟨gb, 7, none⟩ = some (.bool e2.tx.buy) ∧ v3.cell? ⟨gb, 8, none⟩ = some (.int .u64 e2.tx.price) ∧ v3.cell? ⟨gb, 9, none⟩ = some (.int .u64 e2.tx.qty) ∧ v3.cell? ⟨gb, 10, none⟩ = some (.int .i64 e2.tx.id) := ⟨cc3.cell hS2.1 (by simp), cc3.cell hS2.2.1 (by simp), cc3.cell hS2.2.2.1 (by simp), cc3.cell hS2.2.2.2.1 (by simp), cc3.cell hS2.2.2.2.2.1 (by simp), cc3.cell hS2.2.2.2.2.2.1 (by simp), cc3.cell hS2.2.2.2.2.2.2.1 (by simp), cc3.cell hS2.2.2.2.2.2.2.2.1 (by simp), cc3.cell hS2.2.2.2.2.2.2.2.2.1 (by simp), cc3.cell hS2.2.2.2.2.2.2.2.2.2.1 (by simp), cc3.cell hS2.2.2.2.2.2.2.2.2.2.2.1 (by simp), cc3.cell hS2.2.2.2.2.2.2.2.2.2.2.2.1 (by simp), cc3.cell hS2.2.2.2.2.2.2.2.2.2.2.2.2.1 (by simp), cc3.cell hS2.2.2.2.2.2.2.2.2.2.2.2.2.2.1 (by simp), cc3.cell hS2.2.2.2.2.2.2.2.2.2.2.2.2.2.2.1 (by simp), cc3.cell hS2.2.2.2.2.2.2.2.2.2.2.2.2.2.2.2.1 (by simp), cc3.cell hS2.2.2.2.2.2.2.2.2.2.2.2.2.2.2.2.2.1 (by simp), cc3.cell hS2.2.2.2.2.2.2.2.2.2.2.2.2.2.2.2.2.2.1 (by simp), cc3.cell hS2.2.2.2.2.2.2.2.2.2.2.2.2.2.2.2.2.2.2.1 (by simp), cc3.cell hS2.2.2.2.2.2.2.2.2.2.2.2.2.2.2.2.2.2.2.2.1 (by simp), cc3.cell hS2.2.2.2.2.2.2.2.2.2.2.2.2.2.2.2.2.2.2.2.2.1 (by simp), cc3.cell hS2.2.2.2.2.2.2.2.2.2.2.2.2.2.2.2.2.2.2.2.2.2 (by simp)⟩
        have ch3 := (ch2).trans' cc3 (by simp)
        refine hK.out _ _ hS3 (fun hHeld => ?_)
        clear hK K
        try simp only [Act.put, List.setIfInBounds_toArray, List.set_cons_succ, List.set_cons_zero]
        refine wpAnyH_ready (rs := [5]) (by kernel_rfl) (by simp) (AllReadyH.cons rfl (fun K hK => ?_) (AllReadyH.nil))
        have hS04 := hS3
        go_simp
        have sz5 := ch3.size
        have lug15_5 := g15_3.lt
        have lug16_5 := Bg16.lt
        refine (lxDo LED3 (by omega) e2 HE2.out S2 ⟨c2, p2, i2, T2⟩ HD2.out).mono ?_
        dsimp only
        rw [HN2.out]
        rintro y v4 ⟨a2, d2, F5_, rfl, hN2, hL5, cc4, gr5⟩
        have nA2 : ga ∉ F5_ := fun hm => (gr5 _ hm).elim nA1 fun e => by omega
        have nB2 : gb ∉ F5_ := fun hm => (gr5 _ hm).elim nB1 fun e => by omega
        have sw5 := cc4.size
        have N154 := (show g15 ∉ F5_ from fun hm => (gr5 _ hm).elim N153 fun e => by omega)
        have N164 := (show g16 ∉ F5_ from fun hm => (gr5 _ hm).elim N163 fun e => by omega)
        have g15_4 := g15_3.chg cc4 (N153)
        have g16_4 := Bg16.chg cc4 (N163)
        have hS4 : v4.cell? ⟨ga, 0, none⟩ = some (.int .i64 e1.client) ∧ v4.cell? ⟨ga, 1, none⟩ = some (.int .u64 e1.nonce) ∧ v4.cell? ⟨ga, 2, none⟩ = some (.int .u64 e1.fee) ∧ v4.cell? ⟨ga, 3, none⟩ = some (.bool e1.good) ∧ v4.cell? ⟨ga, 4, none⟩ = some (.int .i64 e1.tx.kind) ∧ v4.cell? ⟨ga, 5, none⟩ = some (.int .i64 e1.tx.asset) ∧ v4.cell? ⟨ga, 6, none⟩ = some (.int .i64 e1.tx.dst) ∧ v4.cell? ⟨ga, 7, none⟩ = some (.bool e1.tx.buy) ∧ v4.cell? ⟨ga, 8, none⟩ = some (.int .u64 e1.tx.price) ∧ v4.cell? ⟨ga, 9, none⟩ = some (.int .u64 e1.tx.qty) ∧ v4.cell? ⟨ga, 10, none⟩ = some (.int .i64 e1.tx.id) ∧ v4.cell? ⟨gb, 0, none⟩ = some (.int .i64 e2.client) ∧ v4.cell? ⟨gb, 1, none⟩ = some (.int .u64 e2.nonce) ∧ v4.cell? ⟨gb, 2, none⟩ = some (.int .u64 e2.fee) ∧ v4.cell? ⟨gb, 3, none⟩ = some (.bool e2.good) ∧ v4.cell? ⟨gb, 4, none⟩ = some (.int .i64 e2.tx.kind) ∧ v4.cell? ⟨gb, 5, none⟩ = some (.int .i64 e2.tx.asset) ∧ v4.cell? ⟨gb, 6, none⟩ = some (.int .i64 e2.tx.dst) ∧ v4.cell? ⟨gb, 7, none⟩ = some (.bool e2.tx.buy) ∧ v4.cell? ⟨gb, 8, none⟩ = some (.int .u64 e2.tx.price) ∧ v4.cell? ⟨gb, 9, none⟩ = some (.int .u64 e2.tx.qty) ∧ v4.cell? ⟨gb, 10, none⟩ = some (.int .i64 e2.tx.id) := ⟨cc4.cell hS3.1 (by first | exact nA1 | exact nB1), cc4.cell hS3.2.1 (by first | exact nA1 | exact nB1), cc4.cell hS3.2.2.1 (by first | exact nA1 | exact nB1), cc4.cell hS3.2.2.2.1 (by first | exact nA1 | exact nB1), cc4.cell hS3.2.2.2.2.1 (by first | exact nA1 | exact nB1), cc4.cell hS3.2.2.2.2.2.1 (by first | exact nA1 | exact nB1), cc4.cell hS3.2.2.2.2.2.2.1 (by first | exact nA1 | exact nB1), cc4.cell hS3.2.2.2.2.2.2.2.1 (by first | exact nA1 | exact nB1), cc4.cell hS3.2.2.2.2.2.2.2.2.1 (by first | exact nA1 | exact nB1), cc4.cell hS3.2.2.2.2.2.2.2.2.2.1 (by first | exact nA1 | exact nB1), cc4.cell hS3.2.2.2.2.2.2.2.2.2.2.1 (by first | exact nA1 | exact nB1), cc4.cell hS3.2.2.2.2.2.2.2.2.2.2.2.1 (by first | exact nA1 | exact nB1), cc4.cell hS3.2.2.2.2.2.2.2.2.2.2.2.2.1 (by first | exact nA1 | exact nB1), cc4.cell hS3.2.2.2.2.2.2.2.2.2.2.2.2.2.1 (by first | exact nA1 | exact nB1), cc4.cell hS3.2.2.2.2.2.2.2.2.2.2.2.2.2.2.1 (by first | exact nA1 | exact nB1), cc4.cell hS3.2.2.2.2.2.2.2.2.2.2.2.2.2.2.2.1 (by first | exact nA1 | exact nB1), cc4.cell hS3.2.2.2.2.2.2.2.2.2.2.2.2.2.2.2.2.1 (by first | exact nA1 | exact nB1), cc4.cell hS3.2.2.2.2.2.2.2.2.2.2.2.2.2.2.2.2.2.1 (by first | exact nA1 | exact nB1), cc4.cell hS3.2.2.2.2.2.2.2.2.2.2.2.2.2.2.2.2.2.2.1 (by first | exact nA1 | exact nB1), cc4.cell hS3.2.2.2.2.2.2.2.2.2.2.2.2.2.2.2.2.2.2.2.1 (by first | exact nA1 | exact nB1), cc4.cell hS3.2.2.2.2.2.2.2.2.2.2.2.2.2.2.2.2.2.2.2.2.1 (by first | exact nA1 | exact nB1), cc4.cell hS3.2.2.2.2.2.2.2.2.2.2.2.2.2.2.2.2.2.2.2.2.2 (by first | exact nA1 | exact nB1)⟩
        have ch4 := (ch3).trans' cc4 (fun z hz => (gr2 z hz).imp id fun e => by omega)
        go_wp2_with fail
        refine hK.out _ _ hS4 (fun hHeld => ?_)
        clear hK K
        try simp only [Act.put, List.setIfInBounds_toArray, List.set_cons_succ, List.set_cons_zero]
        refine wpAnyH_ready (rs := [8]) (by kernel_rfl) (by simp) (AllReadyH.cons rfl (fun K hK => ?_) (AllReadyH.nil))
        have hS05 := hS4
        have e5_0 := g15_4.at (i := 0) rfl
        have f5_0 := g15_4.free 0
        have e5_1 := g15_4.at (i := 1) rfl
        have f5_1 := g15_4.free 1
        have e5_2 := g15_4.at (i := 2) rfl
        have f5_2 := g15_4.free 2
        have e5_3 := g15_4.at (i := 3) rfl
        have f5_3 := g15_4.free 3
        have cc5 : Chg [g15] v4 ((((v4.setCell ⟨g15, 0, none⟩ (.int .i64 c1)).setCell ⟨g15, 1, none⟩ (.int .u64 p1)).setCell ⟨g15, 2, none⟩ (.int .i64 i1)).setCell ⟨g15, 3, none⟩ (.slice a1 n1 d1)) := (((((Chg.refl [g15] v4).setCell ⟨g15, 0, none⟩ (.int .i64 c1) (.inl (by simp))).setCell ⟨g15, 1, none⟩ (.int .u64 p1) (.inl (by simp))).setCell ⟨g15, 2, none⟩ (.int .i64 i1) (.inl (by simp))).setCell ⟨g15, 3, none⟩ (.slice a1 n1 d1) (.inl (by simp)))
        have Bg15_5 : Blk ((((v4.setCell ⟨g15, 0, none⟩ (.int .i64 c1)).setCell ⟨g15, 1, none⟩ (.int .u64 p1)).setCell ⟨g15, 2, none⟩ (.int .i64 i1)).setCell ⟨g15, 3, none⟩ (.slice a1 n1 d1)) g15 68 [.int .i64 c1, .int .u64 p1, .int .i64 i1, .slice a1 n1 d1] := ((((g15_4.set 0 (.int .i64 c1)).set 1 (.int .u64 p1)).set 2 (.int .i64 i1)).set 3 (.slice a1 n1 d1))
        go_simp
        generalize ((((v4.setCell ⟨g15, 0, none⟩ (.int .i64 c1)).setCell ⟨g15, 1, none⟩ (.int .u64 p1)).setCell ⟨g15, 2, none⟩ (.int .i64 i1)).setCell ⟨g15, 3, none⟩ (.slice a1 n1 d1)) = v5 at *
        clear e5_0 f5_0 e5_1 f5_1 e5_2 f5_2 e5_3 f5_3
        have N155 := N154
        have N165 := N164
        have LED5 := hL5.aside cc5 (fun z hz => by simp at hz; subst hz; exact ⟨N155, by omega⟩)
        have ROX5 := hN2.btw.chg cc5 (by simp; omega)
        have g16_5 := g16_4.chg cc5 (by simp; omega)
        have hS5 : v5.cell? ⟨ga, 0, none⟩ = some (.int .i64 e1.client) ∧ v5.cell? ⟨ga, 1, none⟩ = some (.int .u64 e1.nonce) ∧ v5.cell? ⟨ga, 2, none⟩ = some (.int .u64 e1.fee) ∧ v5.cell? ⟨ga, 3, none⟩ = some (.bool e1.good) ∧ v5.cell? ⟨ga, 4, none⟩ = some (.int .i64 e1.tx.kind) ∧ v5.cell? ⟨ga, 5, none⟩ = some (.int .i64 e1.tx.asset) ∧ v5.cell? ⟨ga, 6, none⟩ = some (.int .i64 e1.tx.dst) ∧ v5.cell? ⟨ga, 7, none⟩ = some (.bool e1.tx.buy) ∧ v5.cell? ⟨ga, 8, none⟩ = some (.int .u64 e1.tx.price) ∧ v5.cell? ⟨ga, 9, none⟩ = some (.int .u64 e1.tx.qty) ∧ v5.cell? ⟨ga, 10, none⟩ = some (.int .i64 e1.tx.id) ∧ v5.cell? ⟨gb, 0, none⟩ = some (.int .i64 e2.client) ∧ v5.cell? ⟨gb, 1, none⟩ = some (.int .u64 e2.nonce) ∧ v5.cell? ⟨gb, 2, none⟩ = some (.int .u64 e2.fee) ∧ v5.cell? ⟨gb, 3, none⟩ = some (.bool e2.good) ∧ v5.cell? ⟨gb, 4, none⟩ = some (.int .i64 e2.tx.kind) ∧ v5.cell? ⟨gb, 5, none⟩ = some (.int .i64 e2.tx.asset) ∧ v5.cell? ⟨gb, 6, none⟩ = some (.int .i64 e2.tx.dst) ∧ v5.cell? ⟨gb, 7, none⟩ = some (.bool e2.tx.buy) ∧ v5.cell? ⟨gb, 8, none⟩ = some (.int .u64 e2.tx.price) ∧ v5.cell? ⟨gb, 9, none⟩ = some (.int .u64 e2.tx.qty) ∧ v5.cell? ⟨gb, 10, none⟩ = some (.int .i64 e2.tx.id) := ⟨cc5.cell hS4.1 (by simp; omega), cc5.cell hS4.2.1 (by simp; omega), cc5.cell hS4.2.2.1 (by simp; omega), cc5.cell hS4.2.2.2.1 (by simp; omega), cc5.cell hS4.2.2.2.2.1 (by simp; omega), cc5.cell hS4.2.2.2.2.2.1 (by simp; omega), cc5.cell hS4.2.2.2.2.2.2.1 (by simp; omega), cc5.cell hS4.2.2.2.2.2.2.2.1 (by simp; omega), cc5.cell hS4.2.2.2.2.2.2.2.2.1 (by simp; omega), cc5.cell hS4.2.2.2.2.2.2.2.2.2.1 (by simp; omega), cc5.cell hS4.2.2.2.2.2.2.2.2.2.2.1 (by simp; omega), cc5.cell hS4.2.2.2.2.2.2.2.2.2.2.2.1 (by simp; omega), cc5.cell hS4.2.2.2.2.2.2.2.2.2.2.2.2.1 (by simp; omega), cc5.cell hS4.2.2.2.2.2.2.2.2.2.2.2.2.2.1 (by simp; omega), cc5.cell hS4.2.2.2.2.2.2.2.2.2.2.2.2.2.2.1 (by simp; omega), cc5.cell hS4.2.2.2.2.2.2.2.2.2.2.2.2.2.2.2.1 (by simp; omega), cc5.cell hS4.2.2.2.2.2.2.2.2.2.2.2.2.2.2.2.2.1 (by simp; omega), cc5.cell hS4.2.2.2.2.2.2.2.2.2.2.2.2.2.2.2.2.2.1 (by simp; omega), cc5.cell hS4.2.2.2.2.2.2.2.2.2.2.2.2.2.2.2.2.2.2.1 (by simp; omega), cc5.cell hS4.2.2.2.2.2.2.2.2.2.2.2.2.2.2.2.2.2.2.2.1 (by simp; omega), cc5.cell hS4.2.2.2.2.2.2.2.2.2.2.2.2.2.2.2.2.2.2.2.2.1 (by simp; omega), cc5.cell hS4.2.2.2.2.2.2.2.2.2.2.2.2.2.2.2.2.2.2.2.2.2 (by simp; omega)⟩
        have ch5 := (ch4).trans' cc5 (fun z hz => .inr (by simp at hz; subst hz; omega))
        refine hK.out _ _ hS5 (fun hHeld => ?_)
        clear hK K
        try simp only [Act.put, List.setIfInBounds_toArray, List.set_cons_succ, List.set_cons_zero]
        refine wpAnyH_ready (rs := [9]) (by kernel_rfl) (by simp) (AllReadyH.cons rfl (fun K hK => ?_) (AllReadyH.nil))
        have hS06 := hS5
        have e6_0 := g16_5.at (i := 0) rfl
        have f6_0 := g16_5.free 0
        have e6_1 := g16_5.at (i := 1) rfl
        have f6_1 := g16_5.free 1
        have e6_2 := g16_5.at (i := 2) rfl
        have f6_2 := g16_5.free 2
        have e6_3 := g16_5.at (i := 3) rfl
        have f6_3 := g16_5.free 3
        have cc6 : Chg [g16] v5 ((((v5.setCell ⟨g16, 0, none⟩ (.int .i64 c2)).setCell ⟨g16, 1, none⟩ (.int .u64 p2)).setCell ⟨g16, 2, none⟩ (.int .i64 i2)).setCell ⟨g16, 3, none⟩ (.slice a2 n2 d2)) := (((((Chg.refl [g16] v5).setCell ⟨g16, 0, none⟩ (.int .i64 c2) (.inl (by simp))).setCell ⟨g16, 1, none⟩ (.int .u64 p2) (.inl (by simp))).setCell ⟨g16, 2, none⟩ (.int .i64 i2) (.inl (by simp))).setCell ⟨g16, 3, none⟩ (.slice a2 n2 d2) (.inl (by simp)))
        have Bg16_6 : Blk ((((v5.setCell ⟨g16, 0, none⟩ (.int .i64 c2)).setCell ⟨g16, 1, none⟩ (.int .u64 p2)).setCell ⟨g16, 2, none⟩ (.int .i64 i2)).setCell ⟨g16, 3, none⟩ (.slice a2 n2 d2)) g16 68 [.int .i64 c2, .int .u64 p2, .int .i64 i2, .slice a2 n2 d2] := ((((g16_5.set 0 (.int .i64 c2)).set 1 (.int .u64 p2)).set 2 (.int .i64 i2)).set 3 (.slice a2 n2 d2))
        go_simp
        generalize ((((v5.setCell ⟨g16, 0, none⟩ (.int .i64 c2)).setCell ⟨g16, 1, none⟩ (.int .u64 p2)).setCell ⟨g16, 2, none⟩ (.int .i64 i2)).setCell ⟨g16, 3, none⟩ (.slice a2 n2 d2)) = v6 at *
        clear e6_0 f6_0 e6_1 f6_1 e6_2 f6_2 e6_3 f6_3
        have N156 := N155
        have N166 := N165
        have LED6 := LED5.aside cc6 (fun z hz => by simp at hz; subst hz; exact ⟨N166, by omega⟩)
        have ROX6 := ROX5.chg cc6 (by simp; omega)
        have g15_6 := Bg15_5.chg cc6 (by simp; omega)
        have hS6 : v6.cell? ⟨ga, 0, none⟩ = some (.int .i64 e1.client) ∧ v6.cell? ⟨ga, 1, none⟩ = some (.int .u64 e1.nonce) ∧ v6.cell? ⟨ga, 2, none⟩ = some (.int .u64 e1.fee) ∧ v6.cell? ⟨ga, 3, none⟩ = some (.bool e1.good) ∧ v6.cell? ⟨ga, 4, none⟩ = some (.int .i64 e1.tx.kind) ∧ v6.cell? ⟨ga, 5, none⟩ = some (.int .i64 e1.tx.asset) ∧ v6.cell? ⟨ga, 6, none⟩ = some (.int .i64 e1.tx.dst) ∧ v6.cell? ⟨ga, 7, none⟩ = some (.bool e1.tx.buy) ∧ v6.cell? ⟨ga, 8, none⟩ = some (.int .u64 e1.tx.price) ∧ v6.cell? ⟨ga, 9, none⟩ = some (.int .u64 e1.tx.qty) ∧ v6.cell? ⟨ga, 10, none⟩ = some (.int .i64 e1.tx.id) ∧ v6.cell? ⟨gb, 0, none⟩ = some (.int .i64 e2.client) ∧ v6.cell? ⟨gb, 1, none⟩ = some (.int .u64 e2.nonce) ∧ v6.cell? ⟨gb, 2, none⟩ = some (.int .u64 e2.fee) ∧ v6.cell? ⟨gb, 3, none⟩ = some (.bool e2.good) ∧ v6.cell? ⟨gb, 4, none⟩ = some (.int .i64 e2.tx.kind) ∧ v6.cell? ⟨gb, 5, none⟩ = some (.int .i64 e2.tx.asset) ∧ v6.cell? ⟨gb, 6, none⟩ = some (.int .i64 e2.tx.dst) ∧ v6.cell? ⟨gb, 7, none⟩ = some (.bool e2.tx.buy) ∧ v6.cell? ⟨gb, 8, none⟩ = some (.int .u64 e2.tx.price) ∧ v6.cell? ⟨gb, 9, none⟩ = some (.int .u64 e2.tx.qty) ∧ v6.cell? ⟨gb, 10, none⟩ = some (.int .i64 e2.tx.id) := ⟨cc6.cell hS5.1 (by simp; omega), cc6.cell hS5.2.1 (by simp; omega), cc6.cell hS5.2.2.1 (by simp; omega), cc6.cell hS5.2.2.2.1 (by simp; omega), cc6.cell hS5.2.2.2.2.1 (by simp; omega), cc6.cell hS5.2.2.2.2.2.1 (by simp; omega), cc6.cell hS5.2.2.2.2.2.2.1 (by simp; omega), cc6.cell hS5.2.2.2.2.2.2.2.1 (by simp; omega), cc6.cell hS5.2.2.2.2.2.2.2.2.1 (by simp; omega), cc6.cell hS5.2.2.2.2.2.2.2.2.2.1 (by simp; omega), cc6.cell hS5.2.2.2.2.2.2.2.2.2.2.1 (by simp; omega), cc6.cell hS5.2.2.2.2.2.2.2.2.2.2.2.1 (by simp; omega), cc6.cell hS5.2.2.2.2.2.2.2.2.2.2.2.2.1 (by simp; omega), cc6.cell hS5.2.2.2.2.2.2.2.2.2.2.2.2.2.1 (by simp; omega), cc6.cell hS5.2.2.2.2.2.2.2.2.2.2.2.2.2.2.1 (by simp; omega), cc6.cell hS5.2.2.2.2.2.2.2.2.2.2.2.2.2.2.2.1 (by simp; omega), cc6.cell hS5.2.2.2.2.2.2.2.2.2.2.2.2.2.2.2.2.1 (by simp; omega), cc6.cell hS5.2.2.2.2.2.2.2.2.2.2.2.2.2.2.2.2.2.1 (by simp; omega), cc6.cell hS5.2.2.2.2.2.2.2.2.2.2.2.2.2.2.2.2.2.2.1 (by simp; omega), cc6.cell hS5.2.2.2.2.2.2.2.2.2.2.2.2.2.2.2.2.2.2.2.1 (by simp; omega), cc6.cell hS5.2.2.2.2.2.2.2.2.2.2.2.2.2.2.2.2.2.2.2.2.1 (by simp; omega), cc6.cell hS5.2.2.2.2.2.2.2.2.2.2.2.2.2.2.2.2.2.2.2.2.2 (by simp; omega)⟩
        have ch6 := (ch5).trans' cc6 (fun z hz => .inr (by simp at hz; subst hz; omega))
        refine hK.out _ _ hS6 (fun hHeld => ?_)
        clear hK K
        try simp only [Act.put, List.setIfInBounds_toArray, List.set_cons_succ, List.set_cons_zero]
        refine wpAnyH_done (by kernel_rfl) ?_ _
        exact hQ _ _ _ _ _ _ _ _ LED6 ROX6.row g15_6 Bg16_6 _ _ _ _ _ _
    · skip
      have hS02 := hS1
      have cc2 : Chg [] v1 (v1.alloc (.cells #[.int .i64 0, .int .u64 0, .int .i64 0, .slice none 0 0] 68)) := (Chg.refl _ _).alloc _
      have Bg16 : Blk (v1.alloc (.cells #[.int .i64 0, .int .u64 0, .int .i64 0, .slice none 0 0] 68)) v1.heap.size 68 [.int .i64 0, .int .u64 0, .int .i64 0, .slice none 0 0] := Blk.new _ _ _
      have Lg16 := ch1.size
      have ltg15_2 := Bg15.lt
      have N162 : v1.heap.size ∉ FF := fun hm => by have := (LED1.lt _ hm).2; omega
      have sz_2 := cc2.size
      go_simp
      generalize hg16 : v1.heap.size = g16 at *
      generalize v1.alloc _ = v2 at *
      have LED2 := LED1.to cc2
      have N152 := N151
      have g15_2 := Bg15.chg cc2 (by simp)
      have hS2 : v2.cell? ⟨ga, 0, none⟩ = some (.int .i64 e1.client) ∧ v2.cell? ⟨ga, 1, none⟩ = some (.int .u64 e1.nonce) ∧ v2.cell? ⟨ga, 2, none⟩ = some (.int .u64 e1.fee) ∧ v2.cell? ⟨ga, 3, none⟩ = some (.bool e1.good) ∧ v2.cell? ⟨ga, 4, none⟩ = some (.int .i64 e1.tx.kind) ∧ v2.cell? ⟨ga, 5, none⟩ = some (.int .i64 e1.tx.asset) ∧ v2.cell? ⟨ga, 6, none⟩ = some (.int .i64 e1.tx.dst) ∧ v2.cell? ⟨ga, 7, none⟩ = some (.bool e1.tx.buy) ∧ v2.cell? ⟨ga, 8, none⟩ = some (.int .u64 e1.tx.price) ∧ v2.cell? ⟨ga, 9, none⟩ = some (.int .u64 e1.tx.qty) ∧ v2.cell? ⟨ga, 10, none⟩ = some (.int .i64 e1.tx.id) ∧ v2.cell? ⟨gb, 0, none⟩ = some (.int .i64 e2.client) ∧ v2.cell? ⟨gb, 1, none⟩ = some (.int .u64 e2.nonce) ∧ v2.cell? ⟨gb, 2, none⟩ = some (.int .u64 e2.fee) ∧ v2.cell? ⟨gb, 3, none⟩ = some (.bool e2.good) ∧ v2.cell? ⟨gb, 4, none⟩ = some (.int .i64 e2.tx.kind) ∧ v2.cell? ⟨gb, 5, none⟩ = some (.int .i64 e2.tx.asset) ∧ v2.cell? ⟨gb, 6, none⟩ = some (.int .i64 e2.tx.dst) ∧ v2.cell? ⟨gb, 7, none⟩ = some (.bool e2.tx.buy) ∧ v2.cell? ⟨gb, 8, none⟩ = some (.int .u64 e2.tx.price) ∧ v2.cell? ⟨gb, 9, none⟩ = some (.int .u64 e2.tx.qty) ∧ v2.cell? ⟨gb, 10, none⟩ = some (.int .i64 e2.tx.id) := ⟨cc2.cell hS1.1 (by simp), cc2.cell hS1.2.1 (by simp), cc2.cell hS1.2.2.1 (by simp), cc2.cell hS1.2.2.2.1 (by simp), cc2.cell hS1.2.2.2.2.1 (by simp), cc2.cell hS1.2.2.2.2.2.1 (by simp), cc2.cell hS1.2.2.2.2.2.2.1 (by simp), cc2.cell hS1.2.2.2.2.2.2.2.1 (by simp), cc2.cell hS1.2.2.2.2.2.2.2.2.1 (by simp), cc2.cell hS1.2.2.2.2.2.2.2.2.2.1 (by simp), cc2.cell hS1.2.2.2.2.2.2.2.2.2.2.1 (by simp), cc2.cell hS1.2.2.2.2.2.2.2.2.2.2.2.1 (by simp), cc2.cell hS1.2.2.2.2.2.2.2.2.2.2.2.2.1 (by simp), cc2.cell hS1.2.2.2.2.2.2.2.2.2.2.2.2.2.1 (by simp), cc2.cell hS1.2.2.2.2.2.2.2.2.2.2.2.2.2.2.1 (by simp), cc2.cell hS1.2.2.2.2.2.2.2.2.2.2.2.2.2.2.2.1 (by simp), cc2.cell hS1.2.2.2.2.2.2.2.2.2.2.2.2.2.2.2.2.1 (by simp), cc2.cell hS1.2.2.2.2.2.2.2.2.2.2.2.2.2.2.2.2.2.1 (by simp), cc2.cell hS1.2.2.2.2.2.2.2.2.2.2.2.2.2.2.2.2.2.2.1 (by simp), cc2.cell hS1.2.2.2.2.2.2.2.2.2.2.2.2.2.2.2.2.2.2.2.1 (by simp), cc2.cell hS1.2.2.2.2.2.2.2.2.2.2.2.2.2.2.2.2.2.2.2.2.1 (by simp), cc2.cell hS1.2.2.2.2.2.2.2.2.2.2.2.2.2.2.2.2.2.2.2.2.2 (by simp)⟩
      have ch2 := (ch1).trans' cc2 (by simp)
      refine hK.out _ _ hS2 (fun hHeld => ?_)
      clear hK K
      try simp only [Act.put, List.setIfInBounds_toArray, List.set_cons_succ, List.set_cons_zero]
      refine wpAnyH_ready (rs := [2]) (by kernel_rfl) (by simp) (AllReadyH.cons rfl (fun K hK => ?_) (AllReadyH.nil))
      have hS03 := hS2
      go_simp
      have sz2 := ch2.size
      have lug15_2 := g15_2.lt
      have lug16_2 := Bg16.lt
      refine (lxDo LED2 (by omega) e1 HE1.out S1 ⟨c1, p1, i1, T1⟩ HD1.out).mono ?_
      dsimp only
      rw [HN1.out]
      rintro y v3 ⟨a1, d1, F2_, rfl, hN1, hL2, cc3, gr2⟩
      have nA1 : ga ∉ F2_ := fun hm => (gr2 _ hm).elim nA0 fun e => by omega
      have nB1 : gb ∉ F2_ := fun hm => (gr2 _ hm).elim nB0 fun e => by omega
      have sw2 := cc3.size
      have N153 := (show g15 ∉ F2_ from fun hm => (gr2 _ hm).elim N152 fun e => by omega)
      have N163 := (show g16 ∉ F2_ from fun hm => (gr2 _ hm).elim N162 fun e => by omega)
      have g15_3 := g15_2.chg cc3 (N152)
      have g16_3 := Bg16.chg cc3 (N162)
      have hS3 : v3.cell? ⟨ga, 0, none⟩ = some (.int .i64 e1.client) ∧ v3.cell? ⟨ga, 1, none⟩ = some (.int .u64 e1.nonce) ∧ v3.cell? ⟨ga, 2, none⟩ = some (.int .u64 e1.fee) ∧ v3.cell? ⟨ga, 3, none⟩ = some (.bool e1.good) ∧ v3.cell? ⟨ga, 4, none⟩ = some (.int .i64 e1.tx.kind) ∧ v3.cell? ⟨ga, 5, none⟩ = some (.int .i64 e1.tx.asset) ∧ v3.cell? ⟨ga, 6, none⟩ = some (.int .i64 e1.tx.dst) ∧ v3.cell? ⟨ga, 7, none⟩ = some (.bool e1.tx.buy) ∧ v3.cell? ⟨ga, 8, none⟩ = some (.int .u64 e1.tx.price) ∧ v3.cell? ⟨ga, 9, none⟩ = some (.int .u64 e1.tx.qty) ∧ v3.cell? ⟨ga, 10, none⟩ = some (.int .i64 e1.tx.id) ∧ v3.cell? ⟨gb, 0, none⟩ = some (.int .i64 e2.client) ∧ v3.cell? ⟨gb, 1, none⟩ = some (.int .u64 e2.nonce) ∧ v3.cell? ⟨gb, 2, none⟩ = some (.int .u64 e2.fee) ∧ v3.cell? ⟨gb, 3, none⟩ = some (.bool e2.good) ∧ v3.cell? ⟨gb, 4, none⟩ = some (.int .i64 e2.tx.kind) ∧ v3.cell? ⟨gb, 5, none⟩ = some (.int .i64 e2.tx.asset) ∧ v3.cell? ⟨gb, 6, none⟩ = some (.int .i64 e2.tx.dst) ∧ v3.cell? ⟨gb, 7, none⟩ = some (.bool e2.tx.buy) ∧ v3.cell? ⟨gb, 8, none⟩ = some (.int .u64 e2.tx.price) ∧ v3.cell? ⟨gb, 9, none⟩ = some (.int .u64 e2.tx.qty) ∧ v3.cell? ⟨gb, 10, none⟩ = some (.int .i64 e2.tx.id) := ⟨cc3.cell hS2.1 (by first | exact nA0 | exact nB0), cc3.cell hS2.2.1 (by first | exact nA0 | exact nB0), cc3.cell hS2.2.2.1 (by first | exact nA0 | exact nB0), cc3.cell hS2.2.2.2.1 (by first | exact nA0 | exact nB0), cc3.cell hS2.2.2.2.2.1 (by first | exact nA0 | exact nB0), cc3.cell hS2.2.2.2.2.2.1 (by first | exact nA0 | exact nB0), cc3.cell hS2.2.2.2.2.2.2.1 (by first | exact nA0 | exact nB0), cc3.cell hS2.2.2.2.2.2.2.2.1 (by first | exact nA0 | exact nB0), cc3.cell hS2.2.2.2.2.2.2.2.2.1 (by first | exact nA0 | exact nB0), cc3.cell hS2.2.2.2.2.2.2.2.2.2.1 (by first | exact nA0 | exact nB0), cc3.cell hS2.2.2.2.2.2.2.2.2.2.2.1 (by first | exact nA0 | exact nB0), cc3.cell hS2.2.2.2.2.2.2.2.2.2.2.2.1 (by first | exact nA0 | exact nB0), cc3.cell hS2.2.2.2.2.2.2.2.2.2.2.2.2.1 (by first | exact nA0 | exact nB0), cc3.cell hS2.2.2.2.2.2.2.2.2.2.2.2.2.2.1 (by first | exact nA0 | exact nB0), cc3.cell hS2.2.2.2.2.2.2.2.2.2.2.2.2.2.2.1 (by first | exact nA0 | exact nB0), cc3.cell hS2.2.2.2.2.2.2.2.2.2.2.2.2.2.2.2.1 (by first | exact nA0 | exact nB0), cc3.cell hS2.2.2.2.2.2.2.2.2.2.2.2.2.2.2.2.2.1 (by first | exact nA0 | exact nB0), cc3.cell hS2.2.2.2.2.2.2.2.2.2.2.2.2.2.2.2.2.2.1 (by first | exact nA0 | exact nB0), cc3.cell hS2.2.2.2.2.2.2.2.2.2.2.2.2.2.2.2.2.2.2.1 (by first | exact nA0 | exact nB0), cc3.cell hS2.2.2.2.2.2.2.2.2.2.2.2.2.2.2.2.2.2.2.2.1 (by first | exact nA0 | exact nB0), cc3.cell hS2.2.2.2.2.2.2.2.2.2.2.2.2.2.2.2.2.2.2.2.2.1 (by first | exact nA0 | exact nB0), cc3.cell hS2.2.2.2.2.2.2.2.2.2.2.2.2.2.2.2.2.2.2.2.2.2 (by first | exact nA0 | exact nB0)⟩
      have ch3 := (ch2).trans' cc3 (fun z hz => .inl hz)
      go_wp2_with fail
      refine hK.out _ _ hS3 (fun hHeld => ?_)
      clear hK K
      try simp only [Act.put, List.setIfInBounds_toArray, List.set_cons_succ, List.set_cons_zero]
      refine wpAnyH_ready (rs := [5]) (by kernel_rfl) (by simp) (AllReadyH.cons rfl (fun K hK => ?_) (AllReadyH.nil))
      have hS04 := hS3
      go_simp
      have sz5 := ch3.size
      have lug15_5 := g15_3.lt
      have lug16_5 := g16_3.lt
      refine (lxDo hL2 (by omega) e2 HE2.out S2 ⟨c2, p2, i2, T2⟩ HD2.out).mono ?_
      dsimp only
      rw [HN2.out]
      rintro y v4 ⟨a2, d2, F5_, rfl, hN2, hL5, cc4, gr5⟩
      have nA2 : ga ∉ F5_ := fun hm => (gr5 _ hm).elim nA1 fun e => by omega
      have nB2 : gb ∉ F5_ := fun hm => (gr5 _ hm).elim nB1 fun e => by omega
      have sw5 := cc4.size
      have N154 := (show g15 ∉ F5_ from fun hm => (gr5 _ hm).elim N153 fun e => by omega)
      have N164 := (show g16 ∉ F5_ from fun hm => (gr5 _ hm).elim N163 fun e => by omega)
      have g15_4 := g15_3.chg cc4 (N153)
      have g16_4 := g16_3.chg cc4 (N163)
      have hS4 : v4.cell? ⟨ga, 0, none⟩ = some (.int .i64 e1.client) ∧ v4.cell? ⟨ga, 1, none⟩ = some (.int .u64 e1.nonce) ∧ v4.cell? ⟨ga, 2, none⟩ = some (.int .u64 e1.fee) ∧ v4.cell? ⟨ga, 3, none⟩ = some (.bool e1.good) ∧ v4.cell? ⟨ga, 4, none⟩ = some (.int .i64 e1.tx.kind) ∧ v4.cell? ⟨ga, 5, none⟩ = some (.int .i64 e1.tx.asset) ∧ v4.cell? ⟨ga, 6, none⟩ = some (.int .i64 e1.tx.dst) ∧ v4.cell? ⟨ga, 7, none⟩ = some (.bool e1.tx.buy) ∧ v4.cell? ⟨ga, 8, none⟩ = some (.int .u64 e1.tx.price) ∧ v4.cell? ⟨ga, 9, none⟩ = some (.int .u64 e1.tx.qty) ∧ v4.cell? ⟨ga, 10, none⟩ = some (.int .i64 e1.tx.id) ∧ v4.cell? ⟨gb, 0, none⟩ = some (.int .i64 e2.client) ∧ v4.cell? ⟨gb, 1, none⟩ = some (.int .u64 e2.nonce) ∧ v4.cell? ⟨gb, 2, none⟩ = some (.int .u64 e2.fee) ∧ v4.cell? ⟨gb, 3, none⟩ = some (.bool e2.good) ∧ v4.cell? ⟨gb, 4, none⟩ = some (.int .i64 e2.tx.kind) ∧ v4.cell? ⟨gb, 5, none⟩ = some (.int .i64 e2.tx.asset) ∧ v4.cell? ⟨gb, 6, none⟩ = some (.int .i64 e2.tx.dst) ∧ v4.cell? ⟨gb, 7, none⟩ = some (.bool e2.tx.buy) ∧ v4.cell? ⟨gb, 8, none⟩ = some (.int .u64 e2.tx.price) ∧ v4.cell? ⟨gb, 9, none⟩ = some (.int .u64 e2.tx.qty) ∧ v4.cell? ⟨gb, 10, none⟩ = some (.int .i64 e2.tx.id) := ⟨cc4.cell hS3.1 (by first | exact nA1 | exact nB1), cc4.cell hS3.2.1 (by first | exact nA1 | exact nB1), cc4.cell hS3.2.2.1 (by first | exact nA1 | exact nB1), cc4.cell hS3.2.2.2.1 (by first | exact nA1 | exact nB1), cc4.cell hS3.2.2.2.2.1 (by first | exact nA1 | exact nB1), cc4.cell hS3.2.2.2.2.2.1 (by first | exact nA1 | exact nB1), cc4.cell hS3.2.2.2.2.2.2.1 (by first | exact nA1 | exact nB1), cc4.cell hS3.2.2.2.2.2.2.2.1 (by first | exact nA1 | exact nB1), cc4.cell hS3.2.2.2.2.2.2.2.2.1 (by first | exact nA1 | exact nB1), cc4.cell hS3.2.2.2.2.2.2.2.2.2.1 (by first | exact nA1 | exact nB1), cc4.cell hS3.2.2.2.2.2.2.2.2.2.2.1 (by first | exact nA1 | exact nB1), cc4.cell hS3.2.2.2.2.2.2.2.2.2.2.2.1 (by first | exact nA1 | exact nB1), cc4.cell hS3.2.2.2.2.2.2.2.2.2.2.2.2.1 (by first | exact nA1 | exact nB1), cc4.cell hS3.2.2.2.2.2.2.2.2.2.2.2.2.2.1 (by first | exact nA1 | exact nB1), cc4.cell hS3.2.2.2.2.2.2.2.2.2.2.2.2.2.2.1 (by first | exact nA1 | exact nB1), cc4.cell hS3.2.2.2.2.2.2.2.2.2.2.2.2.2.2.2.1 (by first | exact nA1 | exact nB1), cc4.cell hS3.2.2.2.2.2.2.2.2.2.2.2.2.2.2.2.2.1 (by first | exact nA1 | exact nB1), cc4.cell hS3.2.2.2.2.2.2.2.2.2.2.2.2.2.2.2.2.2.1 (by first | exact nA1 | exact nB1), cc4.cell hS3.2.2.2.2.2.2.2.2.2.2.2.2.2.2.2.2.2.2.1 (by first | exact nA1 | exact nB1), cc4.cell hS3.2.2.2.2.2.2.2.2.2.2.2.2.2.2.2.2.2.2.2.1 (by first | exact nA1 | exact nB1), cc4.cell hS3.2.2.2.2.2.2.2.2.2.2.2.2.2.2.2.2.2.2.2.2.1 (by first | exact nA1 | exact nB1), cc4.cell hS3.2.2.2.2.2.2.2.2.2.2.2.2.2.2.2.2.2.2.2.2.2 (by first | exact nA1 | exact nB1)⟩
      have ch4 := (ch3).trans' cc4 (fun z hz => (gr2 z hz).imp id fun e => by omega)
      go_wp2_with fail
      refine hK.out _ _ hS4 (fun hHeld => ?_)
      clear hK K
      try simp only [Act.put, List.setIfInBounds_toArray, List.set_cons_succ, List.set_cons_zero]
      refine wpAnyH_ready (rs := [8]) (by kernel_rfl) (by simp) (AllReadyH.cons rfl (fun K hK => ?_) (AllReadyH.nil))
      have hS05 := hS4
      have e5_0 := g15_4.at (i := 0) rfl
      have f5_0 := g15_4.free 0
      have e5_1 := g15_4.at (i := 1) rfl
      have f5_1 := g15_4.free 1
      have e5_2 := g15_4.at (i := 2) rfl
      have f5_2 := g15_4.free 2
      have e5_3 := g15_4.at (i := 3) rfl
      have f5_3 := g15_4.free 3
      have cc5 : Chg [g15] v4 ((((v4.setCell ⟨g15, 0, none⟩ (.int .i64 c1)).setCell ⟨g15, 1, none⟩ (.int .u64 p1)).setCell ⟨g15, 2, none⟩ (.int .i64 i1)).setCell ⟨g15, 3, none⟩ (.slice a1 n1 d1)) := (((((Chg.refl [g15] v4).setCell ⟨g15, 0, none⟩ (.int .i64 c1) (.inl (by simp))).setCell ⟨g15, 1, none⟩ (.int .u64 p1) (.inl (by simp))).setCell ⟨g15, 2, none⟩ (.int .i64 i1) (.inl (by simp))).setCell ⟨g15, 3, none⟩ (.slice a1 n1 d1) (.inl (by simp)))
      have Bg15_5 : Blk ((((v4.setCell ⟨g15, 0, none⟩ (.int .i64 c1)).setCell ⟨g15, 1, none⟩ (.int .u64 p1)).setCell ⟨g15, 2, none⟩ (.int .i64 i1)).setCell ⟨g15, 3, none⟩ (.slice a1 n1 d1)) g15 68 [.int .i64 c1, .int .u64 p1, .int .i64 i1, .slice a1 n1 d1] := ((((g15_4.set 0 (.int .i64 c1)).set 1 (.int .u64 p1)).set 2 (.int .i64 i1)).set 3 (.slice a1 n1 d1))
      go_simp
      generalize ((((v4.setCell ⟨g15, 0, none⟩ (.int .i64 c1)).setCell ⟨g15, 1, none⟩ (.int .u64 p1)).setCell ⟨g15, 2, none⟩ (.int .i64 i1)).setCell ⟨g15, 3, none⟩ (.slice a1 n1 d1)) = v5 at *
      clear e5_0 f5_0 e5_1 f5_1 e5_2 f5_2 e5_3 f5_3
      have N155 := N154
      have N165 := N164
      have LED5 := hL5.aside cc5 (fun z hz => by simp at hz; subst hz; exact ⟨N155, by omega⟩)
      have ROX5 := hN2.btw.chg cc5 (by simp; omega)
      have g16_5 := g16_4.chg cc5 (by simp; omega)
      have hS5 : v5.cell? ⟨ga, 0, none⟩ = some (.int .i64 e1.client) ∧ v5.cell? ⟨ga, 1, none⟩ = some (.int .u64 e1.nonce) ∧ v5.cell? ⟨ga, 2, none⟩ = some (.int .u64 e1.fee) ∧ v5.cell? ⟨ga, 3, none⟩ = some (.bool e1.good) ∧ v5.cell? ⟨ga, 4, none⟩ = some (.int .i64 e1.tx.kind) ∧ v5.cell? ⟨ga, 5, none⟩ = some (.int .i64 e1.tx.asset) ∧ v5.cell? ⟨ga, 6, none⟩ = some (.int .i64 e1.tx.dst) ∧ v5.cell? ⟨ga, 7, none⟩ = some (.bool e1.tx.buy) ∧ v5.cell? ⟨ga, 8, none⟩ = some (.int .u64 e1.tx.price) ∧ v5.cell? ⟨ga, 9, none⟩ = some (.int .u64 e1.tx.qty) ∧ v5.cell? ⟨ga, 10, none⟩ = some (.int .i64 e1.tx.id) ∧ v5.cell? ⟨gb, 0, none⟩ = some (.int .i64 e2.client) ∧ v5.cell? ⟨gb, 1, none⟩ = some (.int .u64 e2.nonce) ∧ v5.cell? ⟨gb, 2, none⟩ = some (.int .u64 e2.fee) ∧ v5.cell? ⟨gb, 3, none⟩ = some (.bool e2.good) ∧ v5.cell? ⟨gb, 4, none⟩ = some (.int .i64 e2.tx.kind) ∧ v5.cell? ⟨gb, 5, none⟩ = some (.int .i64 e2.tx.asset) ∧ v5.cell? ⟨gb, 6, none⟩ = some (.int .i64 e2.tx.dst) ∧ v5.cell? ⟨gb, 7, none⟩ = some (.bool e2.tx.buy) ∧ v5.cell? ⟨gb, 8, none⟩ = some (.int .u64 e2.tx.price) ∧ v5.cell? ⟨gb, 9, none⟩ = some (.int .u64 e2.tx.qty) ∧ v5.cell? ⟨gb, 10, none⟩ = some (.int .i64 e2.tx.id) := ⟨cc5.cell hS4.1 (by simp; omega), cc5.cell hS4.2.1 (by simp; omega), cc5.cell hS4.2.2.1 (by simp; omega), cc5.cell hS4.2.2.2.1 (by simp; omega), cc5.cell hS4.2.2.2.2.1 (by simp; omega), cc5.cell hS4.2.2.2.2.2.1 (by simp; omega), cc5.cell hS4.2.2.2.2.2.2.1 (by simp; omega), cc5.cell hS4.2.2.2.2.2.2.2.1 (by simp; omega), cc5.cell hS4.2.2.2.2.2.2.2.2.1 (by simp; omega), cc5.cell hS4.2.2.2.2.2.2.2.2.2.1 (by simp; omega), cc5.cell hS4.2.2.2.2.2.2.2.2.2.2.1 (by simp; omega), cc5.cell hS4.2.2.2.2.2.2.2.2.2.2.2.1 (by simp; omega), cc5.cell hS4.2.2.2.2.2.2.2.2.2.2.2.2.1 (by simp; omega), cc5.cell hS4.2.2.2.2.2.2.2.2.2.2.2.2.2.1 (by simp; omega), cc5.cell hS4.2.2.2.2.2.2.2.2.2.2.2.2.2.2.1 (by simp; omega), cc5.cell hS4.2.2.2.2.2.2.2.2.2.2.2.2.2.2.2.1 (by simp; omega), cc5.cell hS4.2.2.2.2.2.2.2.2.2.2.2.2.2.2.2.2.1 (by simp; omega), cc5.cell hS4.2.2.2.2.2.2.2.2.2.2.2.2.2.2.2.2.2.1 (by simp; omega), cc5.cell hS4.2.2.2.2.2.2.2.2.2.2.2.2.2.2.2.2.2.2.1 (by simp; omega), cc5.cell hS4.2.2.2.2.2.2.2.2.2.2.2.2.2.2.2.2.2.2.2.1 (by simp; omega), cc5.cell hS4.2.2.2.2.2.2.2.2.2.2.2.2.2.2.2.2.2.2.2.2.1 (by simp; omega), cc5.cell hS4.2.2.2.2.2.2.2.2.2.2.2.2.2.2.2.2.2.2.2.2.2 (by simp; omega)⟩
      have ch5 := (ch4).trans' cc5 (fun z hz => .inr (by simp at hz; subst hz; omega))
      refine hK.out _ _ hS5 (fun hHeld => ?_)
      clear hK K
      try simp only [Act.put, List.setIfInBounds_toArray, List.set_cons_succ, List.set_cons_zero]
      refine wpAnyH_ready (rs := [9]) (by kernel_rfl) (by simp) (AllReadyH.cons rfl (fun K hK => ?_) (AllReadyH.nil))
      have hS06 := hS5
      have e6_0 := g16_5.at (i := 0) rfl
      have f6_0 := g16_5.free 0
      have e6_1 := g16_5.at (i := 1) rfl
      have f6_1 := g16_5.free 1
      have e6_2 := g16_5.at (i := 2) rfl
      have f6_2 := g16_5.free 2
      have e6_3 := g16_5.at (i := 3) rfl
      have f6_3 := g16_5.free 3
      have cc6 : Chg [g16] v5 ((((v5.setCell ⟨g16, 0, none⟩ (.int .i64 c2)).setCell ⟨g16, 1, none⟩ (.int .u64 p2)).setCell ⟨g16, 2, none⟩ (.int .i64 i2)).setCell ⟨g16, 3, none⟩ (.slice a2 n2 d2)) := (((((Chg.refl [g16] v5).setCell ⟨g16, 0, none⟩ (.int .i64 c2) (.inl (by simp))).setCell ⟨g16, 1, none⟩ (.int .u64 p2) (.inl (by simp))).setCell ⟨g16, 2, none⟩ (.int .i64 i2) (.inl (by simp))).setCell ⟨g16, 3, none⟩ (.slice a2 n2 d2) (.inl (by simp)))
      have Bg16_6 : Blk ((((v5.setCell ⟨g16, 0, none⟩ (.int .i64 c2)).setCell ⟨g16, 1, none⟩ (.int .u64 p2)).setCell ⟨g16, 2, none⟩ (.int .i64 i2)).setCell ⟨g16, 3, none⟩ (.slice a2 n2 d2)) g16 68 [.int .i64 c2, .int .u64 p2, .int .i64 i2, .slice a2 n2 d2] := ((((g16_5.set 0 (.int .i64 c2)).set 1 (.int .u64 p2)).set 2 (.int .i64 i2)).set 3 (.slice a2 n2 d2))
      go_simp
      generalize ((((v5.setCell ⟨g16, 0, none⟩ (.int .i64 c2)).setCell ⟨g16, 1, none⟩ (.int .u64 p2)).setCell ⟨g16, 2, none⟩ (.int .i64 i2)).setCell ⟨g16, 3, none⟩ (.slice a2 n2 d2)) = v6 at *
      clear e6_0 f6_0 e6_1 f6_1 e6_2 f6_2 e6_3 f6_3
      have N156 := N155
      have N166 := N165
      have LED6 := LED5.aside cc6 (fun z hz => by simp at hz; subst hz; exact ⟨N166, by omega⟩)
      have ROX6 := ROX5.chg cc6 (by simp; omega)
      have g15_6 := Bg15_5.chg cc6 (by simp; omega)
      have hS6 : v6.cell? ⟨ga, 0, none⟩ = some (.int .i64 e1.client) ∧ v6.cell? ⟨ga, 1, none⟩ = some (.int .u64 e1.nonce) ∧ v6.cell? ⟨ga, 2, none⟩ = some (.int .u64 e1.fee) ∧ v6.cell? ⟨ga, 3, none⟩ = some (.bool e1.good) ∧ v6.cell? ⟨ga, 4, none⟩ = some (.int .i64 e1.tx.kind) ∧ v6.cell? ⟨ga, 5, none⟩ = some (.int .i64 e1.tx.asset) ∧ v6.cell? ⟨ga, 6, none⟩ = some (.int .i64 e1.tx.dst) ∧ v6.cell? ⟨ga, 7, none⟩ = some (.bool e1.tx.buy) ∧ v6.cell? ⟨ga, 8, none⟩ = some (.int .u64 e1.tx.price) ∧ v6.cell? ⟨ga, 9, none⟩ = some (.int .u64 e1.tx.qty) ∧ v6.cell? ⟨ga, 10, none⟩ = some (.int .i64 e1.tx.id) ∧ v6.cell? ⟨gb, 0, none⟩ = some (.int .i64 e2.client) ∧ v6.cell? ⟨gb, 1, none⟩ = some (.int .u64 e2.nonce) ∧ v6.cell? ⟨gb, 2, none⟩ = some (.int .u64 e2.fee) ∧ v6.cell? ⟨gb, 3, none⟩ = some (.bool e2.good) ∧ v6.cell? ⟨gb, 4, none⟩ = some (.int .i64 e2.tx.kind) ∧ v6.cell? ⟨gb, 5, none⟩ = some (.int .i64 e2.tx.asset) ∧ v6.cell? ⟨gb, 6, none⟩ = some (.int .i64 e2.tx.dst) ∧ v6.cell? ⟨gb, 7, none⟩ = some (.bool e2.tx.buy) ∧ v6.cell? ⟨gb, 8, none⟩ = some (.int .u64 e2.tx.price) ∧ v6.cell? ⟨gb, 9, none⟩ = some (.int .u64 e2.tx.qty) ∧ v6.cell? ⟨gb, 10, none⟩ = some (.int .i64 e2.tx.id) := ⟨cc6.cell hS5.1 (by simp; omega), cc6.cell hS5.2.1 (by simp; omega), cc6.cell hS5.2.2.1 (by simp; omega), cc6.cell hS5.2.2.2.1 (by simp; omega), cc6.cell hS5.2.2.2.2.1 (by simp; omega), cc6.cell hS5.2.2.2.2.2.1 (by simp; omega), cc6.cell hS5.2.2.2.2.2.2.1 (by simp; omega), cc6.cell hS5.2.2.2.2.2.2.2.1 (by simp; omega), cc6.cell hS5.2.2.2.2.2.2.2.2.1 (by simp; omega), cc6.cell hS5.2.2.2.2.2.2.2.2.2.1 (by simp; omega), cc6.cell hS5.2.2.2.2.2.2.2.2.2.2.1 (by simp; omega), cc6.cell hS5.2.2.2.2.2.2.2.2.2.2.2.1 (by simp; omega), cc6.cell hS5.2.2.2.2.2.2.2.2.2.2.2.2.1 (by simp; omega), cc6.cell hS5.2.2.2.2.2.2.2.2.2.2.2.2.2.1 (by simp; omega), cc6.cell hS5.2.2.2.2.2.2.2.2.2.2.2.2.2.2.1 (by simp; omega), cc6.cell hS5.2.2.2.2.2.2.2.2.2.2.2.2.2.2.2.1 (by simp; omega), cc6.cell hS5.2.2.2.2.2.2.2.2.2.2.2.2.2.2.2.2.1 (by simp; omega), cc6.cell hS5.2.2.2.2.2.2.2.2.2.2.2.2.2.2.2.2.2.1 (by simp; omega), cc6.cell hS5.2.2.2.2.2.2.2.2.2.2.2.2.2.2.2.2.2.2.1 (by simp; omega), cc6.cell hS5.2.2.2.2.2.2.2.2.2.2.2.2.2.2.2.2.2.2.2.1 (by simp; omega), cc6.cell hS5.2.2.2.2.2.2.2.2.2.2.2.2.2.2.2.2.2.2.2.2.1 (by simp; omega), cc6.cell hS5.2.2.2.2.2.2.2.2.2.2.2.2.2.2.2.2.2.2.2.2.2 (by simp; omega)⟩
      have ch6 := (ch5).trans' cc6 (fun z hz => .inr (by simp at hz; subst hz; omega))
      refine hK.out _ _ hS6 (fun hHeld => ?_)
      clear hK K
      try simp only [Act.put, List.setIfInBounds_toArray, List.set_cons_succ, List.set_cons_zero]
      refine wpAnyH_done (by kernel_rfl) ?_ _
      exact hQ _ _ _ _ _ _ _ _ LED6 ROX6.row g15_6 Bg16_6 _ _ _ _ _ _
  · skip
    have hS01 := hS
    have cc1 : Chg [] v0 (v0.alloc (.cells #[.int .i64 0, .int .u64 0, .int .i64 0, .slice none 0 0] 68)) := (Chg.refl _ _).alloc _
    have Bg16 : Blk (v0.alloc (.cells #[.int .i64 0, .int .u64 0, .int .i64 0, .slice none 0 0] 68)) v0.heap.size 68 [.int .i64 0, .int .u64 0, .int .i64 0, .slice none 0 0] := Blk.new _ _ _
    have Lg16 := chW.size
    have N161 : v0.heap.size ∉ FF := fun hm => by have := (LED_0.lt _ hm).2; omega
    have sz_1 := cc1.size
    go_simp
    generalize hg16 : v0.heap.size = g16 at *
    generalize v0.alloc _ = v1 at *
    have LED1 := LED_0.to cc1
    have hS1 : v1.cell? ⟨ga, 0, none⟩ = some (.int .i64 e1.client) ∧ v1.cell? ⟨ga, 1, none⟩ = some (.int .u64 e1.nonce) ∧ v1.cell? ⟨ga, 2, none⟩ = some (.int .u64 e1.fee) ∧ v1.cell? ⟨ga, 3, none⟩ = some (.bool e1.good) ∧ v1.cell? ⟨ga, 4, none⟩ = some (.int .i64 e1.tx.kind) ∧ v1.cell? ⟨ga, 5, none⟩ = some (.int .i64 e1.tx.asset) ∧ v1.cell? ⟨ga, 6, none⟩ = some (.int .i64 e1.tx.dst) ∧ v1.cell? ⟨ga, 7, none⟩ = some (.bool e1.tx.buy) ∧ v1.cell? ⟨ga, 8, none⟩ = some (.int .u64 e1.tx.price) ∧ v1.cell? ⟨ga, 9, none⟩ = some (.int .u64 e1.tx.qty) ∧ v1.cell? ⟨ga, 10, none⟩ = some (.int .i64 e1.tx.id) ∧ v1.cell? ⟨gb, 0, none⟩ = some (.int .i64 e2.client) ∧ v1.cell? ⟨gb, 1, none⟩ = some (.int .u64 e2.nonce) ∧ v1.cell? ⟨gb, 2, none⟩ = some (.int .u64 e2.fee) ∧ v1.cell? ⟨gb, 3, none⟩ = some (.bool e2.good) ∧ v1.cell? ⟨gb, 4, none⟩ = some (.int .i64 e2.tx.kind) ∧ v1.cell? ⟨gb, 5, none⟩ = some (.int .i64 e2.tx.asset) ∧ v1.cell? ⟨gb, 6, none⟩ = some (.int .i64 e2.tx.dst) ∧ v1.cell? ⟨gb, 7, none⟩ = some (.bool e2.tx.buy) ∧ v1.cell? ⟨gb, 8, none⟩ = some (.int .u64 e2.tx.price) ∧ v1.cell? ⟨gb, 9, none⟩ = some (.int .u64 e2.tx.qty) ∧ v1.cell? ⟨gb, 10, none⟩ = some (.int .i64 e2.tx.id) := ⟨cc1.cell hS.1 (by simp), cc1.cell hS.2.1 (by simp), cc1.cell hS.2.2.1 (by simp), cc1.cell hS.2.2.2.1 (by simp), cc1.cell hS.2.2.2.2.1 (by simp), cc1.cell hS.2.2.2.2.2.1 (by simp), cc1.cell hS.2.2.2.2.2.2.1 (by simp), cc1.cell hS.2.2.2.2.2.2.2.1 (by simp), cc1.cell hS.2.2.2.2.2.2.2.2.1 (by simp), cc1.cell hS.2.2.2.2.2.2.2.2.2.1 (by simp), cc1.cell hS.2.2.2.2.2.2.2.2.2.2.1 (by simp), cc1.cell hS.2.2.2.2.2.2.2.2.2.2.2.1 (by simp), cc1.cell hS.2.2.2.2.2.2.2.2.2.2.2.2.1 (by simp), cc1.cell hS.2.2.2.2.2.2.2.2.2.2.2.2.2.1 (by simp), cc1.cell hS.2.2.2.2.2.2.2.2.2.2.2.2.2.2.1 (by simp), cc1.cell hS.2.2.2.2.2.2.2.2.2.2.2.2.2.2.2.1 (by simp), cc1.cell hS.2.2.2.2.2.2.2.2.2.2.2.2.2.2.2.2.1 (by simp), cc1.cell hS.2.2.2.2.2.2.2.2.2.2.2.2.2.2.2.2.2.1 (by simp), cc1.cell hS.2.2.2.2.2.2.2.2.2.2.2.2.2.2.2.2.2.2.1 (by simp), cc1.cell hS.2.2.2.2.2.2.2.2.2.2.2.2.2.2.2.2.2.2.2.1 (by simp), cc1.cell hS.2.2.2.2.2.2.2.2.2.2.2.2.2.2.2.2.2.2.2.2.1 (by simp), cc1.cell hS.2.2.2.2.2.2.2.2.2.2.2.2.2.2.2.2.2.2.2.2.2 (by simp)⟩
    have ch1 := (chW).trans' cc1 (by simp)
    refine hK.out _ _ hS1 (fun hHeld => ?_)
    clear hK K
    try simp only [Act.put, List.setIfInBounds_toArray, List.set_cons_succ, List.set_cons_zero]
    refine wpAnyH_ready (rs := [2, 6]) (by kernel_rfl) (by simp) (AllReadyH.cons rfl (fun K hK => ?_) (AllReadyH.cons rfl (fun K hK => ?_) (AllReadyH.nil)))
    · skip
      have hS02 := hS1
      go_simp
      have sz2 := ch1.size
      have lug16_2 := Bg16.lt
      refine (lxDo LED1 (by omega) e1 HE1.out S1 ⟨c1, p1, i1, T1⟩ HD1.out).mono ?_
      dsimp only
      rw [HN1.out]
      rintro y v2 ⟨a1, d1, F2_, rfl, hN1, hL2, cc2, gr2⟩
      have nA1 : ga ∉ F2_ := fun hm => (gr2 _ hm).elim nA0 fun e => by omega
      have nB1 : gb ∉ F2_ := fun hm => (gr2 _ hm).elim nB0 fun e => by omega
      have sw2 := cc2.size
      have N162 := (show g16 ∉ F2_ from fun hm => (gr2 _ hm).elim N161 fun e => by omega)
      have g16_2 := Bg16.chg cc2 (N161)
      have hS2 : v2.cell? ⟨ga, 0, none⟩ = some (.int .i64 e1.client) ∧ v2.cell? ⟨ga, 1, none⟩ = some (.int .u64 e1.nonce) ∧ v2.cell? ⟨ga, 2, none⟩ = some (.int .u64 e1.fee) ∧ v2.cell? ⟨ga, 3, none⟩ = some (.bool e1.good) ∧ v2.cell? ⟨ga, 4, none⟩ = some (.int .i64 e1.tx.kind) ∧ v2.cell? ⟨ga, 5, none⟩ = some (.int .i64 e1.tx.asset) ∧ v2.cell? ⟨ga, 6, none⟩ = some (.int .i64 e1.tx.dst) ∧ v2.cell? ⟨ga, 7, none⟩ = some (.bool e1.tx.buy) ∧ v2.cell? ⟨ga, 8, none⟩ = some (.int .u64 e1.tx.price) ∧ v2.cell? ⟨ga, 9, none⟩ = some (.int .u64 e1.tx.qty) ∧ v2.cell? ⟨ga, 10, none⟩ = some (.int .i64 e1.tx.id) ∧ v2.cell? ⟨gb, 0, none⟩ = some (.int .i64 e2.client) ∧ v2.cell? ⟨gb, 1, none⟩ = some (.int .u64 e2.nonce) ∧ v2.cell? ⟨gb, 2, none⟩ = some (.int .u64 e2.fee) ∧ v2.cell? ⟨gb, 3, none⟩ = some (.bool e2.good) ∧ v2.cell? ⟨gb, 4, none⟩ = some (.int .i64 e2.tx.kind) ∧ v2.cell? ⟨gb, 5, none⟩ = some (.int .i64 e2.tx.asset) ∧ v2.cell? ⟨gb, 6, none⟩ = some (.int .i64 e2.tx.dst) ∧ v2.cell? ⟨gb, 7, none⟩ = some (.bool e2.tx.buy) ∧ v2.cell? ⟨gb, 8, none⟩ = some (.int .u64 e2.tx.price) ∧ v2.cell? ⟨gb, 9, none⟩ = some (.int .u64 e2.tx.qty) ∧ v2.cell? ⟨gb, 10, none⟩ = some (.int .i64 e2.tx.id) := ⟨cc2.cell hS1.1 (by first | exact nA0 | exact nB0), cc2.cell hS1.2.1 (by first | exact nA0 | exact nB0), cc2.cell hS1.2.2.1 (by first | exact nA0 | exact nB0), cc2.cell hS1.2.2.2.1 (by first | exact nA0 | exact nB0), cc2.cell hS1.2.2.2.2.1 (by first | exact nA0 | exact nB0), cc2.cell hS1.2.2.2.2.2.1 (by first | exact nA0 | exact nB0), cc2.cell hS1.2.2.2.2.2.2.1 (by first | exact nA0 | exact nB0), cc2.cell hS1.2.2.2.2.2.2.2.1 (by first | exact nA0 | exact nB0), cc2.cell hS1.2.2.2.2.2.2.2.2.1 (by first | exact nA0 | exact nB0), cc2.cell hS1.2.2.2.2.2.2.2.2.2.1 (by first | exact nA0 | exact nB0), cc2.cell hS1.2.2.2.2.2.2.2.2.2.2.1 (by first | exact nA0 | exact nB0), cc2.cell hS1.2.2.2.2.2.2.2.2.2.2.2.1 (by first | exact nA0 | exact nB0), cc2.cell hS1.2.2.2.2.2.2.2.2.2.2.2.2.1 (by first | exact nA0 | exact nB0), cc2.cell hS1.2.2.2.2.2.2.2.2.2.2.2.2.2.1 (by first | exact nA0 | exact nB0), cc2.cell hS1.2.2.2.2.2.2.2.2.2.2.2.2.2.2.1 (by first | exact nA0 | exact nB0), cc2.cell hS1.2.2.2.2.2.2.2.2.2.2.2.2.2.2.2.1 (by first | exact nA0 | exact nB0), cc2.cell hS1.2.2.2.2.2.2.2.2.2.2.2.2.2.2.2.2.1 (by first | exact nA0 | exact nB0), cc2.cell hS1.2.2.2.2.2.2.2.2.2.2.2.2.2.2.2.2.2.1 (by first | exact nA0 | exact nB0), cc2.cell hS1.2.2.2.2.2.2.2.2.2.2.2.2.2.2.2.2.2.2.1 (by first | exact nA0 | exact nB0), cc2.cell hS1.2.2.2.2.2.2.2.2.2.2.2.2.2.2.2.2.2.2.2.1 (by first | exact nA0 | exact nB0), cc2.cell hS1.2.2.2.2.2.2.2.2.2.2.2.2.2.2.2.2.2.2.2.2.1 (by first | exact nA0 | exact nB0), cc2.cell hS1.2.2.2.2.2.2.2.2.2.2.2.2.2.2.2.2.2.2.2.2.2 (by first | exact nA0 | exact nB0)⟩
      have ch2 := (ch1).trans' cc2 (fun z hz => .inl hz)
      go_wp2_with fail
      refine hK.out _ _ hS2 (fun hHeld => ?_)
      clear hK K
      try simp only [Act.put, List.setIfInBounds_toArray, List.set_cons_succ, List.set_cons_zero]
      refine wpAnyH_ready (rs := [5, 6]) (by kernel_rfl) (by simp) (AllReadyH.cons rfl (fun K hK => ?_) (AllReadyH.cons rfl (fun K hK => ?_) (AllReadyH.nil)))
      · skip
        have hS03 := hS2
        go_simp
        have sz5 := ch2.size
        have lug16_5 := g16_2.lt
        refine (lxDo hL2 (by omega) e2 HE2.out S2 ⟨c2, p2, i2, T2⟩ HD2.out).mono ?_
        dsimp only
        rw [HN2.out]
        rintro y v3 ⟨a2, d2, F5_, rfl, hN2, hL5, cc3, gr5⟩
        have nA2 : ga ∉ F5_ := fun hm => (gr5 _ hm).elim nA1 fun e => by omega
        have nB2 : gb ∉ F5_ := fun hm => (gr5 _ hm).elim nB1 fun e => by omega
        have sw5 := cc3.size
        have N163 := (show g16 ∉ F5_ from fun hm => (gr5 _ hm).elim N162 fun e => by omega)
        have g16_3 := g16_2.chg cc3 (N162)
        have hS3 : v3.cell? ⟨ga, 0, none⟩ = some (.int .i64 e1.client) ∧ v3.cell? ⟨ga, 1, none⟩ = some (.int .u64 e1.nonce) ∧ v3.cell? ⟨ga, 2, none⟩ = some (.int .u64 e1.fee) ∧ v3.cell? ⟨ga, 3, none⟩ = some (.bool e1.good) ∧ v3.cell? ⟨ga, 4, none⟩ = some (.int .i64 e1.tx.kind) ∧ v3.cell? ⟨ga, 5, none⟩ = some (.int .i64 e1.tx.asset) ∧ v3.cell? ⟨ga, 6, none⟩ = some (.int .i64 e1.tx.dst) ∧ v3.cell? ⟨ga, 7, none⟩ = some (.bool e1.tx.buy) ∧ v3.cell? ⟨ga, 8, none⟩ = some (.int .u64 e1.tx.price) ∧ v3.cell? ⟨ga, 9, none⟩ = some (.int .u64 e1.tx.qty) ∧ v3.cell? ⟨ga, 10, none⟩ = some (.int .i64 e1.tx.id) ∧ v3.cell? ⟨gb, 0, none⟩ = some (.int .i64 e2.client) ∧ v3.cell? ⟨gb, 1, none⟩ = some (.int .u64 e2.nonce) ∧ v3.cell? ⟨gb, 2, none⟩ = some (.int .u64 e2.fee) ∧ v3.cell? ⟨gb, 3, none⟩ = some (.bool e2.good) ∧ v3.cell? ⟨gb, 4, none⟩ = some (.int .i64 e2.tx.kind) ∧ v3.cell? ⟨gb, 5, none⟩ = some (.int .i64 e2.tx.asset) ∧ v3.cell? ⟨gb, 6, none⟩ = some (.int .i64 e2.tx.dst) ∧ v3.cell? ⟨gb, 7, none⟩ = some (.bool e2.tx.buy) ∧ v3.cell? ⟨gb, 8, none⟩ = some (.int .u64 e2.tx.price) ∧ v3.cell? ⟨gb, 9, none⟩ = some (.int .u64 e2.tx.qty) ∧ v3.cell? ⟨gb, 10, none⟩ = some (.int .i64 e2.tx.id) := ⟨cc3.cell hS2.1 (by first | exact nA1 | exact nB1), cc3.cell hS2.2.1 (by first | exact nA1 | exact nB1), cc3.cell hS2.2.2.1 (by first | exact nA1 | exact nB1), cc3.cell hS2.2.2.2.1 (by first | exact nA1 | exact nB1), cc3.cell hS2.2.2.2.2.1 (by first | exact nA1 | exact nB1), cc3.cell hS2.2.2.2.2.2.1 (by first | exact nA1 | exact nB1), cc3.cell hS2.2.2.2.2.2.2.1 (by first | exact nA1 | exact nB1), cc3.cell hS2.2.2.2.2.2.2.2.1 (by first | exact nA1 | exact nB1), cc3.cell hS2.2.2.2.2.2.2.2.2.1 (by first | exact nA1 | exact nB1), cc3.cell hS2.2.2.2.2.2.2.2.2.2.1 (by first | exact nA1 | exact nB1), cc3.cell hS2.2.2.2.2.2.2.2.2.2.2.1 (by first | exact nA1 | exact nB1), cc3.cell hS2.2.2.2.2.2.2.2.2.2.2.2.1 (by first | exact nA1 | exact nB1), cc3.cell hS2.2.2.2.2.2.2.2.2.2.2.2.2.1 (by first | exact nA1 | exact nB1), cc3.cell hS2.2.2.2.2.2.2.2.2.2.2.2.2.2.1 (by first | exact nA1 | exact nB1), cc3.cell hS2.2.2.2.2.2.2.2.2.2.2.2.2.2.2.1 (by first | exact nA1 | exact nB1), cc3.cell hS2.2.2.2.2.2.2.2.2.2.2.2.2.2.2.2.1 (by first | exact nA1 | exact nB1), cc3.cell hS2.2.2.2.2.2.2.2.2.2.2.2.2.2.2.2.2.1 (by first | exact nA1 | exact nB1), cc3.cell hS2.2.2.2.2.2.2.2.2.2.2.2.2.2.2.2.2.2.1 (by first | exact nA1 | exact nB1), cc3.cell hS2.2.2.2.2.2.2.2.2.2.2.2.2.2.2.2.2.2.2.1 (by first | exact nA1 | exact nB1), cc3.cell hS2.2.2.2.2.2.2.2.2.2.2.2.2.2.2.2.2.2.2.2.1 (by first | exact nA1 | exact nB1), cc3.cell hS2.2.2.2.2.2.2.2.2.2.2.2.2.2.2.2.2.2.2.2.2.1 (by first | exact nA1 | exact nB1), cc3.cell hS2.2.2.2.2.2.2.2.2.2.2.2.2.2.2.2.2.2.2.2.2.2 (by first | exact nA1 | exact nB1)⟩
        have ch3 := (ch2).trans' cc3 (fun z hz => (gr2 z hz).imp id fun e => by omega)
        go_wp2_with fail
        refine hK.out _ _ hS3 (fun hHeld => ?_)
        clear hK K
        try simp only [Act.put, List.setIfInBounds_toArray, List.set_cons_succ, List.set_cons_zero]
        refine wpAnyH_ready (rs := [6]) (by kernel_rfl) (by simp) (AllReadyH.cons rfl (fun K hK => ?_) (AllReadyH.nil))
        have hS04 := hS3
        have cc4 : Chg [] v3 (v3.alloc (.cells #[.int .i64 0, .int .u64 0, .int .i64 0, .slice none 0 0] 68)) := (Chg.refl _ _).alloc _
        have Bg15 : Blk (v3.alloc (.cells #[.int .i64 0, .int .u64 0, .int .i64 0, .slice none 0 0] 68)) v3.heap.size 68 [.int .i64 0, .int .u64 0, .int .i64 0, .slice none 0 0] := Blk.new _ _ _
        have Lg15 := ch3.size
        have ltg16_4 := g16_3.lt
        have N154 : v3.heap.size ∉ F5_ := fun hm => by have := (hL5.lt _ hm).2; omega
        have sz_4 := cc4.size
        go_simp
        generalize hg15 : v3.heap.size = g15 at *
        generalize v3.alloc _ = v4 at *
        have N164 := N163
        have LED4 := hL5.to cc4
        have ROX4 := hN2.btw.chg cc4 (by simp)
        have g16_4 := g16_3.chg cc4 (by simp)
        have hS4 : v4.cell? ⟨ga, 0, none⟩ = some (.int .i64 e1.client) ∧ v4.cell? ⟨ga, 1, none⟩ = some (.int .u64 e1.nonce) ∧ v4.cell? ⟨ga, 2, none⟩ = some (.int .u64 e1.fee) ∧ v4.cell? ⟨ga, 3, none⟩ = some (.bool e1.good) ∧ v4.cell? ⟨ga, 4, none⟩ = some (.int .i64 e1.tx.kind) ∧ v4.cell? ⟨ga, 5, none⟩ = some (.int .i64 e1.tx.asset) ∧ v4.cell? ⟨ga, 6, none⟩ = some (.int .i64 e1.tx.dst) ∧ v4.cell? ⟨ga, 7, none⟩ = some (.bool e1.tx.buy) ∧ v4.cell? ⟨ga, 8, none⟩ = some (.int .u64 e1.tx.price) ∧ v4.cell? ⟨ga, 9, none⟩ = some (.int .u64 e1.tx.qty) ∧ v4.cell? ⟨ga, 10, none⟩ = some (.int .i64 e1.tx.id) ∧ v4.cell? ⟨gb, 0, none⟩ = some (.int .i64 e2.client) ∧ v4.cell? ⟨gb, 1, none⟩ = some (.int .u64 e2.nonce) ∧ v4.cell? ⟨gb, 2, none⟩ = some (.int .u64 e2.fee) ∧ v4.cell? ⟨gb, 3, none⟩ = some (.bool e2.good) ∧ v4.cell? ⟨gb, 4, none⟩ = some (.int .i64 e2.tx.kind) ∧ v4.cell? ⟨gb, 5, none⟩ = some (.int .i64 e2.tx.asset) ∧ v4.cell? ⟨gb, 6, none⟩ = some (.int .i64 e2.tx.dst) ∧ v4.cell? ⟨gb, 7, none⟩ = some (.bool e2.tx.buy) ∧ v4.cell? ⟨gb, 8, none⟩ = some (.int .u64 e2.tx.price) ∧ v4.cell? ⟨gb, 9, none⟩ = some (.int .u64 e2.tx.qty) ∧ v4.cell? ⟨gb, 10, none⟩ = some (.int .i64 e2.tx.id) := ⟨cc4.cell hS3.1 (by simp), cc4.cell hS3.2.1 (by simp), cc4.cell hS3.2.2.1 (by simp), cc4.cell hS3.2.2.2.1 (by simp), cc4.cell hS3.2.2.2.2.1 (by simp), cc4.cell hS3.2.2.2.2.2.1 (by simp), cc4.cell hS3.2.2.2.2.2.2.1 (by simp), cc4.cell hS3.2.2.2.2.2.2.2.1 (by simp), cc4.cell hS3.2.2.2.2.2.2.2.2.1 (by simp), cc4.cell hS3.2.2.2.2.2.2.2.2.2.1 (by simp), cc4.cell hS3.2.2.2.2.2.2.2.2.2.2.1 (by simp), cc4.cell hS3.2.2.2.2.2.2.2.2.2.2.2.1 (by simp), cc4.cell hS3.2.2.2.2.2.2.2.2.2.2.2.2.1 (by simp), cc4.cell hS3.2.2.2.2.2.2.2.2.2.2.2.2.2.1 (by simp), cc4.cell hS3.2.2.2.2.2.2.2.2.2.2.2.2.2.2.1 (by simp), cc4.cell hS3.2.2.2.2.2.2.2.2.2.2.2.2.2.2.2.1 (by simp), cc4.cell hS3.2.2.2.2.2.2.2.2.2.2.2.2.2.2.2.2.1 (by simp), cc4.cell hS3.2.2.2.2.2.2.2.2.2.2.2.2.2.2.2.2.2.1 (by simp), cc4.cell hS3.2.2.2.2.2.2.2.2.2.2.2.2.2.2.2.2.2.2.1 (by simp), cc4.cell hS3.2.2.2.2.2.2.2.2.2.2.2.2.2.2.2.2.2.2.2.1 (by simp), cc4.cell hS3.2.2.2.2.2.2.2.2.2.2.2.2.2.2.2.2.2.2.2.2.1 (by simp), cc4.cell hS3.2.2.2.2.2.2.2.2.2.2.2.2.2.2.2.2.2.2.2.2.2 (by simp)⟩
        have ch4 := (ch3).trans' cc4 (by simp)
        refine hK.out _ _ hS4 (fun hHeld => ?_)
        clear hK K
        try simp only [Act.put, List.setIfInBounds_toArray, List.set_cons_succ, List.set_cons_zero]
        refine wpAnyH_ready (rs := [8]) (by kernel_rfl) (by simp) (AllReadyH.cons rfl (fun K hK => ?_) (AllReadyH.nil))
        have hS05 := hS4
        have e5_0 := Bg15.at (i := 0) rfl
        have f5_0 := Bg15.free 0
        have e5_1 := Bg15.at (i := 1) rfl
        have f5_1 := Bg15.free 1
        have e5_2 := Bg15.at (i := 2) rfl
        have f5_2 := Bg15.free 2
        have e5_3 := Bg15.at (i := 3) rfl
        have f5_3 := Bg15.free 3
        have cc5 : Chg [g15] v4 ((((v4.setCell ⟨g15, 0, none⟩ (.int .i64 c1)).setCell ⟨g15, 1, none⟩ (.int .u64 p1)).setCell ⟨g15, 2, none⟩ (.int .i64 i1)).setCell ⟨g15, 3, none⟩ (.slice a1 n1 d1)) := (((((Chg.refl [g15] v4).setCell ⟨g15, 0, none⟩ (.int .i64 c1) (.inl (by simp))).setCell ⟨g15, 1, none⟩ (.int .u64 p1) (.inl (by simp))).setCell ⟨g15, 2, none⟩ (.int .i64 i1) (.inl (by simp))).setCell ⟨g15, 3, none⟩ (.slice a1 n1 d1) (.inl (by simp)))
        have Bg15_5 : Blk ((((v4.setCell ⟨g15, 0, none⟩ (.int .i64 c1)).setCell ⟨g15, 1, none⟩ (.int .u64 p1)).setCell ⟨g15, 2, none⟩ (.int .i64 i1)).setCell ⟨g15, 3, none⟩ (.slice a1 n1 d1)) g15 68 [.int .i64 c1, .int .u64 p1, .int .i64 i1, .slice a1 n1 d1] := ((((Bg15.set 0 (.int .i64 c1)).set 1 (.int .u64 p1)).set 2 (.int .i64 i1)).set 3 (.slice a1 n1 d1))
        go_simp
        generalize ((((v4.setCell ⟨g15, 0, none⟩ (.int .i64 c1)).setCell ⟨g15, 1, none⟩ (.int .u64 p1)).setCell ⟨g15, 2, none⟩ (.int .i64 i1)).setCell ⟨g15, 3, none⟩ (.slice a1 n1 d1)) = v5 at *
        clear e5_0 f5_0 e5_1 f5_1 e5_2 f5_2 e5_3 f5_3
        have N165 := N164
        have LED5 := LED4.aside cc5 (fun z hz => by simp at hz; subst hz; exact ⟨N154, by omega⟩)
        have ROX5 := ROX4.chg cc5 (by simp; omega)
        have N155 := N154
        have g16_5 := g16_4.chg cc5 (by simp; omega)
        have hS5 : v5.cell? ⟨ga, 0, none⟩ = some (.int .i64 e1.client) ∧ v5.cell? ⟨ga, 1, none⟩ = some (.int .u64 e1.nonce) ∧ v5.cell? ⟨ga, 2, none⟩ = some (.int .u64 e1.fee) ∧ v5.cell? ⟨ga, 3, none⟩ = some (.bool e1.good) ∧ v5.cell? ⟨ga, 4, none⟩ = some (.int .i64 e1.tx.kind) ∧ v5.cell? ⟨ga, 5, none⟩ = some (.int .i64 e1.tx.asset) ∧ v5.cell? ⟨ga, 6, none⟩ = some (.int .i64 e1.tx.dst) ∧ v5.cell? ⟨ga, 7, none⟩ = some (.bool e1.tx.buy) ∧ v5.cell? ⟨ga, 8, none⟩ = some (.int .u64 e1.tx.price) ∧ v5.cell? ⟨ga, 9, none⟩ = some (.int .u64 e1.tx.qty) ∧ v5.cell? ⟨ga, 10, none⟩ = some (.int .i64 e1.tx.id) ∧ v5.cell? ⟨gb, 0, none⟩ = some (.int .i64 e2.client) ∧ v5.cell? ⟨gb, 1, none⟩ = some (.int .u64 e2.nonce) ∧ v5.cell? ⟨gb, 2, none⟩ = some (.int .u64 e2.fee) ∧ v5.cell? ⟨gb, 3, none⟩ = some (.bool e2.good) ∧ v5.cell? ⟨gb, 4, none⟩ = some (.int .i64 e2.tx.kind) ∧ v5.cell? ⟨gb, 5, none⟩ = some (.int .i64 e2.tx.asset) ∧ v5.cell? ⟨gb, 6, none⟩ = some (.int .i64 e2.tx.dst) ∧ v5.cell? ⟨gb, 7, none⟩ = some (.bool e2.tx.buy) ∧ v5.cell? ⟨gb, 8, none⟩ = some (.int .u64 e2.tx.price) ∧ v5.cell? ⟨gb, 9, none⟩ = some (.int .u64 e2.tx.qty) ∧ v5.cell? ⟨gb, 10, none⟩ = some (.int .i64 e2.tx.id) := ⟨cc5.cell hS4.1 (by simp; omega), cc5.cell hS4.2.1 (by simp; omega), cc5.cell hS4.2.2.1 (by simp; omega), cc5.cell hS4.2.2.2.1 (by simp; omega), cc5.cell hS4.2.2.2.2.1 (by simp; omega), cc5.cell hS4.2.2.2.2.2.1 (by simp; omega), cc5.cell hS4.2.2.2.2.2.2.1 (by simp; omega), cc5.cell hS4.2.2.2.2.2.2.2.1 (by simp; omega), cc5.cell hS4.2.2.2.2.2.2.2.2.1 (by simp; omega), cc5.cell hS4.2.2.2.2.2.2.2.2.2.1 (by simp; omega), cc5.cell hS4.2.2.2.2.2.2.2.2.2.2.1 (by simp; omega), cc5.cell hS4.2.2.2.2.2.2.2.2.2.2.2.1 (by simp; omega), cc5.cell hS4.2.2.2.2.2.2.2.2.2.2.2.2.1 (by simp; omega), cc5.cell hS4.2.2.2.2.2.2.2.2.2.2.2.2.2.1 (by simp; omega), cc5.cell hS4.2.2.2.2.2.2.2.2.2.2.2.2.2.2.1 (by simp; omega), cc5.cell hS4.2.2.2.2.2.2.2.2.2.2.2.2.2.2.2.1 (by simp; omega), cc5.cell hS4.2.2.2.2.2.2.2.2.2.2.2.2.2.2.2.2.1 (by simp; omega), cc5.cell hS4.2.2.2.2.2.2.2.2.2.2.2.2.2.2.2.2.2.1 (by simp; omega), cc5.cell hS4.2.2.2.2.2.2.2.2.2.2.2.2.2.2.2.2.2.2.1 (by simp; omega), cc5.cell hS4.2.2.2.2.2.2.2.2.2.2.2.2.2.2.2.2.2.2.2.1 (by simp; omega), cc5.cell hS4.2.2.2.2.2.2.2.2.2.2.2.2.2.2.2.2.2.2.2.2.1 (by simp; omega), cc5.cell hS4.2.2.2.2.2.2.2.2.2.2.2.2.2.2.2.2.2.2.2.2.2 (by simp; omega)⟩
        have ch5 := (ch4).trans' cc5 (fun z hz => .inr (by simp at hz; subst hz; omega))
        refine hK.out _ _ hS5 (fun hHeld => ?_)
        clear hK K
        try simp only [Act.put, List.setIfInBounds_toArray, List.set_cons_succ, List.set_cons_zero]
        refine wpAnyH_ready (rs := [9]) (by kernel_rfl) (by simp) (AllReadyH.cons rfl (fun K hK => ?_) (AllReadyH.nil))
        have hS06 := hS5
        have e6_0 := g16_5.at (i := 0) rfl
        have f6_0 := g16_5.free 0
        have e6_1 := g16_5.at (i := 1) rfl
        have f6_1 := g16_5.free 1
        have e6_2 := g16_5.at (i := 2) rfl
        have f6_2 := g16_5.free 2
        have e6_3 := g16_5.at (i := 3) rfl
        have f6_3 := g16_5.free 3
        have cc6 : Chg [g16] v5 ((((v5.setCell ⟨g16, 0, none⟩ (.int .i64 c2)).setCell ⟨g16, 1, none⟩ (.int .u64 p2)).setCell ⟨g16, 2, none⟩ (.int .i64 i2)).setCell ⟨g16, 3, none⟩ (.slice a2 n2 d2)) := (((((Chg.refl [g16] v5).setCell ⟨g16, 0, none⟩ (.int .i64 c2) (.inl (by simp))).setCell ⟨g16, 1, none⟩ (.int .u64 p2) (.inl (by simp))).setCell ⟨g16, 2, none⟩ (.int .i64 i2) (.inl (by simp))).setCell ⟨g16, 3, none⟩ (.slice a2 n2 d2) (.inl (by simp)))
        have Bg16_6 : Blk ((((v5.setCell ⟨g16, 0, none⟩ (.int .i64 c2)).setCell ⟨g16, 1, none⟩ (.int .u64 p2)).setCell ⟨g16, 2, none⟩ (.int .i64 i2)).setCell ⟨g16, 3, none⟩ (.slice a2 n2 d2)) g16 68 [.int .i64 c2, .int .u64 p2, .int .i64 i2, .slice a2 n2 d2] := ((((g16_5.set 0 (.int .i64 c2)).set 1 (.int .u64 p2)).set 2 (.int .i64 i2)).set 3 (.slice a2 n2 d2))
        go_simp
        generalize ((((v5.setCell ⟨g16, 0, none⟩ (.int .i64 c2)).setCell ⟨g16, 1, none⟩ (.int .u64 p2)).setCell ⟨g16, 2, none⟩ (.int .i64 i2)).setCell ⟨g16, 3, none⟩ (.slice a2 n2 d2)) = v6 at *
        clear e6_0 f6_0 e6_1 f6_1 e6_2 f6_2 e6_3 f6_3
        have N166 := N165
        have LED6 := LED5.aside cc6 (fun z hz => by simp at hz; subst hz; exact ⟨N166, by omega⟩)
        have ROX6 := ROX5.chg cc6 (by simp; omega)
        have N156 := N155
        have g15_6 := Bg15_5.chg cc6 (by simp; omega)
        have hS6 : v6.cell? ⟨ga, 0, none⟩ = some (.int .i64 e1.client) ∧ v6.cell? ⟨ga, 1, none⟩ = some (.int .u64 e1.nonce) ∧ v6.cell? ⟨ga, 2, none⟩ = some (.int .u64 e1.fee) ∧ v6.cell? ⟨ga, 3, none⟩ = some (.bool e1.good) ∧ v6.cell? ⟨ga, 4, none⟩ = some (.int .i64 e1.tx.kind) ∧ v6.cell? ⟨ga, 5, none⟩ = some (.int .i64 e1.tx.asset) ∧ v6.cell? ⟨ga, 6, none⟩ = some (.int .i64 e1.tx.dst) ∧ v6.cell? ⟨ga, 7, none⟩ = some (.bool e1.tx.buy) ∧ v6.cell? ⟨ga, 8, none⟩ = some (.int .u64 e1.tx.price) ∧ v6.cell? ⟨ga, 9, none⟩ = some (.int .u64 e1.tx.qty) ∧ v6.cell? ⟨ga, 10, none⟩ = some (.int .i64 e1.tx.id) ∧ v6.cell? ⟨gb, 0, none⟩ = some (.int .i64 e2.client) ∧ v6.cell? ⟨gb, 1, none⟩ = some (.int .u64 e2.nonce) ∧ v6.cell? ⟨gb, 2, none⟩ = some (.int .u64 e2.fee) ∧ v6.cell? ⟨gb, 3, none⟩ = some (.bool e2.good) ∧ v6.cell? ⟨gb, 4, none⟩ = some (.int .i64 e2.tx.kind) ∧ v6.cell? ⟨gb, 5, none⟩ = some (.int .i64 e2.tx.asset) ∧ v6.cell? ⟨gb, 6, none⟩ = some (.int .i64 e2.tx.dst) ∧ v6.cell? ⟨gb, 7, none⟩ = some (.bool e2.tx.buy) ∧ v6.cell? ⟨gb, 8, none⟩ = some (.int .u64 e2.tx.price) ∧ v6.cell? ⟨gb, 9, none⟩ = some (.int .u64 e2.tx.qty) ∧ v6.cell? ⟨gb, 10, none⟩ = some (.int .i64 e2.tx.id) := ⟨cc6.cell hS5.1 (by simp; omega), cc6.cell hS5.2.1 (by simp; omega), cc6.cell hS5.2.2.1 (by simp; omega), cc6.cell hS5.2.2.2.1 (by simp; omega), cc6.cell hS5.2.2.2.2.1 (by simp; omega), cc6.cell hS5.2.2.2.2.2.1 (by simp; omega), cc6.cell hS5.2.2.2.2.2.2.1 (by simp; omega), cc6.cell hS5.2.2.2.2.2.2.2.1 (by simp; omega), cc6.cell hS5.2.2.2.2.2.2.2.2.1 (by simp; omega), cc6.cell hS5.2.2.2.2.2.2.2.2.2.1 (by simp; omega), cc6.cell hS5.2.2.2.2.2.2.2.2.2.2.1 (by simp; omega), cc6.cell hS5.2.2.2.2.2.2.2.2.2.2.2.1 (by simp; omega), cc6.cell hS5.2.2.2.2.2.2.2.2.2.2.2.2.1 (by simp; omega), cc6.cell hS5.2.2.2.2.2.2.2.2.2.2.2.2.2.1 (by simp; omega), cc6.cell hS5.2.2.2.2.2.2.2.2.2.2.2.2.2.2.1 (by simp; omega), cc6.cell hS5.2.2.2.2.2.2.2.2.2.2.2.2.2.2.2.1 (by simp; omega), cc6.cell hS5.2.2.2.2.2.2.2.2.2.2.2.2.2.2.2.2.1 (by simp; omega), cc6.cell hS5.2.2.2.2.2.2.2.2.2.2.2.2.2.2.2.2.2.1 (by simp; omega), cc6.cell hS5.2.2.2.2.2.2.2.2.2.2.2.2.2.2.2.2.2.2.1 (by simp; omega), cc6.cell hS5.2.2.2.2.2.2.2.2.2.2.2.2.2.2.2.2.2.2.2.1 (by simp; omega), cc6.cell hS5.2.2.2.2.2.2.2.2.2.2.2.2.2.2.2.2.2.2.2.2.1 (by simp; omega), cc6.cell hS5.2.2.2.2.2.2.2.2.2.2.2.2.2.2.2.2.2.2.2.2.2 (by simp; omega)⟩
        have ch6 := (ch5).trans' cc6 (fun z hz => .inr (by simp at hz; subst hz; omega))
        refine hK.out _ _ hS6 (fun hHeld => ?_)
        clear hK K
        try simp only [Act.put, List.setIfInBounds_toArray, List.set_cons_succ, List.set_cons_zero]
        refine wpAnyH_done (by kernel_rfl) ?_ _
        exact hQ _ _ _ _ _ _ _ _ LED6 ROX6.row g15_6 Bg16_6 _ _ _ _ _ _
      · skip
        have hS03 := hS2
        have cc3 : Chg [] v2 (v2.alloc (.cells #[.int .i64 0, .int .u64 0, .int .i64 0, .slice none 0 0] 68)) := (Chg.refl _ _).alloc _
        have Bg15 : Blk (v2.alloc (.cells #[.int .i64 0, .int .u64 0, .int .i64 0, .slice none 0 0] 68)) v2.heap.size 68 [.int .i64 0, .int .u64 0, .int .i64 0, .slice none 0 0] := Blk.new _ _ _
        have Lg15 := ch2.size
        have ltg16_3 := g16_2.lt
        have N153 : v2.heap.size ∉ F2_ := fun hm => by have := (hL2.lt _ hm).2; omega
        have sz_3 := cc3.size
        go_simp
        generalize hg15 : v2.heap.size = g15 at *
        generalize v2.alloc _ = v3 at *
        have N163 := N162
        have LED3 := hL2.to cc3
        have g16_3 := g16_2.chg cc3 (by simp)
        have hS3 : v3.cell? ⟨ga, 0, none⟩ = some (.int .i64 e1.client) ∧ v3.cell? ⟨ga, 1, none⟩ = some (.int .u64 e1.nonce) ∧ v3.cell? ⟨ga, 2, none⟩ = some (.int .u64 e1.fee) ∧ v3.cell? ⟨ga, 3, none⟩ = some (.bool e1.good) ∧ v3.cell? ⟨ga, 4, none⟩ = some (.int .i64 e1.tx.kind) ∧ v3.cell? ⟨ga, 5, none⟩ = some (.int .i64 e1.tx.asset) ∧ v3.cell? ⟨ga, 6, none⟩ = some (.int .i64 e1.tx.dst) ∧ v3.cell? ⟨ga, 7, none⟩ = some (.bool e1.tx.buy) ∧ v3.cell? ⟨ga, 8, none⟩ = some (.int .u64 e1.tx.price) ∧ v3.cell? ⟨ga, 9, none⟩ = some (.int .u64 e1.tx.qty) ∧ v3.cell? ⟨ga, 10, none⟩ = some (.int .i64 e1.tx.id) ∧ v3.cell? ⟨gb, 0, none⟩ = some (.int .i64 e2.client) ∧ v3.cell? ⟨gb, 1, none⟩ = some (.int .u64 e2.nonce) ∧ v3.cell? ⟨gb, 2, none⟩ = some (.int .u64 e2.fee) ∧ v3.cell? ⟨gb, 3, none⟩ = some (.bool e2.good) ∧ v3.cell? ⟨gb, 4, none⟩ = some (.int .i64 e2.tx.kind) ∧ v3.cell? ⟨gb, 5, none⟩ = some (.int .i64 e2.tx.asset) ∧ v3.cell? ⟨gb, 6, none⟩ = some (.int .i64 e2.tx.dst) ∧ v3.cell? ⟨gb, 7, none⟩ = some (.bool e2.tx.buy) ∧ v3.cell? ⟨gb, 8, none⟩ = some (.int .u64 e2.tx.price) ∧ v3.cell? ⟨gb, 9, none⟩ = some (.int .u64 e2.tx.qty) ∧ v3.cell? ⟨gb, 10, none⟩ = some (.int .i64 e2.tx.id) := ⟨cc3.cell hS2.1 (by simp), cc3.cell hS2.2.1 (by simp), cc3.cell hS2.2.2.1 (by simp), cc3.cell hS2.2.2.2.1 (by simp), cc3.cell hS2.2.2.2.2.1 (by simp), cc3.cell hS2.2.2.2.2.2.1 (by simp), cc3.cell hS2.2.2.2.2.2.2.1 (by simp), cc3.cell hS2.2.2.2.2.2.2.2.1 (by simp), cc3.cell hS2.2.2.2.2.2.2.2.2.1 (by simp), cc3.cell hS2.2.2.2.2.2.2.2.2.2.1 (by simp), cc3.cell hS2.2.2.2.2.2.2.2.2.2.2.1 (by simp), cc3.cell hS2.2.2.2.2.2.2.2.2.2.2.2.1 (by simp), cc3.cell hS2.2.2.2.2.2.2.2.2.2.2.2.2.1 (by simp), cc3.cell hS2.2.2.2.2.2.2.2.2.2.2.2.2.2.1 (by simp), cc3.cell hS2.2.2.2.2.2.2.2.2.2.2.2.2.2.2.1 (by simp), cc3.cell hS2.2.2.2.2.2.2.2.2.2.2.2.2.2.2.2.1 (by simp), cc3.cell hS2.2.2.2.2.2.2.2.2.2.2.2.2.2.2.2.2.1 (by simp), cc3.cell hS2.2.2.2.2.2.2.2.2.2.2.2.2.2.2.2.2.2.1 (by simp), cc3.cell hS2.2.2.2.2.2.2.2.2.2.2.2.2.2.2.2.2.2.2.1 (by simp), cc3.cell hS2.2.2.2.2.2.2.2.2.2.2.2.2.2.2.2.2.2.2.2.1 (by simp), cc3.cell hS2.2.2.2.2.2.2.2.2.2.2.2.2.2.2.2.2.2.2.2.2.1 (by simp), cc3.cell hS2.2.2.2.2.2.2.2.2.2.2.2.2.2.2.2.2.2.2.2.2.2 (by simp)⟩
        have ch3 := (ch2).trans' cc3 (by simp)
        refine hK.out _ _ hS3 (fun hHeld => ?_)
        clear hK K
        try simp only [Act.put, List.setIfInBounds_toArray, List.set_cons_succ, List.set_cons_zero]
        refine wpAnyH_ready (rs := [5]) (by kernel_rfl) (by simp) (AllReadyH.cons rfl (fun K hK => ?_) (AllReadyH.nil))
        have hS04 := hS3
        go_simp
        have sz5 := ch3.size
        have lug16_5 := g16_3.lt
        have lug15_5 := Bg15.lt
        refine (lxDo LED3 (by omega) e2 HE2.out S2 ⟨c2, p2, i2, T2⟩ HD2.out).mono ?_
        dsimp only
        rw [HN2.out]
        rintro y v4 ⟨a2, d2, F5_, rfl, hN2, hL5, cc4, gr5⟩
        have nA2 : ga ∉ F5_ := fun hm => (gr5 _ hm).elim nA1 fun e => by omega
        have nB2 : gb ∉ F5_ := fun hm => (gr5 _ hm).elim nB1 fun e => by omega
        have sw5 := cc4.size
        have N164 := (show g16 ∉ F5_ from fun hm => (gr5 _ hm).elim N163 fun e => by omega)
        have N154 := (show g15 ∉ F5_ from fun hm => (gr5 _ hm).elim N153 fun e => by omega)
        have g16_4 := g16_3.chg cc4 (N163)
        have g15_4 := Bg15.chg cc4 (N153)
        have hS4 : v4.cell? ⟨ga, 0, none⟩ = some (.int .i64 e1.client) ∧ v4.cell? ⟨ga, 1, none⟩ = some (.int .u64 e1.nonce) ∧ v4.cell? ⟨ga, 2, none⟩ = some (.int .u64 e1.fee) ∧ v4.cell? ⟨ga, 3, none⟩ = some (.bool e1.good) ∧ v4.cell? ⟨ga, 4, none⟩ = some (.int .i64 e1.tx.kind) ∧ v4.cell? ⟨ga, 5, none⟩ = some (.int .i64 e1.tx.asset) ∧ v4.cell? ⟨ga, 6, none⟩ = some (.int .i64 e1.tx.dst) ∧ v4.cell? ⟨ga, 7, none⟩ = some (.bool e1.tx.buy) ∧ v4.cell? ⟨ga, 8, none⟩ = some (.int .u64 e1.tx.price) ∧ v4.cell? ⟨ga, 9, none⟩ = some (.int .u64 e1.tx.qty) ∧ v4.cell? ⟨ga, 10, none⟩ = some (.int .i64 e1.tx.id) ∧ v4.cell? ⟨gb, 0, none⟩ = some (.int .i64 e2.client) ∧ v4.cell? ⟨gb, 1, none⟩ = some (.int .u64 e2.nonce) ∧ v4.cell? ⟨gb, 2, none⟩ = some (.int .u64 e2.fee) ∧ v4.cell? ⟨gb, 3, none⟩ = some (.bool e2.good) ∧ v4.cell? ⟨gb, 4, none⟩ = some (.int .i64 e2.tx.kind) ∧ v4.cell? ⟨gb, 5, none⟩ = some (.int .i64 e2.tx.asset) ∧ v4.cell? ⟨gb, 6, none⟩ = some (.int .i64 e2.tx.dst) ∧ v4.cell? ⟨gb, 7, none⟩ = some (.bool e2.tx.buy) ∧ v4.cell? ⟨gb, 8, none⟩ = some (.int .u64 e2.tx.price) ∧ v4.cell? ⟨gb, 9, none⟩ = some (.int .u64 e2.tx.qty) ∧ v4.cell? ⟨gb, 10, none⟩ = some (.int .i64 e2.tx.id) := ⟨cc4.cell hS3.1 (by first | exact nA1 | exact nB1), cc4.cell hS3.2.1 (by first | exact nA1 | exact nB1), cc4.cell hS3.2.2.1 (by first | exact nA1 | exact nB1), cc4.cell hS3.2.2.2.1 (by first | exact nA1 | exact nB1), cc4.cell hS3.2.2.2.2.1 (by first | exact nA1 | exact nB1), cc4.cell hS3.2.2.2.2.2.1 (by first | exact nA1 | exact nB1), cc4.cell hS3.2.2.2.2.2.2.1 (by first | exact nA1 | exact nB1), cc4.cell hS3.2.2.2.2.2.2.2.1 (by first | exact nA1 | exact nB1), cc4.cell hS3.2.2.2.2.2.2.2.2.1 (by first | exact nA1 | exact nB1), cc4.cell hS3.2.2.2.2.2.2.2.2.2.1 (by first | exact nA1 | exact nB1), cc4.cell hS3.2.2.2.2.2.2.2.2.2.2.1 (by first | exact nA1 | exact nB1), cc4.cell hS3.2.2.2.2.2.2.2.2.2.2.2.1 (by first | exact nA1 | exact nB1), cc4.cell hS3.2.2.2.2.2.2.2.2.2.2.2.2.1 (by first | exact nA1 | exact nB1), cc4.cell hS3.2.2.2.2.2.2.2.2.2.2.2.2.2.1 (by first | exact nA1 | exact nB1), cc4.cell hS3.2.2.2.2.2.2.2.2.2.2.2.2.2.2.1 (by first | exact nA1 | exact nB1), cc4.cell hS3.2.2.2.2.2.2.2.2.2.2.2.2.2.2.2.1 (by first | exact nA1 | exact nB1), cc4.cell hS3.2.2.2.2.2.2.2.2.2.2.2.2.2.2.2.2.1 (by first | exact nA1 | exact nB1), cc4.cell hS3.2.2.2.2.2.2.2.2.2.2.2.2.2.2.2.2.2.1 (by first | exact nA1 | exact nB1), cc4.cell hS3.2.2.2.2.2.2.2.2.2.2.2.2.2.2.2.2.2.2.1 (by first | exact nA1 | exact nB1), cc4.cell hS3.2.2.2.2.2.2.2.2.2.2.2.2.2.2.2.2.2.2.2.1 (by first | exact nA1 | exact nB1), cc4.cell hS3.2.2.2.2.2.2.2.2.2.2.2.2.2.2.2.2.2.2.2.2.1 (by first | exact nA1 | exact nB1), cc4.cell hS3.2.2.2.2.2.2.2.2.2.2.2.2.2.2.2.2.2.2.2.2.2 (by first | exact nA1 | exact nB1)⟩
        have ch4 := (ch3).trans' cc4 (fun z hz => (gr2 z hz).imp id fun e => by omega)
        go_wp2_with fail
        refine hK.out _ _ hS4 (fun hHeld => ?_)
        clear hK K
        try simp only [Act.put, List.setIfInBounds_toArray, List.set_cons_succ, List.set_cons_zero]
        refine wpAnyH_ready (rs := [8]) (by kernel_rfl) (by simp) (AllReadyH.cons rfl (fun K hK => ?_) (AllReadyH.nil))
        have hS05 := hS4
        have e5_0 := g15_4.at (i := 0) rfl
        have f5_0 := g15_4.free 0
        have e5_1 := g15_4.at (i := 1) rfl
        have f5_1 := g15_4.free 1
        have e5_2 := g15_4.at (i := 2) rfl
        have f5_2 := g15_4.free 2
        have e5_3 := g15_4.at (i := 3) rfl
        have f5_3 := g15_4.free 3
        have cc5 : Chg [g15] v4 ((((v4.setCell ⟨g15, 0, none⟩ (.int .i64 c1)).setCell ⟨g15, 1, none⟩ (.int .u64 p1)).setCell ⟨g15, 2, none⟩ (.int .i64 i1)).setCell ⟨g15, 3, none⟩ (.slice a1 n1 d1)) := (((((Chg.refl [g15] v4).setCell ⟨g15, 0, none⟩ (.int .i64 c1) (.inl (by simp))).setCell ⟨g15, 1, none⟩ (.int .u64 p1) (.inl (by simp))).setCell ⟨g15, 2, none⟩ (.int .i64 i1) (.inl (by simp))).setCell ⟨g15, 3, none⟩ (.slice a1 n1 d1) (.inl (by simp)))
        have Bg15_5 : Blk ((((v4.setCell ⟨g15, 0, none⟩ (.int .i64 c1)).setCell ⟨g15, 1, none⟩ (.int .u64 p1)).setCell ⟨g15, 2, none⟩ (.int .i64 i1)).setCell ⟨g15, 3, none⟩ (.slice a1 n1 d1)) g15 68 [.int .i64 c1, .int .u64 p1, .int .i64 i1, .slice a1 n1 d1] := ((((g15_4.set 0 (.int .i64 c1)).set 1 (.int .u64 p1)).set 2 (.int .i64 i1)).set 3 (.slice a1 n1 d1))
        go_simp
        generalize ((((v4.setCell ⟨g15, 0, none⟩ (.int .i64 c1)).setCell ⟨g15, 1, none⟩ (.int .u64 p1)).setCell ⟨g15, 2, none⟩ (.int .i64 i1)).setCell ⟨g15, 3, none⟩ (.slice a1 n1 d1)) = v5 at *
        clear e5_0 f5_0 e5_1 f5_1 e5_2 f5_2 e5_3 f5_3
        have N165 := N164
        have N155 := N154
        have LED5 := hL5.aside cc5 (fun z hz => by simp at hz; subst hz; exact ⟨N155, by omega⟩)
        have ROX5 := hN2.btw.chg cc5 (by simp; omega)
        have g16_5 := g16_4.chg cc5 (by simp; omega)
        have hS5 : v5.cell? ⟨ga, 0, none⟩ = some (.int .i64 e1.client) ∧ v5.cell? ⟨ga, 1, none⟩ = some (.int .u64 e1.nonce) ∧ v5.cell? ⟨ga, 2, none⟩ = some (.int .u64 e1.fee) ∧ v5.cell? ⟨ga, 3, none⟩ = some (.bool e1.good) ∧ v5.cell? ⟨ga, 4, none⟩ = some (.int .i64 e1.tx.kind) ∧ v5.cell? ⟨ga, 5, none⟩ = some (.int .i64 e1.tx.asset) ∧ v5.cell? ⟨ga, 6, none⟩ = some (.int .i64 e1.tx.dst) ∧ v5.cell? ⟨ga, 7, none⟩ = some (.bool e1.tx.buy) ∧ v5.cell? ⟨ga, 8, none⟩ = some (.int .u64 e1.tx.price) ∧ v5.cell? ⟨ga, 9, none⟩ = some (.int .u64 e1.tx.qty) ∧ v5.cell? ⟨ga, 10, none⟩ = some (.int .i64 e1.tx.id) ∧ v5.cell? ⟨gb, 0, none⟩ = some (.int .i64 e2.client) ∧ v5.cell? ⟨gb, 1, none⟩ = some (.int .u64 e2.nonce) ∧ v5.cell? ⟨gb, 2, none⟩ = some (.int .u64 e2.fee) ∧ v5.cell? ⟨gb, 3, none⟩ = some (.bool e2.good) ∧ v5.cell? ⟨gb, 4, none⟩ = some (.int .i64 e2.tx.kind) ∧ v5.cell? ⟨gb, 5, none⟩ = some (.int .i64 e2.tx.asset) ∧ v5.cell? ⟨gb, 6, none⟩ = some (.int .i64 e2.tx.dst) ∧ v5.cell? ⟨gb, 7, none⟩ = some (.bool e2.tx.buy) ∧ v5.cell? ⟨gb, 8, none⟩ = some (.int .u64 e2.tx.price) ∧ v5.cell? ⟨gb, 9, none⟩ = some (.int .u64 e2.tx.qty) ∧ v5.cell? ⟨gb, 10, none⟩ = some (.int .i64 e2.tx.id) := ⟨cc5.cell hS4.1 (by simp; omega), cc5.cell hS4.2.1 (by simp; omega), cc5.cell hS4.2.2.1 (by simp; omega), cc5.cell hS4.2.2.2.1 (by simp; omega), cc5.cell hS4.2.2.2.2.1 (by simp; omega), cc5.cell hS4.2.2.2.2.2.1 (by simp; omega), cc5.cell hS4.2.2.2.2.2.2.1 (by simp; omega), cc5.cell hS4.2.2.2.2.2.2.2.1 (by simp; omega), cc5.cell hS4.2.2.2.2.2.2.2.2.1 (by simp; omega), cc5.cell hS4.2.2.2.2.2.2.2.2.2.1 (by simp; omega), cc5.cell hS4.2.2.2.2.2.2.2.2.2.2.1 (by simp; omega), cc5.cell hS4.2.2.2.2.2.2.2.2.2.2.2.1 (by simp; omega), cc5.cell hS4.2.2.2.2.2.2.2.2.2.2.2.2.1 (by simp; omega), cc5.cell hS4.2.2.2.2.2.2.2.2.2.2.2.2.2.1 (by simp; omega), cc5.cell hS4.2.2.2.2.2.2.2.2.2.2.2.2.2.2.1 (by simp; omega), cc5.cell hS4.2.2.2.2.2.2.2.2.2.2.2.2.2.2.2.1 (by simp; omega), cc5.cell hS4.2.2.2.2.2.2.2.2.2.2.2.2.2.2.2.2.1 (by simp; omega), cc5.cell hS4.2.2.2.2.2.2.2.2.2.2.2.2.2.2.2.2.2.1 (by simp; omega), cc5.cell hS4.2.2.2.2.2.2.2.2.2.2.2.2.2.2.2.2.2.2.1 (by simp; omega), cc5.cell hS4.2.2.2.2.2.2.2.2.2.2.2.2.2.2.2.2.2.2.2.1 (by simp; omega), cc5.cell hS4.2.2.2.2.2.2.2.2.2.2.2.2.2.2.2.2.2.2.2.2.1 (by simp; omega), cc5.cell hS4.2.2.2.2.2.2.2.2.2.2.2.2.2.2.2.2.2.2.2.2.2 (by simp; omega)⟩
        have ch5 := (ch4).trans' cc5 (fun z hz => .inr (by simp at hz; subst hz; omega))
        refine hK.out _ _ hS5 (fun hHeld => ?_)
        clear hK K
        try simp only [Act.put, List.setIfInBounds_toArray, List.set_cons_succ, List.set_cons_zero]
        refine wpAnyH_ready (rs := [9]) (by kernel_rfl) (by simp) (AllReadyH.cons rfl (fun K hK => ?_) (AllReadyH.nil))
        have hS06 := hS5
        have e6_0 := g16_5.at (i := 0) rfl
        have f6_0 := g16_5.free 0
        have e6_1 := g16_5.at (i := 1) rfl
        have f6_1 := g16_5.free 1
        have e6_2 := g16_5.at (i := 2) rfl
        have f6_2 := g16_5.free 2
        have e6_3 := g16_5.at (i := 3) rfl
        have f6_3 := g16_5.free 3
        have cc6 : Chg [g16] v5 ((((v5.setCell ⟨g16, 0, none⟩ (.int .i64 c2)).setCell ⟨g16, 1, none⟩ (.int .u64 p2)).setCell ⟨g16, 2, none⟩ (.int .i64 i2)).setCell ⟨g16, 3, none⟩ (.slice a2 n2 d2)) := (((((Chg.refl [g16] v5).setCell ⟨g16, 0, none⟩ (.int .i64 c2) (.inl (by simp))).setCell ⟨g16, 1, none⟩ (.int .u64 p2) (.inl (by simp))).setCell ⟨g16, 2, none⟩ (.int .i64 i2) (.inl (by simp))).setCell ⟨g16, 3, none⟩ (.slice a2 n2 d2) (.inl (by simp)))
        have Bg16_6 : Blk ((((v5.setCell ⟨g16, 0, none⟩ (.int .i64 c2)).setCell ⟨g16, 1, none⟩ (.int .u64 p2)).setCell ⟨g16, 2, none⟩ (.int .i64 i2)).setCell ⟨g16, 3, none⟩ (.slice a2 n2 d2)) g16 68 [.int .i64 c2, .int .u64 p2, .int .i64 i2, .slice a2 n2 d2] := ((((g16_5.set 0 (.int .i64 c2)).set 1 (.int .u64 p2)).set 2 (.int .i64 i2)).set 3 (.slice a2 n2 d2))
        go_simp
        generalize ((((v5.setCell ⟨g16, 0, none⟩ (.int .i64 c2)).setCell ⟨g16, 1, none⟩ (.int .u64 p2)).setCell ⟨g16, 2, none⟩ (.int .i64 i2)).setCell ⟨g16, 3, none⟩ (.slice a2 n2 d2)) = v6 at *
        clear e6_0 f6_0 e6_1 f6_1 e6_2 f6_2 e6_3 f6_3
        have N166 := N165
        have N156 := N155
        have LED6 := LED5.aside cc6 (fun z hz => by simp at hz; subst hz; exact ⟨N166, by omega⟩)
        have ROX6 := ROX5.chg cc6 (by simp; omega)
        have g15_6 := Bg15_5.chg cc6 (by simp; omega)
        have hS6 : v6.cell? ⟨ga, 0, none⟩ = some (.int .i64 e1.client) ∧ v6.cell? ⟨ga, 1, none⟩ = some (.int .u64 e1.nonce) ∧ v6.cell? ⟨ga, 2, none⟩ = some (.int .u64 e1.fee) ∧ v6.cell? ⟨ga, 3, none⟩ = some (.bool e1.good) ∧ v6.cell? ⟨ga, 4, none⟩ = some (.int .i64 e1.tx.kind) ∧ v6.cell? ⟨ga, 5, none⟩ = some (.int .i64 e1.tx.asset) ∧ v6.cell? ⟨ga, 6, none⟩ = some (.int .i64 e1.tx.dst) ∧ v6.cell? ⟨ga, 7, none⟩ = some (.bool e1.tx.buy) ∧ v6.cell? ⟨ga, 8, none⟩ = some (.int .u64 e1.tx.price) ∧ v6.cell? ⟨ga, 9, none⟩ = some (.int .u64 e1.tx.qty) ∧ v6.cell? ⟨ga, 10, none⟩ = some (.int .i64 e1.tx.id) ∧ v6.cell? ⟨gb, 0, none⟩ = some (.int .i64 e2.client) ∧ v6.cell? ⟨gb, 1, none⟩ = some (.int .u64 e2.nonce) ∧ v6.cell? ⟨gb, 2, none⟩ = some (.int .u64 e2.fee) ∧ v6.cell? ⟨gb, 3, none⟩ = some (.bool e2.good) ∧ v6.cell? ⟨gb, 4, none⟩ = some (.int .i64 e2.tx.kind) ∧ v6.cell? ⟨gb, 5, none⟩ = some (.int .i64 e2.tx.asset) ∧ v6.cell? ⟨gb, 6, none⟩ = some (.int .i64 e2.tx.dst) ∧ v6.cell? ⟨gb, 7, none⟩ = some (.bool e2.tx.buy) ∧ v6.cell? ⟨gb, 8, none⟩ = some (.int .u64 e2.tx.price) ∧ v6.cell? ⟨gb, 9, none⟩ = some (.int .u64 e2.tx.qty) ∧ v6.cell? ⟨gb, 10, none⟩ = some (.int .i64 e2.tx.id) := ⟨cc6.cell hS5.1 (by simp; omega), cc6.cell hS5.2.1 (by simp; omega), cc6.cell hS5.2.2.1 (by simp; omega), cc6.cell hS5.2.2.2.1 (by simp; omega), cc6.cell hS5.2.2.2.2.1 (by simp; omega), cc6.cell hS5.2.2.2.2.2.1 (by simp; omega), cc6.cell hS5.2.2.2.2.2.2.1 (by simp; omega), cc6.cell hS5.2.2.2.2.2.2.2.1 (by simp; omega), cc6.cell hS5.2.2.2.2.2.2.2.2.1 (by simp; omega), cc6.cell hS5.2.2.2.2.2.2.2.2.2.1 (by simp; omega), cc6.cell hS5.2.2.2.2.2.2.2.2.2.2.1 (by simp; omega), cc6.cell hS5.2.2.2.2.2.2.2.2.2.2.2.1 (by simp; omega), cc6.cell hS5.2.2.2.2.2.2.2.2.2.2.2.2.1 (by simp; omega), cc6.cell hS5.2.2.2.2.2.2.2.2.2.2.2.2.2.1 (by simp; omega), cc6.cell hS5.2.2.2.2.2.2.2.2.2.2.2.2.2.2.1 (by simp; omega), cc6.cell hS5.2.2.2.2.2.2.2.2.2.2.2.2.2.2.2.1 (by simp; omega), cc6.cell hS5.2.2.2.2.2.2.2.2.2.2.2.2.2.2.2.2.1 (by simp; omega), cc6.cell hS5.2.2.2.2.2.2.2.2.2.2.2.2.2.2.2.2.2.1 (by simp; omega), cc6.cell hS5.2.2.2.2.2.2.2.2.2.2.2.2.2.2.2.2.2.2.1 (by simp; omega), cc6.cell hS5.2.2.2.2.2.2.2.2.2.2.2.2.2.2.2.2.2.2.2.1 (by simp; omega), cc6.cell hS5.2.2.2.2.2.2.2.2.2.2.2.2.2.2.2.2.2.2.2.2.1 (by simp; omega), cc6.cell hS5.2.2.2.2.2.2.2.2.2.2.2.2.2.2.2.2.2.2.2.2.2 (by simp; omega)⟩
        have ch6 := (ch5).trans' cc6 (fun z hz => .inr (by simp at hz; subst hz; omega))
        refine hK.out _ _ hS6 (fun hHeld => ?_)
        clear hK K
        try simp only [Act.put, List.setIfInBounds_toArray, List.set_cons_succ, List.set_cons_zero]
        refine wpAnyH_done (by kernel_rfl) ?_ _
        exact hQ _ _ _ _ _ _ _ _ LED6 ROX6.row g15_6 Bg16_6 _ _ _ _ _ _
    · skip
      have hS02 := hS1
      have cc2 : Chg [] v1 (v1.alloc (.cells #[.int .i64 0, .int .u64 0, .int .i64 0, .slice none 0 0] 68)) := (Chg.refl _ _).alloc _
      have Bg15 : Blk (v1.alloc (.cells #[.int .i64 0, .int .u64 0, .int .i64 0, .slice none 0 0] 68)) v1.heap.size 68 [.int .i64 0, .int .u64 0, .int .i64 0, .slice none 0 0] := Blk.new _ _ _
      have Lg15 := ch1.size
      have ltg16_2 := Bg16.lt
      have N152 : v1.heap.size ∉ FF := fun hm => by have := (LED1.lt _ hm).2; omega
      have sz_2 := cc2.size
      go_simp
      generalize hg15 : v1.heap.size = g15 at *
      generalize v1.alloc _ = v2 at *
      have LED2 := LED1.to cc2
      have N162 := N161
      have g16_2 := Bg16.chg cc2 (by simp)
      have hS2 : v2.cell? ⟨ga, 0, none⟩ = some (.int .i64 e1.client) ∧ v2.cell? ⟨ga, 1, none⟩ = some (.int .u64 e1.nonce) ∧ v2.cell? ⟨ga, 2, none⟩ = some (.int .u64 e1.fee) ∧ v2.cell? ⟨ga, 3, none⟩ = some (.bool e1.good) ∧ v2.cell? ⟨ga, 4, none⟩ = some (.int .i64 e1.tx.kind) ∧ v2.cell? ⟨ga, 5, none⟩ = some (.int .i64 e1.tx.asset) ∧ v2.cell? ⟨ga, 6, none⟩ = some (.int .i64 e1.tx.dst) ∧ v2.cell? ⟨ga, 7, none⟩ = some (.bool e1.tx.buy) ∧ v2.cell? ⟨ga, 8, none⟩ = some (.int .u64 e1.tx.price) ∧ v2.cell? ⟨ga, 9, none⟩ = some (.int .u64 e1.tx.qty) ∧ v2.cell? ⟨ga, 10, none⟩ = some (.int .i64 e1.tx.id) ∧ v2.cell? ⟨gb, 0, none⟩ = some (.int .i64 e2.client) ∧ v2.cell? ⟨gb, 1, none⟩ = some (.int .u64 e2.nonce) ∧ v2.cell? ⟨gb, 2, none⟩ = some (.int .u64 e2.fee) ∧ v2.cell? ⟨gb, 3, none⟩ = some (.bool e2.good) ∧ v2.cell? ⟨gb, 4, none⟩ = some (.int .i64 e2.tx.kind) ∧ v2.cell? ⟨gb, 5, none⟩ = some (.int .i64 e2.tx.asset) ∧ v2.cell? ⟨gb, 6, none⟩ = some (.int .i64 e2.tx.dst) ∧ v2.cell? ⟨gb, 7, none⟩ = some (.bool e2.tx.buy) ∧ v2.cell? ⟨gb, 8, none⟩ = some (.int .u64 e2.tx.price) ∧ v2.cell? ⟨gb, 9, none⟩ = some (.int .u64 e2.tx.qty) ∧ v2.cell? ⟨gb, 10, none⟩ = some (.int .i64 e2.tx.id) := ⟨cc2.cell hS1.1 (by simp), cc2.cell hS1.2.1 (by simp), cc2.cell hS1.2.2.1 (by simp), cc2.cell hS1.2.2.2.1 (by simp), cc2.cell hS1.2.2.2.2.1 (by simp), cc2.cell hS1.2.2.2.2.2.1 (by simp), cc2.cell hS1.2.2.2.2.2.2.1 (by simp), cc2.cell hS1.2.2.2.2.2.2.2.1 (by simp), cc2.cell hS1.2.2.2.2.2.2.2.2.1 (by simp), cc2.cell hS1.2.2.2.2.2.2.2.2.2.1 (by simp), cc2.cell hS1.2.2.2.2.2.2.2.2.2.2.1 (by simp), cc2.cell hS1.2.2.2.2.2.2.2.2.2.2.2.1 (by simp), cc2.cell hS1.2.2.2.2.2.2.2.2.2.2.2.2.1 (by simp), cc2.cell hS1.2.2.2.2.2.2.2.2.2.2.2.2.2.1 (by simp), cc2.cell hS1.2.2.2.2.2.2.2.2.2.2.2.2.2.2.1 (by simp), cc2.cell hS1.2.2.2.2.2.2.2.2.2.2.2.2.2.2.2.1 (by simp), cc2.cell hS1.2.2.2.2.2.2.2.2.2.2.2.2.2.2.2.2.1 (by simp), cc2.cell hS1.2.2.2.2.2.2.2.2.2.2.2.2.2.2.2.2.2.1 (by simp), cc2.cell hS1.2.2.2.2.2.2.2.2.2.2.2.2.2.2.2.2.2.2.1 (by simp), cc2.cell hS1.2.2.2.2.2.2.2.2.2.2.2.2.2.2.2.2.2.2.2.1 (by simp), cc2.cell hS1.2.2.2.2.2.2.2.2.2.2.2.2.2.2.2.2.2.2.2.2.1 (by simp), cc2.cell hS1.2.2.2.2.2.2.2.2.2.2.2.2.2.2.2.2.2.2.2.2.2 (by simp)⟩
      have ch2 := (ch1).trans' cc2 (by simp)
      refine hK.out _ _ hS2 (fun hHeld => ?_)
      clear hK K
      try simp only [Act.put, List.setIfInBounds_toArray, List.set_cons_succ, List.set_cons_zero]
      refine wpAnyH_ready (rs := [2]) (by kernel_rfl) (by simp) (AllReadyH.cons rfl (fun K hK => ?_) (AllReadyH.nil))
      have hS03 := hS2
      go_simp
      have sz2 := ch2.size
      have lug16_2 := g16_2.lt
      have lug15_2 := Bg15.lt
      refine (lxDo LED2 (by omega) e1 HE1.out S1 ⟨c1, p1, i1, T1⟩ HD1.out).mono ?_
      dsimp only
      rw [HN1.out]
      rintro y v3 ⟨a1, d1, F2_, rfl, hN1, hL2, cc3, gr2⟩
      have nA1 : ga ∉ F2_ := fun hm => (gr2 _ hm).elim nA0 fun e => by omega
      have nB1 : gb ∉ F2_ := fun hm => (gr2 _ hm).elim nB0 fun e => by omega
      have sw2 := cc3.size
      have N163 := (show g16 ∉ F2_ from fun hm => (gr2 _ hm).elim N162 fun e => by omega)
      have N153 := (show g15 ∉ F2_ from fun hm => (gr2 _ hm).elim N152 fun e => by omega)
      have g16_3 := g16_2.chg cc3 (N162)
      have g15_3 := Bg15.chg cc3 (N152)
      have hS3 : v3.cell? ⟨ga, 0, none⟩ = some (.int .i64 e1.client) ∧ v3.cell? ⟨ga, 1, none⟩ = some (.int .u64 e1.nonce) ∧ v3.cell? ⟨ga, 2, none⟩ = some (.int .u64 e1.fee) ∧ v3.cell? ⟨ga, 3, none⟩ = some (.bool e1.good) ∧ v3.cell? ⟨ga, 4, none⟩ = some (.int .i64 e1.tx.kind) ∧ v3.cell? ⟨ga, 5, none⟩ = some (.int .i64 e1.tx.asset) ∧ v3.cell? ⟨ga, 6, none⟩ = some (.int .i64 e1.tx.dst) ∧ v3.cell? ⟨ga, 7, none⟩ = some (.bool e1.tx.buy) ∧ v3.cell? ⟨ga, 8, none⟩ = some (.int .u64 e1.tx.price) ∧ v3.cell? ⟨ga, 9, none⟩ = some (.int .u64 e1.tx.qty) ∧ v3.cell? ⟨ga, 10, none⟩ = some (.int .i64 e1.tx.id) ∧ v3.cell? ⟨gb, 0, none⟩ = some (.int .i64 e2.client) ∧ v3.cell? ⟨gb, 1, none⟩ = some (.int .u64 e2.nonce) ∧ v3.cell? ⟨gb, 2, none⟩ = some (.int .u64 e2.fee) ∧ v3.cell? ⟨gb, 3, none⟩ = some (.bool e2.good) ∧ v3.cell? ⟨gb, 4, none⟩ = some (.int .i64 e2.tx.kind) ∧ v3.cell? ⟨gb, 5, none⟩ = some (.int .i64 e2.tx.asset) ∧ v3.cell? ⟨gb, 6, none⟩ = some (.int .i64 e2.tx.dst) ∧ v3.cell? ⟨gb, 7, none⟩ = some (.bool e2.tx.buy) ∧ v3.cell? ⟨gb, 8, none⟩ = some (.int .u64 e2.tx.price) ∧ v3.cell? ⟨gb, 9, none⟩ = some (.int .u64 e2.tx.qty) ∧ v3.cell? ⟨gb, 10, none⟩ = some (.int .i64 e2.tx.id) := ⟨cc3.cell hS2.1 (by first | exact nA0 | exact nB0), cc3.cell hS2.2.1 (by first | exact nA0 | exact nB0), cc3.cell hS2.2.2.1 (by first | exact nA0 | exact nB0), cc3.cell hS2.2.2.2.1 (by first | exact nA0 | exact nB0), cc3.cell hS2.2.2.2.2.1 (by first | exact nA0 | exact nB0), cc3.cell hS2.2.2.2.2.2.1 (by first | exact nA0 | exact nB0), cc3.cell hS2.2.2.2.2.2.2.1 (by first | exact nA0 | exact nB0), cc3.cell hS2.2.2.2.2.2.2.2.1 (by first | exact nA0 | exact nB0), cc3.cell hS2.2.2.2.2.2.2.2.2.1 (by first | exact nA0 | exact nB0), cc3.cell hS2.2.2.2.2.2.2.2.2.2.1 (by first | exact nA0 | exact nB0), cc3.cell hS2.2.2.2.2.2.2.2.2.2.2.1 (by first | exact nA0 | exact nB0), cc3.cell hS2.2.2.2.2.2.2.2.2.2.2.2.1 (by first | exact nA0 | exact nB0), cc3.cell hS2.2.2.2.2.2.2.2.2.2.2.2.2.1 (by first | exact nA0 | exact nB0), cc3.cell hS2.2.2.2.2.2.2.2.2.2.2.2.2.2.1 (by first | exact nA0 | exact nB0), cc3.cell hS2.2.2.2.2.2.2.2.2.2.2.2.2.2.2.1 (by first | exact nA0 | exact nB0), cc3.cell hS2.2.2.2.2.2.2.2.2.2.2.2.2.2.2.2.1 (by first | exact nA0 | exact nB0), cc3.cell hS2.2.2.2.2.2.2.2.2.2.2.2.2.2.2.2.2.1 (by first | exact nA0 | exact nB0), cc3.cell hS2.2.2.2.2.2.2.2.2.2.2.2.2.2.2.2.2.2.1 (by first | exact nA0 | exact nB0), cc3.cell hS2.2.2.2.2.2.2.2.2.2.2.2.2.2.2.2.2.2.2.1 (by first | exact nA0 | exact nB0), cc3.cell hS2.2.2.2.2.2.2.2.2.2.2.2.2.2.2.2.2.2.2.2.1 (by first | exact nA0 | exact nB0), cc3.cell hS2.2.2.2.2.2.2.2.2.2.2.2.2.2.2.2.2.2.2.2.2.1 (by first | exact nA0 | exact nB0), cc3.cell hS2.2.2.2.2.2.2.2.2.2.2.2.2.2.2.2.2.2.2.2.2.2 (by first | exact nA0 | exact nB0)⟩
      have ch3 := (ch2).trans' cc3 (fun z hz => .inl hz)
      go_wp2_with fail
      refine hK.out _ _ hS3 (fun hHeld => ?_)
      clear hK K
      try simp only [Act.put, List.setIfInBounds_toArray, List.set_cons_succ, List.set_cons_zero]
      refine wpAnyH_ready (rs := [5]) (by kernel_rfl) (by simp) (AllReadyH.cons rfl (fun K hK => ?_) (AllReadyH.nil))
      have hS04 := hS3
      go_simp
      have sz5 := ch3.size
      have lug16_5 := g16_3.lt
      have lug15_5 := g15_3.lt
      refine (lxDo hL2 (by omega) e2 HE2.out S2 ⟨c2, p2, i2, T2⟩ HD2.out).mono ?_
      dsimp only
      rw [HN2.out]
      rintro y v4 ⟨a2, d2, F5_, rfl, hN2, hL5, cc4, gr5⟩
      have nA2 : ga ∉ F5_ := fun hm => (gr5 _ hm).elim nA1 fun e => by omega
      have nB2 : gb ∉ F5_ := fun hm => (gr5 _ hm).elim nB1 fun e => by omega
      have sw5 := cc4.size
      have N164 := (show g16 ∉ F5_ from fun hm => (gr5 _ hm).elim N163 fun e => by omega)
      have N154 := (show g15 ∉ F5_ from fun hm => (gr5 _ hm).elim N153 fun e => by omega)
      have g16_4 := g16_3.chg cc4 (N163)
      have g15_4 := g15_3.chg cc4 (N153)
      have hS4 : v4.cell? ⟨ga, 0, none⟩ = some (.int .i64 e1.client) ∧ v4.cell? ⟨ga, 1, none⟩ = some (.int .u64 e1.nonce) ∧ v4.cell? ⟨ga, 2, none⟩ = some (.int .u64 e1.fee) ∧ v4.cell? ⟨ga, 3, none⟩ = some (.bool e1.good) ∧ v4.cell? ⟨ga, 4, none⟩ = some (.int .i64 e1.tx.kind) ∧ v4.cell? ⟨ga, 5, none⟩ = some (.int .i64 e1.tx.asset) ∧ v4.cell? ⟨ga, 6, none⟩ = some (.int .i64 e1.tx.dst) ∧ v4.cell? ⟨ga, 7, none⟩ = some (.bool e1.tx.buy) ∧ v4.cell? ⟨ga, 8, none⟩ = some (.int .u64 e1.tx.price) ∧ v4.cell? ⟨ga, 9, none⟩ = some (.int .u64 e1.tx.qty) ∧ v4.cell? ⟨ga, 10, none⟩ = some (.int .i64 e1.tx.id) ∧ v4.cell? ⟨gb, 0, none⟩ = some (.int .i64 e2.client) ∧ v4.cell? ⟨gb, 1, none⟩ = some (.int .u64 e2.nonce) ∧ v4.cell? ⟨gb, 2, none⟩ = some (.int .u64 e2.fee) ∧ v4.cell? ⟨gb, 3, none⟩ = some (.bool e2.good) ∧ v4.cell? ⟨gb, 4, none⟩ = some (.int .i64 e2.tx.kind) ∧ v4.cell? ⟨gb, 5, none⟩ = some (.int .i64 e2.tx.asset) ∧ v4.cell? ⟨gb, 6, none⟩ = some (.int .i64 e2.tx.dst) ∧ v4.cell? ⟨gb, 7, none⟩ = some (.bool e2.tx.buy) ∧ v4.cell? ⟨gb, 8, none⟩ = some (.int .u64 e2.tx.price) ∧ v4.cell? ⟨gb, 9, none⟩ = some (.int .u64 e2.tx.qty) ∧ v4.cell? ⟨gb, 10, none⟩ = some (.int .i64 e2.tx.id) := ⟨cc4.cell hS3.1 (by first | exact nA1 | exact nB1), cc4.cell hS3.2.1 (by first | exact nA1 | exact nB1), cc4.cell hS3.2.2.1 (by first | exact nA1 | exact nB1), cc4.cell hS3.2.2.2.1 (by first | exact nA1 | exact nB1), cc4.cell hS3.2.2.2.2.1 (by first | exact nA1 | exact nB1), cc4.cell hS3.2.2.2.2.2.1 (by first | exact nA1 | exact nB1), cc4.cell hS3.2.2.2.2.2.2.1 (by first | exact nA1 | exact nB1), cc4.cell hS3.2.2.2.2.2.2.2.1 (by first | exact nA1 | exact nB1), cc4.cell hS3.2.2.2.2.2.2.2.2.1 (by first | exact nA1 | exact nB1), cc4.cell hS3.2.2.2.2.2.2.2.2.2.1 (by first | exact nA1 | exact nB1), cc4.cell hS3.2.2.2.2.2.2.2.2.2.2.1 (by first | exact nA1 | exact nB1), cc4.cell hS3.2.2.2.2.2.2.2.2.2.2.2.1 (by first | exact nA1 | exact nB1), cc4.cell hS3.2.2.2.2.2.2.2.2.2.2.2.2.1 (by first | exact nA1 | exact nB1), cc4.cell hS3.2.2.2.2.2.2.2.2.2.2.2.2.2.1 (by first | exact nA1 | exact nB1), cc4.cell hS3.2.2.2.2.2.2.2.2.2.2.2.2.2.2.1 (by first | exact nA1 | exact nB1), cc4.cell hS3.2.2.2.2.2.2.2.2.2.2.2.2.2.2.2.1 (by first | exact nA1 | exact nB1), cc4.cell hS3.2.2.2.2.2.2.2.2.2.2.2.2.2.2.2.2.1 (by first | exact nA1 | exact nB1), cc4.cell hS3.2.2.2.2.2.2.2.2.2.2.2.2.2.2.2.2.2.1 (by first | exact nA1 | exact nB1), cc4.cell hS3.2.2.2.2.2.2.2.2.2.2.2.2.2.2.2.2.2.2.1 (by first | exact nA1 | exact nB1), cc4.cell hS3.2.2.2.2.2.2.2.2.2.2.2.2.2.2.2.2.2.2.2.1 (by first | exact nA1 | exact nB1), cc4.cell hS3.2.2.2.2.2.2.2.2.2.2.2.2.2.2.2.2.2.2.2.2.1 (by first | exact nA1 | exact nB1), cc4.cell hS3.2.2.2.2.2.2.2.2.2.2.2.2.2.2.2.2.2.2.2.2.2 (by first | exact nA1 | exact nB1)⟩
      have ch4 := (ch3).trans' cc4 (fun z hz => (gr2 z hz).imp id fun e => by omega)
      go_wp2_with fail
      refine hK.out _ _ hS4 (fun hHeld => ?_)
      clear hK K
      try simp only [Act.put, List.setIfInBounds_toArray, List.set_cons_succ, List.set_cons_zero]
      refine wpAnyH_ready (rs := [8]) (by kernel_rfl) (by simp) (AllReadyH.cons rfl (fun K hK => ?_) (AllReadyH.nil))
      have hS05 := hS4
      have e5_0 := g15_4.at (i := 0) rfl
      have f5_0 := g15_4.free 0
      have e5_1 := g15_4.at (i := 1) rfl
      have f5_1 := g15_4.free 1
      have e5_2 := g15_4.at (i := 2) rfl
      have f5_2 := g15_4.free 2
      have e5_3 := g15_4.at (i := 3) rfl
      have f5_3 := g15_4.free 3
      have cc5 : Chg [g15] v4 ((((v4.setCell ⟨g15, 0, none⟩ (.int .i64 c1)).setCell ⟨g15, 1, none⟩ (.int .u64 p1)).setCell ⟨g15, 2, none⟩ (.int .i64 i1)).setCell ⟨g15, 3, none⟩ (.slice a1 n1 d1)) := (((((Chg.refl [g15] v4).setCell ⟨g15, 0, none⟩ (.int .i64 c1) (.inl (by simp))).setCell ⟨g15, 1, none⟩ (.int .u64 p1) (.inl (by simp))).setCell ⟨g15, 2, none⟩ (.int .i64 i1) (.inl (by simp))).setCell ⟨g15, 3, none⟩ (.slice a1 n1 d1) (.inl (by simp)))
      have Bg15_5 : Blk ((((v4.setCell ⟨g15, 0, none⟩ (.int .i64 c1)).setCell ⟨g15, 1, none⟩ (.int .u64 p1)).setCell ⟨g15, 2, none⟩ (.int .i64 i1)).setCell ⟨g15, 3, none⟩ (.slice a1 n1 d1)) g15 68 [.int .i64 c1, .int .u64 p1, .int .i64 i1, .slice a1 n1 d1] := ((((g15_4.set 0 (.int .i64 c1)).set 1 (.int .u64 p1)).set 2 (.int .i64 i1)).set 3 (.slice a1 n1 d1))
      go_simp
      generalize ((((v4.setCell ⟨g15, 0, none⟩ (.int .i64 c1)).setCell ⟨g15, 1, none⟩ (.int .u64 p1)).setCell ⟨g15, 2, none⟩ (.int .i64 i1)).setCell ⟨g15, 3, none⟩ (.slice a1 n1 d1)) = v5 at *
      clear e5_0 f5_0 e5_1 f5_1 e5_2 f5_2 e5_3 f5_3
      have N165 := N164
      have N155 := N154
      have LED5 := hL5.aside cc5 (fun z hz => by simp at hz; subst hz; exact ⟨N155, by omega⟩)
      have ROX5 := hN2.btw.chg cc5 (by simp; omega)
      have g16_5 := g16_4.chg cc5 (by simp; omega)
      have hS5 : v5.cell? ⟨ga, 0, none⟩ = some (.int .i64 e1.client) ∧ v5.cell? ⟨ga, 1, none⟩ = some (.int .u64 e1.nonce) ∧ v5.cell? ⟨ga, 2, none⟩ = some (.int .u64 e1.fee) ∧ v5.cell? ⟨ga, 3, none⟩ = some (.bool e1.good) ∧ v5.cell? ⟨ga, 4, none⟩ = some (.int .i64 e1.tx.kind) ∧ v5.cell? ⟨ga, 5, none⟩ = some (.int .i64 e1.tx.asset) ∧ v5.cell? ⟨ga, 6, none⟩ = some (.int .i64 e1.tx.dst) ∧ v5.cell? ⟨ga, 7, none⟩ = some (.bool e1.tx.buy) ∧ v5.cell? ⟨ga, 8, none⟩ = some (.int .u64 e1.tx.price) ∧ v5.cell? ⟨ga, 9, none⟩ = some (.int .u64 e1.tx.qty) ∧ v5.cell? ⟨ga, 10, none⟩ = some (.int .i64 e1.tx.id) ∧ v5.cell? ⟨gb, 0, none⟩ = some (.int .i64 e2.client) ∧ v5.cell? ⟨gb, 1, none⟩ = some (.int .u64 e2.nonce) ∧ v5.cell? ⟨gb, 2, none⟩ = some (.int .u64 e2.fee) ∧ v5.cell? ⟨gb, 3, none⟩ = some (.bool e2.good) ∧ v5.cell? ⟨gb, 4, none⟩ = some (.int .i64 e2.tx.kind) ∧ v5.cell? ⟨gb, 5, none⟩ = some (.int .i64 e2.tx.asset) ∧ v5.cell? ⟨gb, 6, none⟩ = some (.int .i64 e2.tx.dst) ∧ v5.cell? ⟨gb, 7, none⟩ = some (.bool e2.tx.buy) ∧ v5.cell? ⟨gb, 8, none⟩ = some (.int .u64 e2.tx.price) ∧ v5.cell? ⟨gb, 9, none⟩ = some (.int .u64 e2.tx.qty) ∧ v5.cell? ⟨gb, 10, none⟩ = some (.int .i64 e2.tx.id) := ⟨cc5.cell hS4.1 (by simp; omega), cc5.cell hS4.2.1 (by simp; omega), cc5.cell hS4.2.2.1 (by simp; omega), cc5.cell hS4.2.2.2.1 (by simp; omega), cc5.cell hS4.2.2.2.2.1 (by simp; omega), cc5.cell hS4.2.2.2.2.2.1 (by simp; omega), cc5.cell hS4.2.2.2.2.2.2.1 (by simp; omega), cc5.cell hS4.2.2.2.2.2.2.2.1 (by simp; omega), cc5.cell hS4.2.2.2.2.2.2.2.2.1 (by simp; omega), cc5.cell hS4.2.2.2.2.2.2.2.2.2.1 (by simp; omega), cc5.cell hS4.2.2.2.2.2.2.2.2.2.2.1 (by simp; omega), cc5.cell hS4.2.2.2.2.2.2.2.2.2.2.2.1 (by simp; omega), cc5.cell hS4.2.2.2.2.2.2.2.2.2.2.2.2.1 (by simp; omega), cc5.cell hS4.2.2.2.2.2.2.2.2.2.2.2.2.2.1 (by simp; omega), cc5.cell hS4.2.2.2.2.2.2.2.2.2.2.2.2.2.2.1 (by simp; omega), cc5.cell hS4.2.2.2.2.2.2.2.2.2.2.2.2.2.2.2.1 (by simp; omega), cc5.cell hS4.2.2.2.2.2.2.2.2.2.2.2.2.2.2.2.2.1 (by simp; omega), cc5.cell hS4.2.2.2.2.2.2.2.2.2.2.2.2.2.2.2.2.2.1 (by simp; omega), cc5.cell hS4.2.2.2.2.2.2.2.2.2.2.2.2.2.2.2.2.2.2.1 (by simp; omega), cc5.cell hS4.2.2.2.2.2.2.2.2.2.2.2.2.2.2.2.2.2.2.2.1 (by simp; omega), cc5.cell hS4.2.2.2.2.2.2.2.2.2.2.2.2.2.2.2.2.2.2.2.2.1 (by simp; omega), cc5.cell hS4.2.2.2.2.2.2.2.2.2.2.2.2.2.2.2.2.2.2.2.2.2 (by simp; omega)⟩
      have ch5 := (ch4).trans' cc5 (fun z hz => .inr (by simp at hz; subst hz; omega))
      refine hK.out _ _ hS5 (fun hHeld => ?_)
      clear hK K
      try simp only [Act.put, List.setIfInBounds_toArray, List.set_cons_succ, List.set_cons_zero]
      refine wpAnyH_ready (rs := [9]) (by kernel_rfl) (by simp) (AllReadyH.cons rfl (fun K hK => ?_) (AllReadyH.nil))
      have hS06 := hS5
      have e6_0 := g16_5.at (i := 0) rfl
      have f6_0 := g16_5.free 0
      have e6_1 := g16_5.at (i := 1) rfl
      have f6_1 := g16_5.free 1
      have e6_2 := g16_5.at (i := 2) rfl
      have f6_2 := g16_5.free 2
      have e6_3 := g16_5.at (i := 3) rfl
      have f6_3 := g16_5.free 3
      have cc6 : Chg [g16] v5 ((((v5.setCell ⟨g16, 0, none⟩ (.int .i64 c2)).setCell ⟨g16, 1, none⟩ (.int .u64 p2)).setCell ⟨g16, 2, none⟩ (.int .i64 i2)).setCell ⟨g16, 3, none⟩ (.slice a2 n2 d2)) := (((((Chg.refl [g16] v5).setCell ⟨g16, 0, none⟩ (.int .i64 c2) (.inl (by simp))).setCell ⟨g16, 1, none⟩ (.int .u64 p2) (.inl (by simp))).setCell ⟨g16, 2, none⟩ (.int .i64 i2) (.inl (by simp))).setCell ⟨g16, 3, none⟩ (.slice a2 n2 d2) (.inl (by simp)))
      have Bg16_6 : Blk ((((v5.setCell ⟨g16, 0, none⟩ (.int .i64 c2)).setCell ⟨g16, 1, none⟩ (.int .u64 p2)).setCell ⟨g16, 2, none⟩ (.int .i64 i2)).setCell ⟨g16, 3, none⟩ (.slice a2 n2 d2)) g16 68 [.int .i64 c2, .int .u64 p2, .int .i64 i2, .slice a2 n2 d2] := ((((g16_5.set 0 (.int .i64 c2)).set 1 (.int .u64 p2)).set 2 (.int .i64 i2)).set 3 (.slice a2 n2 d2))
      go_simp
      generalize ((((v5.setCell ⟨g16, 0, none⟩ (.int .i64 c2)).setCell ⟨g16, 1, none⟩ (.int .u64 p2)).setCell ⟨g16, 2, none⟩ (.int .i64 i2)).setCell ⟨g16, 3, none⟩ (.slice a2 n2 d2)) = v6 at *
      clear e6_0 f6_0 e6_1 f6_1 e6_2 f6_2 e6_3 f6_3
      have N166 := N165
      have N156 := N155
      have LED6 := LED5.aside cc6 (fun z hz => by simp at hz; subst hz; exact ⟨N166, by omega⟩)
      have ROX6 := ROX5.chg cc6 (by simp; omega)
      have g15_6 := Bg15_5.chg cc6 (by simp; omega)
      have hS6 : v6.cell? ⟨ga, 0, none⟩ = some (.int .i64 e1.client) ∧ v6.cell? ⟨ga, 1, none⟩ = some (.int .u64 e1.nonce) ∧ v6.cell? ⟨ga, 2, none⟩ = some (.int .u64 e1.fee) ∧ v6.cell? ⟨ga, 3, none⟩ = some (.bool e1.good) ∧ v6.cell? ⟨ga, 4, none⟩ = some (.int .i64 e1.tx.kind) ∧ v6.cell? ⟨ga, 5, none⟩ = some (.int .i64 e1.tx.asset) ∧ v6.cell? ⟨ga, 6, none⟩ = some (.int .i64 e1.tx.dst) ∧ v6.cell? ⟨ga, 7, none⟩ = some (.bool e1.tx.buy) ∧ v6.cell? ⟨ga, 8, none⟩ = some (.int .u64 e1.tx.price) ∧ v6.cell? ⟨ga, 9, none⟩ = some (.int .u64 e1.tx.qty) ∧ v6.cell? ⟨ga, 10, none⟩ = some (.int .i64 e1.tx.id) ∧ v6.cell? ⟨gb, 0, none⟩ = some (.int .i64 e2.client) ∧ v6.cell? ⟨gb, 1, none⟩ = some (.int .u64 e2.nonce) ∧ v6.cell? ⟨gb, 2, none⟩ = some (.int .u64 e2.fee) ∧ v6.cell? ⟨gb, 3, none⟩ = some (.bool e2.good) ∧ v6.cell? ⟨gb, 4, none⟩ = some (.int .i64 e2.tx.kind) ∧ v6.cell? ⟨gb, 5, none⟩ = some (.int .i64 e2.tx.asset) ∧ v6.cell? ⟨gb, 6, none⟩ = some (.int .i64 e2.tx.dst) ∧ v6.cell? ⟨gb, 7, none⟩ = some (.bool e2.tx.buy) ∧ v6.cell? ⟨gb, 8, none⟩ = some (.int .u64 e2.tx.price) ∧ v6.cell? ⟨gb, 9, none⟩ = some (.int .u64 e2.tx.qty) ∧ v6.cell? ⟨gb, 10, none⟩ = some (.int .i64 e2.tx.id) := ⟨cc6.cell hS5.1 (by simp; omega), cc6.cell hS5.2.1 (by simp; omega), cc6.cell hS5.2.2.1 (by simp; omega), cc6.cell hS5.2.2.2.1 (by simp; omega), cc6.cell hS5.2.2.2.2.1 (by simp; omega), cc6.cell hS5.2.2.2.2.2.1 (by simp; omega), cc6.cell hS5.2.2.2.2.2.2.1 (by simp; omega), cc6.cell hS5.2.2.2.2.2.2.2.1 (by simp; omega), cc6.cell hS5.2.2.2.2.2.2.2.2.1 (by simp; omega), cc6.cell hS5.2.2.2.2.2.2.2.2.2.1 (by simp; omega), cc6.cell hS5.2.2.2.2.2.2.2.2.2.2.1 (by simp; omega), cc6.cell hS5.2.2.2.2.2.2.2.2.2.2.2.1 (by simp; omega), cc6.cell hS5.2.2.2.2.2.2.2.2.2.2.2.2.1 (by simp; omega), cc6.cell hS5.2.2.2.2.2.2.2.2.2.2.2.2.2.1 (by simp; omega), cc6.cell hS5.2.2.2.2.2.2.2.2.2.2.2.2.2.2.1 (by simp; omega), cc6.cell hS5.2.2.2.2.2.2.2.2.2.2.2.2.2.2.2.1 (by simp; omega), cc6.cell hS5.2.2.2.2.2.2.2.2.2.2.2.2.2.2.2.2.1 (by simp; omega), cc6.cell hS5.2.2.2.2.2.2.2.2.2.2.2.2.2.2.2.2.2.1 (by simp; omega), cc6.cell hS5.2.2.2.2.2.2.2.2.2.2.2.2.2.2.2.2.2.2.1 (by simp; omega), cc6.cell hS5.2.2.2.2.2.2.2.2.2.2.2.2.2.2.2.2.2.2.2.1 (by simp; omega), cc6.cell hS5.2.2.2.2.2.2.2.2.2.2.2.2.2.2.2.2.2.2.2.2.1 (by simp; omega), cc6.cell hS5.2.2.2.2.2.2.2.2.2.2.2.2.2.2.2.2.2.2.2.2.2 (by simp; omega)⟩
      have ch6 := (ch5).trans' cc6 (fun z hz => .inr (by simp at hz; subst hz; omega))
      refine hK.out _ _ hS6 (fun hHeld => ?_)
      clear hK K
      try simp only [Act.put, List.setIfInBounds_toArray, List.set_cons_succ, List.set_cons_zero]
      refine wpAnyH_done (by kernel_rfl) ?_ _
      exact hQ _ _ _ _ _ _ _ _ LED6 ROX6.row g15_6 Bg16_6 _ _ _ _ _ _
end Go.Proofs.Yteabcpmpcbjicaa
