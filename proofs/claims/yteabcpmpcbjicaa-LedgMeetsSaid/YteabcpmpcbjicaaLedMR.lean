
import Derived.Test.YteabcpmpcbjicaaAwake12
import Derived.Deep.DrawnRows
import Derived.Deep.RegionHeld3
namespace Go.Proofs.Yteabcpmpcbjicaa
set_option linter.unusedVariables false
open Go Go.Proofs Go.RowKit
attribute [local go_sem ↓] Go.wp_at_zero Go.wp_at_succ

/-- A row of trades that was made between two times. -/
def NewB (w : World) (lo hi : Nat) (a : Option Addr) (T : List Trd) : Prop := T = [] ∨ ∃ g, a = some ⟨g, 0, none⟩ ∧ lo ≤ g ∧ g < hi ∧ Beg w g 85 (flat tc T)
theorem NewF.btw {w : World} {B : Nat} {a : Option Addr} {T : List Trd} (h : NewF tc w B 85 a T) : NewB w B w.heap.size a T := h.imp id fun ⟨g, h1, h2, h3⟩ => ⟨g, h1, h2, h3.lt, h3⟩
theorem NewB.chg {w w' : World} {lo hi : Nat} {a : Option Addr} {T : List Trd} {S : List Nat} (h : NewB w lo hi a T) (c : Chg S w w') (hs : ∀ x ∈ S, x < lo ∨ hi ≤ x) : NewB w' lo hi a T := h.imp id fun ⟨g, h1, h2, h3, h4⟩ => ⟨g, h1, h2, h3, h4.chg c fun hm => by have := hs g hm; omega⟩
theorem NewB.row {w : World} {lo hi : Nat} {a : Option Addr} {T : List Trd} (h : NewB w lo hi a T) : RowF tc w 85 a T := h.imp id fun ⟨g, h1, _, _, h4⟩ => ⟨g, h1, h4⟩
set_option maxRecDepth 1000000 in
set_option maxHeartbeats 8000000 in
theorem meets_two {Q : Exit → Act → World → Prop} {u0 u1 u2 u3 u4 u5 u6 u7 u8 u9 u12 u13 u14 u15 u16 u17 u18 u19 u20 u21 u22 u23 u24 u25 u26 u27 u28 u29 u30 u31 u32 u33 u34 u35 u36 u37 u38 u39 u40 u41 u42 u43 u44 u45 u46 u47 u48 u49 u50 u51 u52 u53 u54 u55 u56 u57 u58 u59 u60 u61 u62 u63 u64 u65 u66 u67 u68 u69 u70 u71 u72 u73 u74 u75 u76 u77 u78 u79 u80 u81 u82 u83 u84 u85 u86 u87 u88 u89 u90 u91 u92 u93 u94 u95 u96 u97 u98 u99 u100 u101 u102 u103 u104 u105 u106 u107 u108 u109 u110 u111 u112 u113 u114 u115 u116 u117 u118 u119 u120 u121 u122 u123 u124 u125 u126 u127 u128 u129 u130 u131 u132 u133 u134 u135 u136 u137 u138 u139 u140 u141 u142 u143 u144 u145 u146 u147 u148 u149 u150 u151 u152 u153 u154 u155 u156 u157 u158 u159 : Value} (hP : ∀ c a d v w, Q (.panic c) (Act.put a d v) w → Q (.panic c) a w) {ga gb : Nat} {e1 e2 : Ent} {W : World} (HA : Hid (Blk W ga 73 (ec e1))) (HB : Hid (Blk W gb 73 (ec e2)))
    (hQ : ∀ (v : World) (g13 g14 : Nat) (_ : Blk v g13 73 (ec e1)) (_ : Blk v g14 73 (ec e2)) (_ : Chg [] W v) (_ : W.heap.size ≤ g13) (_ : W.heap.size ≤ g14) (_ : g13 ≠ g14) (x44 x45 : Value), Q .normal ⟨#[u0, u1, u2, u3, u4, u5, u6, u7, u8, u9, .pointer (some ⟨ga, 0, none⟩), .pointer (some ⟨gb, 0, none⟩), u12, .pointer (some ⟨g13, 0, none⟩), .pointer (some ⟨g14, 0, none⟩), u15, u16, u17, u18, u19, u20, u21, u22, u23, u24, u25, u26, u27, u28, u29, u30, u31, u32, u33, u34, u35, u36, u37, u38, u39, u40, u41, u42, u43, x44, x45, u46, u47, u48, u49, u50, u51, u52, u53, u54, u55, u56, u57, u58, u59, u60, u61, u62, u63, u64, u65, u66, u67, u68, u69, u70, u71, u72, u73, u74, u75, u76, u77, u78, u79, u80, u81, u82, u83, u84, u85, u86, u87, u88, u89, u90, u91, u92, u93, u94, u95, u96, u97, u98, u99, u100, u101, u102, u103, u104, u105, u106, u107, u108, u109, u110, u111, u112, u113, u114, u115, u116, u117, u118, u119, u120, u121, u122, u123, u124, u125, u126, u127, u128, u129, u130, u131, u132, u133, u134, u135, u136, u137, u138, u139, u140, u141, u142, u143, u144, u145, u146, u147, u148, u149, u150, u151, u152, u153, u154, u155, u156, u157, u158, u159], []⟩ v) :
    Code.wp Try.prog (regionOf Try.f14 8) Q ⟨#[u0, u1, u2, u3, u4, u5, u6, u7, u8, u9, .pointer (some ⟨ga, 0, none⟩), .pointer (some ⟨gb, 0, none⟩), u12, u13, u14, u15, u16, u17, u18, u19, u20, u21, u22, u23, u24, u25, u26, u27, u28, u29, u30, u31, u32, u33, u34, u35, u36, u37, u38, u39, u40, u41, u42, u43, u44, u45, u46, u47, u48, u49, u50, u51, u52, u53, u54, u55, u56, u57, u58, u59, u60, u61, u62, u63, u64, u65, u66, u67, u68, u69, u70, u71, u72, u73, u74, u75, u76, u77, u78, u79, u80, u81, u82, u83, u84, u85, u86, u87, u88, u89, u90, u91, u92, u93, u94, u95, u96, u97, u98, u99, u100, u101, u102, u103, u104, u105, u106, u107, u108, u109, u110, u111, u112, u113, u114, u115, u116, u117, u118, u119, u120, u121, u122, u123, u124, u125, u126, u127, u128, u129, u130, u131, u132, u133, u134, u135, u136, u137, u138, u139, u140, u141, u142, u143, u144, u145, u146, u147, u148, u149, u150, u151, u152, u153, u154, u155, u156, u157, u158, u159], []⟩ W := by
  conv => arg 2; whnf
  have la := HA.out.lt
  have lb := HB.out.lt
  refine wp_region_held_drew (S := (fun w' => w'.cell? ⟨ga, 0, none⟩ = some (.int .i64 e1.client) ∧ w'.cell? ⟨ga, 1, none⟩ = some (.int .u64 e1.nonce) ∧ w'.cell? ⟨ga, 2, none⟩ = some (.int .u64 e1.fee) ∧ w'.cell? ⟨ga, 3, none⟩ = some (.bool e1.good) ∧ w'.cell? ⟨ga, 4, none⟩ = some (.int .i64 e1.tx.kind) ∧ w'.cell? ⟨ga, 5, none⟩ = some (.int .i64 e1.tx.asset) ∧ w'.cell? ⟨ga, 6, none⟩ = some (.int .i64 e1.tx.dst) ∧ w'.cell? ⟨ga, 7, none⟩ = some (.bool e1.tx.buy) ∧ w'.cell? ⟨ga, 8, none⟩ = some (.int .u64 e1.tx.price) ∧ w'.cell? ⟨ga, 9, none⟩ = some (.int .u64 e1.tx.qty) ∧ w'.cell? ⟨ga, 10, none⟩ = some (.int .i64 e1.tx.id) ∧ w'.cell? ⟨gb, 0, none⟩ = some (.int .i64 e2.client) ∧ w'.cell? ⟨gb, 1, none⟩ = some (.int .u64 e2.nonce) ∧ w'.cell? ⟨gb, 2, none⟩ = some (.int .u64 e2.fee) ∧ w'.cell? ⟨gb, 3, none⟩ = some (.bool e2.good) ∧ w'.cell? ⟨gb, 4, none⟩ = some (.int .i64 e2.tx.kind) ∧ w'.cell? ⟨gb, 5, none⟩ = some (.int .i64 e2.tx.asset) ∧ w'.cell? ⟨gb, 6, none⟩ = some (.int .i64 e2.tx.dst) ∧ w'.cell? ⟨gb, 7, none⟩ = some (.bool e2.tx.buy) ∧ w'.cell? ⟨gb, 8, none⟩ = some (.int .u64 e2.tx.price) ∧ w'.cell? ⟨gb, 9, none⟩ = some (.int .u64 e2.tx.qty) ∧ w'.cell? ⟨gb, 10, none⟩ = some (.int .i64 e2.tx.id))) (by kernel_rfl) ⟨HA.out.at (i := 0) rfl, HA.out.at (i := 1) rfl, HA.out.at (i := 2) rfl, HA.out.at (i := 3) rfl, HA.out.at (i := 4) rfl, HA.out.at (i := 5) rfl, HA.out.at (i := 6) rfl, HA.out.at (i := 7) rfl, HA.out.at (i := 8) rfl, HA.out.at (i := 9) rfl, HA.out.at (i := 10) rfl, HB.out.at (i := 0) rfl, HB.out.at (i := 1) rfl, HB.out.at (i := 2) rfl, HB.out.at (i := 3) rfl, HB.out.at (i := 4) rfl, HB.out.at (i := 5) rfl, HB.out.at (i := 6) rfl, HB.out.at (i := 7) rfl, HB.out.at (i := 8) rfl, HB.out.at (i := 9) rfl, HB.out.at (i := 10) rfl⟩ (fun _ => ?_)
  have hS : W.drew.cell? ⟨ga, 0, none⟩ = some (.int .i64 e1.client) ∧ W.drew.cell? ⟨ga, 1, none⟩ = some (.int .u64 e1.nonce) ∧ W.drew.cell? ⟨ga, 2, none⟩ = some (.int .u64 e1.fee) ∧ W.drew.cell? ⟨ga, 3, none⟩ = some (.bool e1.good) ∧ W.drew.cell? ⟨ga, 4, none⟩ = some (.int .i64 e1.tx.kind) ∧ W.drew.cell? ⟨ga, 5, none⟩ = some (.int .i64 e1.tx.asset) ∧ W.drew.cell? ⟨ga, 6, none⟩ = some (.int .i64 e1.tx.dst) ∧ W.drew.cell? ⟨ga, 7, none⟩ = some (.bool e1.tx.buy) ∧ W.drew.cell? ⟨ga, 8, none⟩ = some (.int .u64 e1.tx.price) ∧ W.drew.cell? ⟨ga, 9, none⟩ = some (.int .u64 e1.tx.qty) ∧ W.drew.cell? ⟨ga, 10, none⟩ = some (.int .i64 e1.tx.id) ∧ W.drew.cell? ⟨gb, 0, none⟩ = some (.int .i64 e2.client) ∧ W.drew.cell? ⟨gb, 1, none⟩ = some (.int .u64 e2.nonce) ∧ W.drew.cell? ⟨gb, 2, none⟩ = some (.int .u64 e2.fee) ∧ W.drew.cell? ⟨gb, 3, none⟩ = some (.bool e2.good) ∧ W.drew.cell? ⟨gb, 4, none⟩ = some (.int .i64 e2.tx.kind) ∧ W.drew.cell? ⟨gb, 5, none⟩ = some (.int .i64 e2.tx.asset) ∧ W.drew.cell? ⟨gb, 6, none⟩ = some (.int .i64 e2.tx.dst) ∧ W.drew.cell? ⟨gb, 7, none⟩ = some (.bool e2.tx.buy) ∧ W.drew.cell? ⟨gb, 8, none⟩ = some (.int .u64 e2.tx.price) ∧ W.drew.cell? ⟨gb, 9, none⟩ = some (.int .u64 e2.tx.qty) ∧ W.drew.cell? ⟨gb, 10, none⟩ = some (.int .i64 e2.tx.id) := ⟨HA.out.at (i := 0) rfl, HA.out.at (i := 1) rfl, HA.out.at (i := 2) rfl, HA.out.at (i := 3) rfl, HA.out.at (i := 4) rfl, HA.out.at (i := 5) rfl, HA.out.at (i := 6) rfl, HA.out.at (i := 7) rfl, HA.out.at (i := 8) rfl, HA.out.at (i := 9) rfl, HA.out.at (i := 10) rfl, HB.out.at (i := 0) rfl, HB.out.at (i := 1) rfl, HB.out.at (i := 2) rfl, HB.out.at (i := 3) rfl, HB.out.at (i := 4) rfl, HB.out.at (i := 5) rfl, HB.out.at (i := 6) rfl, HB.out.at (i := 7) rfl, HB.out.at (i := 8) rfl, HB.out.at (i := 9) rfl, HB.out.at (i := 10) rfl⟩
  have chW : Chg [] W W.drew := (Chg.refl _ W).drew
  generalize hWD : W.drew = v0 at *
  refine wpAnyH_take (i := 0) (v := ?_) rfl (by kernel_rfl) (by kernel_rfl) (by kernel_rfl) (fun c a w h => hP c a _ _ w h) (Or.inl ⟨by rfl, ?_⟩) hS ?_
  rotate_left
  · (intro w hSw; (try dsimp only at hSw); go_simp; (try (with_reducible rfl)))
  change wpAnyH _ _ _ _ _ _ _ (Act.put _ (some 44) _) _
  simp only [Act.put, List.setIfInBounds_toArray, List.set_cons_succ, List.set_cons_zero]
  refine wpAnyH_take (i := 1) (v := ?_) rfl (by kernel_rfl) (by kernel_rfl) (by kernel_rfl) (fun c a w h => hP c a _ _ w h) (Or.inl ⟨by rfl, ?_⟩) hS ?_
  rotate_left
  · (intro w hSw; (try dsimp only at hSw); go_simp; (try (with_reducible rfl)))
  change wpAnyH _ _ _ _ _ _ _ (Act.put _ (some 45) _) _
  simp only [Act.put, List.setIfInBounds_toArray, List.set_cons_succ, List.set_cons_zero]
  refine wpAnyH_ready (rs := [2, 3]) (by kernel_rfl) (by simp) (AllReadyH.cons rfl (fun K hK => ?_) (AllReadyH.cons rfl (fun K hK => ?_) (AllReadyH.nil)))
  · skip
    have hS01 := hS
    have cc1 : Chg [] v0 (v0.alloc (.cells #[.int .i64 0, .int .u64 0, .int .u64 0, .bool false, .int .i64 0, .int .i64 0, .int .i64 0, .bool false, .int .u64 0, .int .u64 0, .int .i64 0] 73)) := (Chg.refl _ _).alloc _
    have Bg13 : Blk (v0.alloc (.cells #[.int .i64 0, .int .u64 0, .int .u64 0, .bool false, .int .i64 0, .int .i64 0, .int .i64 0, .bool false, .int .u64 0, .int .u64 0, .int .i64 0] 73)) v0.heap.size 73 [.int .i64 0, .int .u64 0, .int .u64 0, .bool false, .int .i64 0, .int .i64 0, .int .i64 0, .bool false, .int .u64 0, .int .u64 0, .int .i64 0] := Blk.new _ _ _
    have Lg13 := chW.size
    have sz_1 := cc1.size
    go_simp
    generalize hg13 : v0.heap.size = g13 at *
    generalize v0.alloc _ = v1 at *
    have hS1 : v1.cell? ⟨ga, 0, none⟩ = some (.int .i64 e1.client) ∧ v1.cell? ⟨ga, 1, none⟩ = some (.int .u64 e1.nonce) ∧ v1.cell? ⟨ga, 2, none⟩ = some (.int .u64 e1.fee) ∧ v1.cell? ⟨ga, 3, none⟩ = some (.bool e1.good) ∧ v1.cell? ⟨ga, 4, none⟩ = some (.int .i64 e1.tx.kind) ∧ v1.cell? ⟨ga, 5, none⟩ = some (.int .i64 e1.tx.asset) ∧ v1.cell? ⟨ga, 6, none⟩ = some (.int .i64 e1.tx.dst) ∧ v1.cell? ⟨ga, 7, none⟩ = some (.bool e1.tx.buy) ∧ v1.cell? ⟨ga, 8, none⟩ = some (.int .u64 e1.tx.price) ∧ v1.cell? ⟨ga, 9, none⟩ = some (.int .u64 e1.tx.qty) ∧ v1.cell? ⟨ga, 10, none⟩ = some (.int .i64 e1.tx.id) ∧ v1.cell? ⟨gb, 0, none⟩ = some (.int .i64 e2.client) ∧ v1.cell? ⟨gb, 1, none⟩ = some (.int .u64 e2.nonce) ∧ v1.cell? ⟨gb, 2, none⟩ = some (.int .u64 e2.fee) ∧ v1.cell? ⟨gb, 3, none⟩ = some (.bool e2.good) ∧ v1.cell? ⟨gb, 4, none⟩ = some (.int .i64 e2.tx.kind) ∧ v1.cell? ⟨gb, 5, none⟩ = some (.int .i64 e2.tx.asset) ∧ v1.cell? ⟨gb, 6, none⟩ = some (.int .i64 e2.tx.dst) ∧ v1.cell? ⟨gb, 7, none⟩ = some (.bool e2.tx.buy) ∧ v1.cell? ⟨gb, 8, none⟩ = some (.int .u64 e2.tx.price) ∧ v1.cell? ⟨gb, 9, none⟩ = some (.int .u64 e2.tx.qty) ∧ v1.cell? ⟨gb, 10, none⟩ = some (.int .i64 e2.tx.id) := ⟨cc1.cell hS.1 (by simp), cc1.cell hS.2.1 (by simp), cc1.cell hS.2.2.1 (by simp), cc1.cell hS.2.2.2.1 (by simp), cc1.cell hS.2.2.2.2.1 (by simp), cc1.cell hS.2.2.2.2.2.1 (by simp), cc1.cell hS.2.2.2.2.2.2.1 (by simp), cc1.cell hS.2.2.2.2.2.2.2.1 (by simp), cc1.cell hS.2.2.2.2.2.2.2.2.1 (by simp), cc1.cell hS.2.2.2.2.2.2.2.2.2.1 (by simp), cc1.cell hS.2.2.2.2.2.2.2.2.2.2.1 (by simp), cc1.cell hS.2.2.2.2.2.2.2.2.2.2.2.1 (by simp), cc1.cell hS.2.2.2.2.2.2.2.2.2.2.2.2.1 (by simp), cc1.cell hS.2.2.2.2.2.2.2.2.2.2.2.2.2.1 (by simp), cc1.cell hS.2.2.2.2.2.2.2.2.2.2.2.2.2.2.1 (by simp), cc1.cell hS.2.2.2.2.2.2.2.2.2.2.2.2.2.2.2.1 (by simp), cc1.cell hS.2.2.2.2.2.2.2.2.2.2.2.2.2.2.2.2.1 (by simp), cc1.cell hS.2.2.2.2.2.2.2.2.2.2.2.2.2.2.2.2.2.1 (by simp), cc1.cell hS.2.2.2.2.2.2.2.2.2.2.2.2.2.2.2.2.2.2.1 (by simp), cc1.cell hS.2.2.2.2.2.2.2.2.2.2.2.2.2.2.2.2.2.2.2.1 (by simp), cc1.cell hS.2.2.2.2.2.2.2.2.2.2.2.2.2.2.2.2.2.2.2.2.1 (by simp), cc1.cell hS.2.2.2.2.2.2.2.2.2.2.2.2.2.2.2.2.2.2.2.2.2 (by simp)⟩
    have ch1 := (chW).trans' cc1 (by simp)
    refine hK.out _ _ hS1 (fun hHeld => ?_)
    clear hK K
    try simp only [Act.put, List.setIfInBounds_toArray, List.set_cons_succ, List.set_cons_zero]
    refine wpAnyH_ready (rs := [3]) (by kernel_rfl) (by simp) (AllReadyH.cons rfl (fun K hK => ?_) (AllReadyH.nil))
    have hS02 := hS1
    have cc2 : Chg [] v1 (v1.alloc (.cells #[.int .i64 0, .int .u64 0, .int .u64 0, .bool false, .int .i64 0, .int .i64 0, .int .i64 0, .bool false, .int .u64 0, .int .u64 0, .int .i64 0] 73)) := (Chg.refl _ _).alloc _
    have Bg14 : Blk (v1.alloc (.cells #[.int .i64 0, .int .u64 0, .int .u64 0, .bool false, .int .i64 0, .int .i64 0, .int .i64 0, .bool false, .int .u64 0, .int .u64 0, .int .i64 0] 73)) v1.heap.size 73 [.int .i64 0, .int .u64 0, .int .u64 0, .bool false, .int .i64 0, .int .i64 0, .int .i64 0, .bool false, .int .u64 0, .int .u64 0, .int .i64 0] := Blk.new _ _ _
    have Lg14 := ch1.size
    have ltg13_2 := Bg13.lt
    have sz_2 := cc2.size
    go_simp
    generalize hg14 : v1.heap.size = g14 at *
    generalize v1.alloc _ = v2 at *
    have g13_2 := Bg13.chg cc2 (by simp)
    have hS2 : v2.cell? ⟨ga, 0, none⟩ = some (.int .i64 e1.client) ∧ v2.cell? ⟨ga, 1, none⟩ = some (.int .u64 e1.nonce) ∧ v2.cell? ⟨ga, 2, none⟩ = some (.int .u64 e1.fee) ∧ v2.cell? ⟨ga, 3, none⟩ = some (.bool e1.good) ∧ v2.cell? ⟨ga, 4, none⟩ = some (.int .i64 e1.tx.kind) ∧ v2.cell? ⟨ga, 5, none⟩ = some (.int .i64 e1.tx.asset) ∧ v2.cell? ⟨ga, 6, none⟩ = some (.int .i64 e1.tx.dst) ∧ v2.cell? ⟨ga, 7, none⟩ = some (.bool e1.tx.buy) ∧ v2.cell? ⟨ga, 8, none⟩ = some (.int .u64 e1.tx.price) ∧ v2.cell? ⟨ga, 9, none⟩ = some (.int .u64 e1.tx.qty) ∧ v2.cell? ⟨ga, 10, none⟩ = some (.int .i64 e1.tx.id) ∧ v2.cell? ⟨gb, 0, none⟩ = some (.int .i64 e2.client) ∧ v2.cell? ⟨gb, 1, none⟩ = some (.int .u64 e2.nonce) ∧ v2.cell? ⟨gb, 2, none⟩ = some (.int .u64 e2.fee) ∧ v2.cell? ⟨gb, 3, none⟩ = some (.bool e2.good) ∧ v2.cell? ⟨gb, 4, none⟩ = some (.int .i64 e2.tx.kind) ∧ v2.cell? ⟨gb, 5, none⟩ = some (.int .i64 e2.tx.asset) ∧ v2.cell? ⟨gb, 6, none⟩ = some (.int .i64 e2.tx.dst) ∧ v2.cell? ⟨gb, 7, none⟩ = some (.bool e2.tx.buy) ∧ v2.cell? ⟨gb, 8, none⟩ = some (.int .u64 e2.tx.price) ∧ v2.cell? ⟨gb, 9, none⟩ = some (.int .u64 e2.tx.qty) ∧ v2.cell? ⟨gb, 10, none⟩ = some (.int .i64 e2.tx.id) := ⟨cc2.cell hS1.1 (by simp), cc2.cell hS1.2.1 (by simp), cc2.cell hS1.2.2.1 (by simp), cc2.cell hS1.2.2.2.1 (by simp), cc2.cell hS1.2.2.2.2.1 (by simp), cc2.cell hS1.2.2.2.2.2.1 (by simp), cc2.cell hS1.2.2.2.2.2.2.1 (by simp), cc2.cell hS1.2.2.2.2.2.2.2.1 (by simp), cc2.cell hS1.2.2.2.2.2.2.2.2.1 (by simp), cc2.cell hS1.2.2.2.2.2.2.2.2.2.1 (by simp), cc2.cell hS1.2.2.2.2.2.2.2.2.2.2.1 (by simp), cc2.cell hS1.2.2.2.2.2.2.2.2.2.2.2.1 (by simp), cc2.cell hS1.2.2.2.2.2.2.2.2.2.2.2.2.1 (by simp), cc2.cell hS1.2.2.2.2.2.2.2.2.2.2.2.2.2.1 (by simp), cc2.cell hS1.2.2.2.2.2.2.2.2.2.2.2.2.2.2.1 (by simp), cc2.cell hS1.2.2.2.2.2.2.2.2.2.2.2.2.2.2.2.1 (by simp), cc2.cell hS1.2.2.2.2.2.2.2.2.2.2.2.2.2.2.2.2.1 (by simp), cc2.cell hS1.2.2.2.2.2.2.2.2.2.2.2.2.2.2.2.2.2.1 (by simp), cc2.cell hS1.2.2.2.2.2.2.2.2.2.2.2.2.2.2.2.2.2.2.1 (by simp), cc2.cell hS1.2.2.2.2.2.2.2.2.2.2.2.2.2.2.2.2.2.2.2.1 (by simp), cc2.cell hS1.2.2.2.2.2.2.2.2.2.2.2.2.2.2.2.2.2.2.2.2.1 (by simp), cc2.cell hS1.2.2.2.2.2.2.2.2.2.2.2.2.2.2.2.2.2.2.2.2.2 (by simp)⟩
    have ch2 := (ch1).trans' cc2 (by simp)
    refine hK.out _ _ hS2 (fun hHeld => ?_)
    clear hK K
    try simp only [Act.put, List.setIfInBounds_toArray, List.set_cons_succ, List.set_cons_zero]
    refine wpAnyH_ready (rs := [4]) (by kernel_rfl) (by simp) (AllReadyH.cons rfl (fun K hK => ?_) (AllReadyH.nil))
    have hS03 := hS2
    have e3_0 := g13_2.at (i := 0) rfl
    have f3_0 := g13_2.free 0
    have e3_1 := g13_2.at (i := 1) rfl
    have f3_1 := g13_2.free 1
    have e3_2 := g13_2.at (i := 2) rfl
    have f3_2 := g13_2.free 2
    have e3_3 := g13_2.at (i := 3) rfl
    have f3_3 := g13_2.free 3
    have e3_4 := g13_2.at (i := 4) rfl
    have f3_4 := g13_2.free 4
    have e3_5 := g13_2.at (i := 5) rfl
    have f3_5 := g13_2.free 5
    have e3_6 := g13_2.at (i := 6) rfl
    have f3_6 := g13_2.free 6
    have e3_7 := g13_2.at (i := 7) rfl
    have f3_7 := g13_2.free 7
    have e3_8 := g13_2.at (i := 8) rfl
    have f3_8 := g13_2.free 8
    have e3_9 := g13_2.at (i := 9) rfl
    have f3_9 := g13_2.free 9
    have e3_10 := g13_2.at (i := 10) rfl
    have f3_10 := g13_2.free 10
    have cc3 : Chg [g13] v2 (((((((((((v2.setCell ⟨g13, 0, none⟩ (.int .i64 e1.client)).setCell ⟨g13, 1, none⟩ (.int .u64 e1.nonce)).setCell ⟨g13, 2, none⟩ (.int .u64 e1.fee)).setCell ⟨g13, 3, none⟩ (.bool e1.good)).setCell ⟨g13, 4, none⟩ (.int .i64 e1.tx.kind)).setCell ⟨g13, 5, none⟩ (.int .i64 e1.tx.asset)).setCell ⟨g13, 6, none⟩ (.int .i64 e1.tx.dst)).setCell ⟨g13, 7, none⟩ (.bool e1.tx.buy)).setCell ⟨g13, 8, none⟩ (.int .u64 e1.tx.price)).setCell ⟨g13, 9, none⟩ (.int .u64 e1.tx.qty)).setCell ⟨g13, 10, none⟩ (.int .i64 e1.tx.id)) := ((((((((((((Chg.refl [g13] v2).setCell ⟨g13, 0, none⟩ (.int .i64 e1.client) (.inl (by simp))).setCell ⟨g13, 1, none⟩ (.int .u64 e1.nonce) (.inl (by simp))).setCell ⟨g13, 2, none⟩ (.int .u64 e1.fee) (.inl (by simp))).setCell ⟨g13, 3, none⟩ (.bool e1.good) (.inl (by simp))).setCell ⟨g13, 4, none⟩ (.int .i64 e1.tx.kind) (.inl (by simp))).setCell ⟨g13, 5, none⟩ (.int .i64 e1.tx.asset) (.inl (by simp))).setCell ⟨g13, 6, none⟩ (.int .i64 e1.tx.dst) (.inl (by simp))).setCell ⟨g13, 7, none⟩ (.bool e1.tx.buy) (.inl (by simp))).setCell ⟨g13, 8, none⟩ (.int .u64 e1.tx.price) (.inl (by simp))).setCell ⟨g13, 9, none⟩ (.int .u64 e1.tx.qty) (.inl (by simp))).setCell ⟨g13, 10, none⟩ (.int .i64 e1.tx.id) (.inl (by simp)))
    have Bg13_3 : Blk (((((((((((v2.setCell ⟨g13, 0, none⟩ (.int .i64 e1.client)).setCell ⟨g13, 1, none⟩ (.int .u64 e1.nonce)).setCell ⟨g13, 2, none⟩ (.int .u64 e1.fee)).setCell ⟨g13, 3, none⟩ (.bool e1.good)).setCell ⟨g13, 4, none⟩ (.int .i64 e1.tx.kind)).setCell ⟨g13, 5, none⟩ (.int .i64 e1.tx.asset)).setCell ⟨g13, 6, none⟩ (.int .i64 e1.tx.dst)).setCell ⟨g13, 7, none⟩ (.bool e1.tx.buy)).setCell ⟨g13, 8, none⟩ (.int .u64 e1.tx.price)).setCell ⟨g13, 9, none⟩ (.int .u64 e1.tx.qty)).setCell ⟨g13, 10, none⟩ (.int .i64 e1.tx.id)) g13 73 [.int .i64 e1.client, .int .u64 e1.nonce, .int .u64 e1.fee, .bool e1.good, .int .i64 e1.tx.kind, .int .i64 e1.tx.asset, .int .i64 e1.tx.dst, .bool e1.tx.buy, .int .u64 e1.tx.price, .int .u64 e1.tx.qty, .int .i64 e1.tx.id] := (((((((((((g13_2.set 0 (.int .i64 e1.client)).set 1 (.int .u64 e1.nonce)).set 2 (.int .u64 e1.fee)).set 3 (.bool e1.good)).set 4 (.int .i64 e1.tx.kind)).set 5 (.int .i64 e1.tx.asset)).set 6 (.int .i64 e1.tx.dst)).set 7 (.bool e1.tx.buy)).set 8 (.int .u64 e1.tx.price)).set 9 (.int .u64 e1.tx.qty)).set 10 (.int .i64 e1.tx.id))
    go_simp
    generalize (((((((((((v2.setCell ⟨g13, 0, none⟩ (.int .i64 e1.client)).setCell ⟨g13, 1, none⟩ (.int .u64 e1.nonce)).setCell ⟨g13, 2, none⟩ (.int .u64 e1.fee)).setCell ⟨g13, 3, none⟩ (.bool e1.good)).setCell ⟨g13, 4, none⟩ (.int .i64 e1.tx.kind)).setCell ⟨g13, 5, none⟩ (.int .i64 e1.tx.asset)).setCell ⟨g13, 6, none⟩ (.int .i64 e1.tx.dst)).setCell ⟨g13, 7, none⟩ (.bool e1.tx.buy)).setCell ⟨g13, 8, none⟩ (.int .u64 e1.tx.price)).setCell ⟨g13, 9, none⟩ (.int .u64 e1.tx.qty)).setCell ⟨g13, 10, none⟩ (.int .i64 e1.tx.id)) = v3 at *
    clear e3_0 f3_0 e3_1 f3_1 e3_2 f3_2 e3_3 f3_3 e3_4 f3_4 e3_5 f3_5 e3_6 f3_6 e3_7 f3_7 e3_8 f3_8 e3_9 f3_9 e3_10 f3_10
    have g14_3 := Bg14.chg cc3 (by simp; omega)
    have hS3 : v3.cell? ⟨ga, 0, none⟩ = some (.int .i64 e1.client) ∧ v3.cell? ⟨ga, 1, none⟩ = some (.int .u64 e1.nonce) ∧ v3.cell? ⟨ga, 2, none⟩ = some (.int .u64 e1.fee) ∧ v3.cell? ⟨ga, 3, none⟩ = some (.bool e1.good) ∧ v3.cell? ⟨ga, 4, none⟩ = some (.int .i64 e1.tx.kind) ∧ v3.cell? ⟨ga, 5, none⟩ = some (.int .i64 e1.tx.asset) ∧ v3.cell? ⟨ga, 6, none⟩ = some (.int .i64 e1.tx.dst) ∧ v3.cell? ⟨ga, 7, none⟩ = some (.bool e1.tx.buy) ∧ v3.cell? ⟨ga, 8, none⟩ = some (.int .u64 e1.tx.price) ∧ v3.cell? ⟨ga, 9, none⟩ = some (.int .u64 e1.tx.qty) ∧ v3.cell? ⟨ga, 10, none⟩ = some (.int .i64 e1.tx.id) ∧ v3.cell? ⟨gb, 0, none⟩ = some (.int .i64 e2.client) ∧ v3.cell? ⟨gb, 1, none⟩ = some (.int .u64 e2.nonce) ∧ v3.cell? ⟨gb, 2, none⟩ = some (.int .u64 e2.fee) ∧ v3.cell? ⟨gb, 3, none⟩ = some (.bool e2.good) ∧ v3.cell? ⟨gb, 4, none⟩ = some (.int .i64 e2.tx.kind) ∧ v3.cell? ⟨gb, 5, none⟩ = some (.int .i64 e2.tx.asset) ∧ v3.cell? ⟨gb, 6, none⟩ = some (.int .i64 e2.tx.dst) ∧ v3.cell? ⟨gb, 7, none⟩ = some (.bool e2.tx.buy) ∧ v3.cell? ⟨gb, 8, none⟩ = some (.int .u64 e2.tx.price) ∧ v3.cell? ⟨gb, 9, none⟩ = some (.int .u64 e2.tx.qty) ∧ v3.cell? ⟨gb, 10, none⟩ = some (.int .i64 e2.tx.id) := ⟨cc3.cell hS2.1 (by simp; omega), cc3.cell hS2.2.1 (by simp; omega), cc3.cell hS2.2.2.1 (by simp; omega), cc3.cell hS2.2.2.2.1 (by simp; omega), cc3.cell hS2.2.2.2.2.1 (by simp; omega), cc3.cell hS2.2.2.2.2.2.1 (by simp; omega), cc3.cell hS2.2.2.2.2.2.2.1 (by simp; omega), cc3.cell hS2.2.2.2.2.2.2.2.1 (by simp; omega), cc3.cell hS2.2.2.2.2.2.2.2.2.1 (by simp; omega), cc3.cell hS2.2.2.2.2.2.2.2.2.2.1 (by simp; omega), cc3.cell hS2.2.2.2.2.2.2.2.2.2.2.1 (by simp; omega), cc3.cell hS2.2.2.2.2.2.2.2.2.2.2.2.1 (by simp; omega), cc3.cell hS2.2.2.2.2.2.2.2.2.2.2.2.2.1 (by simp; omega), cc3.cell hS2.2.2.2.2.2.2.2.2.2.2.2.2.2.1 (by simp; omega), cc3.cell hS2.2.2.2.2.2.2.2.2.2.2.2.2.2.2.1 (by simp; omega), cc3.cell hS2.2.2.2.2.2.2.2.2.2.2.2.2.2.2.2.1 (by simp; omega), cc3.cell hS2.2.2.2.2.2.2.2.2.2.2.2.2.2.2.2.2.1 (by simp; omega), cc3.cell hS2.2.2.2.2.2.2.2.2.2.2.2.2.2.2.2.2.2.1 (by simp; omega), cc3.cell hS2.2.2.2.2.2.2.2.2.2.2.2.2.2.2.2.2.2.2.1 (by simp; omega), cc3.cell hS2.2.2.2.2.2.2.2.2.2.2.2.2.2.2.2.2.2.2.2.1 (by simp; omega), cc3.cell hS2.2.2.2.2.2.2.2.2.2.2.2.2.2.2.2.2.2.2.2.2.1 (by simp; omega), cc3.cell hS2.2.2.2.2.2.2.2.2.2.2.2.2.2.2.2.2.2.2.2.2.2 (by simp; omega)⟩
    have ch3 := (ch2).trans' cc3 (fun z hz => .inr (by simp at hz; subst hz; omega))
    refine hK.out _ _ hS3 (fun hHeld => ?_)
    clear hK K
    try simp only [Act.put, List.setIfInBounds_toArray, List.set_cons_succ, List.set_cons_zero]
    refine wpAnyH_ready (rs := [5]) (by kernel_rfl) (by simp) (AllReadyH.cons rfl (fun K hK => ?_) (AllReadyH.nil))
    have hS04 := hS3
    have e4_0 := g14_3.at (i := 0) rfl
    have f4_0 := g14_3.free 0
    have e4_1 := g14_3.at (i := 1) rfl
    have f4_1 := g14_3.free 1
    have e4_2 := g14_3.at (i := 2) rfl
    have f4_2 := g14_3.free 2
    have e4_3 := g14_3.at (i := 3) rfl
    have f4_3 := g14_3.free 3
    have e4_4 := g14_3.at (i := 4) rfl
    have f4_4 := g14_3.free 4
    have e4_5 := g14_3.at (i := 5) rfl
    have f4_5 := g14_3.free 5
    have e4_6 := g14_3.at (i := 6) rfl
    have f4_6 := g14_3.free 6
    have e4_7 := g14_3.at (i := 7) rfl
    have f4_7 := g14_3.free 7
    have e4_8 := g14_3.at (i := 8) rfl
    have f4_8 := g14_3.free 8
    have e4_9 := g14_3.at (i := 9) rfl
    have f4_9 := g14_3.free 9
    have e4_10 := g14_3.at (i := 10) rfl
    have f4_10 := g14_3.free 10
    have cc4 : Chg [g14] v3 (((((((((((v3.setCell ⟨g14, 0, none⟩ (.int .i64 e2.client)).setCell ⟨g14, 1, none⟩ (.int .u64 e2.nonce)).setCell ⟨g14, 2, none⟩ (.int .u64 e2.fee)).setCell ⟨g14, 3, none⟩ (.bool e2.good)).setCell ⟨g14, 4, none⟩ (.int .i64 e2.tx.kind)).setCell ⟨g14, 5, none⟩ (.int .i64 e2.tx.asset)).setCell ⟨g14, 6, none⟩ (.int .i64 e2.tx.dst)).setCell ⟨g14, 7, none⟩ (.bool e2.tx.buy)).setCell ⟨g14, 8, none⟩ (.int .u64 e2.tx.price)).setCell ⟨g14, 9, none⟩ (.int .u64 e2.tx.qty)).setCell ⟨g14, 10, none⟩ (.int .i64 e2.tx.id)) := ((((((((((((Chg.refl [g14] v3).setCell ⟨g14, 0, none⟩ (.int .i64 e2.client) (.inl (by simp))).setCell ⟨g14, 1, none⟩ (.int .u64 e2.nonce) (.inl (by simp))).setCell ⟨g14, 2, none⟩ (.int .u64 e2.fee) (.inl (by simp))).setCell ⟨g14, 3, none⟩ (.bool e2.good) (.inl (by simp))).setCell ⟨g14, 4, none⟩ (.int .i64 e2.tx.kind) (.inl (by simp))).setCell ⟨g14, 5, none⟩ (.int .i64 e2.tx.asset) (.inl (by simp))).setCell ⟨g14, 6, none⟩ (.int .i64 e2.tx.dst) (.inl (by simp))).setCell ⟨g14, 7, none⟩ (.bool e2.tx.buy) (.inl (by simp))).setCell ⟨g14, 8, none⟩ (.int .u64 e2.tx.price) (.inl (by simp))).setCell ⟨g14, 9, none⟩ (.int .u64 e2.tx.qty) (.inl (by simp))).setCell ⟨g14, 10, none⟩ (.int .i64 e2.tx.id) (.inl (by simp)))
    have Bg14_4 : Blk (((((((((((v3.setCell ⟨g14, 0, none⟩ (.int .i64 e2.client)).setCell ⟨g14, 1, none⟩ (.int .u64 e2.nonce)).setCell ⟨g14, 2, none⟩ (.int .u64 e2.fee)).setCell ⟨g14, 3, none⟩ (.bool e2.good)).setCell ⟨g14, 4, none⟩ (.int .i64 e2.tx.kind)).setCell ⟨g14, 5, none⟩ (.int .i64 e2.tx.asset)).setCell ⟨g14, 6, none⟩ (.int .i64 e2.tx.dst)).setCell ⟨g14, 7, none⟩ (.bool e2.tx.buy)).setCell ⟨g14, 8, none⟩ (.int .u64 e2.tx.price)).setCell ⟨g14, 9, none⟩ (.int .u64 e2.tx.qty)).setCell ⟨g14, 10, none⟩ (.int .i64 e2.tx.id)) g14 73 [.int .i64 e2.client, .int .u64 e2.nonce, .int .u64 e2.fee, .bool e2.good, .int .i64 e2.tx.kind, .int .i64 e2.tx.asset, .int .i64 e2.tx.dst, .bool e2.tx.buy, .int .u64 e2.tx.price, .int .u64 e2.tx.qty, .int .i64 e2.tx.id] := (((((((((((g14_3.set 0 (.int .i64 e2.client)).set 1 (.int .u64 e2.nonce)).set 2 (.int .u64 e2.fee)).set 3 (.bool e2.good)).set 4 (.int .i64 e2.tx.kind)).set 5 (.int .i64 e2.tx.asset)).set 6 (.int .i64 e2.tx.dst)).set 7 (.bool e2.tx.buy)).set 8 (.int .u64 e2.tx.price)).set 9 (.int .u64 e2.tx.qty)).set 10 (.int .i64 e2.tx.id))
    go_simp
    generalize (((((((((((v3.setCell ⟨g14, 0, none⟩ (.int .i64 e2.client)).setCell ⟨g14, 1, none⟩ (.int .u64 e2.nonce)).setCell ⟨g14, 2, none⟩ (.int .u64 e2.fee)).setCell ⟨g14, 3, none⟩ (.bool e2.good)).setCell ⟨g14, 4, none⟩ (.int .i64 e2.tx.kind)).setCell ⟨g14, 5, none⟩ (.int .i64 e2.tx.asset)).setCell ⟨g14, 6, none⟩ (.int .i64 e2.tx.dst)).setCell ⟨g14, 7, none⟩ (.bool e2.tx.buy)).setCell ⟨g14, 8, none⟩ (.int .u64 e2.tx.price)).setCell ⟨g14, 9, none⟩ (.int .u64 e2.tx.qty)).setCell ⟨g14, 10, none⟩ (.int .i64 e2.tx.id)) = v4 at *
    clear e4_0 f4_0 e4_1 f4_1 e4_2 f4_2 e4_3 f4_3 e4_4 f4_4 e4_5 f4_5 e4_6 f4_6 e4_7 f4_7 e4_8 f4_8 e4_9 f4_9 e4_10 f4_10
    have g13_4 := Bg13_3.chg cc4 (by simp; omega)
    have hS4 : v4.cell? ⟨ga, 0, none⟩ = some (.int .i64 e1.client) ∧ v4.cell? ⟨ga, 1, none⟩ = some (.int .u64 e1.nonce) ∧ v4.cell? ⟨ga, 2, none⟩ = some (.int .u64 e1.fee) ∧ v4.cell? ⟨ga, 3, none⟩ = some (.bool e1.good) ∧ v4.cell? ⟨ga, 4, none⟩ = some (.int .i64 e1.tx.kind) ∧ v4.cell? ⟨ga, 5, none⟩ = some (.int .i64 e1.tx.asset) ∧ v4.cell? ⟨ga, 6, none⟩ = some (.int .i64 e1.tx.dst) ∧ v4.cell? ⟨ga, 7, none⟩ = some (.bool e1.tx.buy) ∧ v4.cell? ⟨ga, 8, none⟩ = some (.int .u64 e1.tx.price) ∧ v4.cell? ⟨ga, 9, none⟩ = some (.int .u64 e1.tx.qty) ∧ v4.cell? ⟨ga, 10, none⟩ = some (.int .i64 e1.tx.id) ∧ v4.cell? ⟨gb, 0, none⟩ = some (.int .i64 e2.client) ∧ v4.cell? ⟨gb, 1, none⟩ = some (.int .u64 e2.nonce) ∧ v4.cell? ⟨gb, 2, none⟩ = some (.int .u64 e2.fee) ∧ v4.cell? ⟨gb, 3, none⟩ = some (.bool e2.good) ∧ v4.cell? ⟨gb, 4, none⟩ = some (.int .i64 e2.tx.kind) ∧ v4.cell? ⟨gb, 5, none⟩ = some (.int .i64 e2.tx.asset) ∧ v4.cell? ⟨gb, 6, none⟩ = some (.int .i64 e2.tx.dst) ∧ v4.cell? ⟨gb, 7, none⟩ = some (.bool e2.tx.buy) ∧ v4.cell? ⟨gb, 8, none⟩ = some (.int .u64 e2.tx.price) ∧ v4.cell? ⟨gb, 9, none⟩ = some (.int .u64 e2.tx.qty) ∧ v4.cell? ⟨gb, 10, none⟩ = some (.int .i64 e2.tx.id) := ⟨cc4.cell hS3.1 (by simp; omega), cc4.cell hS3.2.1 (by simp; omega), cc4.cell hS3.2.2.1 (by simp; omega), cc4.cell hS3.2.2.2.1 (by simp; omega), cc4.cell hS3.2.2.2.2.1 (by simp; omega), cc4.cell hS3.2.2.2.2.2.1 (by simp; omega), cc4.cell hS3.2.2.2.2.2.2.1 (by simp; omega), cc4.cell hS3.2.2.2.2.2.2.2.1 (by simp; omega), cc4.cell hS3.2.2.2.2.2.2.2.2.1 (by simp; omega), cc4.cell hS3.2.2.2.2.2.2.2.2.2.1 (by simp; omega), cc4.cell hS3.2.2.2.2.2.2.2.2.2.2.1 (by simp; omega), cc4.cell hS3.2.2.2.2.2.2.2.2.2.2.2.1 (by simp; omega), cc4.cell hS3.2.2.2.2.2.2.2.2.2.2.2.2.1 (by simp; omega), cc4.cell hS3.2.2.2.2.2.2.2.2.2.2.2.2.2.1 (by simp; omega), cc4.cell hS3.2.2.2.2.2.2.2.2.2.2.2.2.2.2.1 (by simp; omega), cc4.cell hS3.2.2.2.2.2.2.2.2.2.2.2.2.2.2.2.1 (by simp; omega), cc4.cell hS3.2.2.2.2.2.2.2.2.2.2.2.2.2.2.2.2.1 (by simp; omega), cc4.cell hS3.2.2.2.2.2.2.2.2.2.2.2.2.2.2.2.2.2.1 (by simp; omega), cc4.cell hS3.2.2.2.2.2.2.2.2.2.2.2.2.2.2.2.2.2.2.1 (by simp; omega), cc4.cell hS3.2.2.2.2.2.2.2.2.2.2.2.2.2.2.2.2.2.2.2.1 (by simp; omega), cc4.cell hS3.2.2.2.2.2.2.2.2.2.2.2.2.2.2.2.2.2.2.2.2.1 (by simp; omega), cc4.cell hS3.2.2.2.2.2.2.2.2.2.2.2.2.2.2.2.2.2.2.2.2.2 (by simp; omega)⟩
    have ch4 := (ch3).trans' cc4 (fun z hz => .inr (by simp at hz; subst hz; omega))
    refine hK.out _ _ hS4 (fun hHeld => ?_)
    clear hK K
    try simp only [Act.put, List.setIfInBounds_toArray, List.set_cons_succ, List.set_cons_zero]
    refine wpAnyH_done (by kernel_rfl) ?_ _
    exact hQ _ _ _ g13_4 Bg14_4 ch4 (by omega) (by omega) (by omega) _ _
  · skip
    have hS01 := hS
    have cc1 : Chg [] v0 (v0.alloc (.cells #[.int .i64 0, .int .u64 0, .int .u64 0, .bool false, .int .i64 0, .int .i64 0, .int .i64 0, .bool false, .int .u64 0, .int .u64 0, .int .i64 0] 73)) := (Chg.refl _ _).alloc _
    have Bg14 : Blk (v0.alloc (.cells #[.int .i64 0, .int .u64 0, .int .u64 0, .bool false, .int .i64 0, .int .i64 0, .int .i64 0, .bool false, .int .u64 0, .int .u64 0, .int .i64 0] 73)) v0.heap.size 73 [.int .i64 0, .int .u64 0, .int .u64 0, .bool false, .int .i64 0, .int .i64 0, .int .i64 0, .bool false, .int .u64 0, .int .u64 0, .int .i64 0] := Blk.new _ _ _
    have Lg14 := chW.size
    have sz_1 := cc1.size
    go_simp
    generalize hg14 : v0.heap.size = g14 at *
    generalize v0.alloc _ = v1 at *
    have hS1 : v1.cell? ⟨ga, 0, none⟩ = some (.int .i64 e1.client) ∧ v1.cell? ⟨ga, 1, none⟩ = some (.int .u64 e1.nonce) ∧ v1.cell? ⟨ga, 2, none⟩ = some (.int .u64 e1.fee) ∧ v1.cell? ⟨ga, 3, none⟩ = some (.bool e1.good) ∧ v1.cell? ⟨ga, 4, none⟩ = some (.int .i64 e1.tx.kind) ∧ v1.cell? ⟨ga, 5, none⟩ = some (.int .i64 e1.tx.asset) ∧ v1.cell? ⟨ga, 6, none⟩ = some (.int .i64 e1.tx.dst) ∧ v1.cell? ⟨ga, 7, none⟩ = some (.bool e1.tx.buy) ∧ v1.cell? ⟨ga, 8, none⟩ = some (.int .u64 e1.tx.price) ∧ v1.cell? ⟨ga, 9, none⟩ = some (.int .u64 e1.tx.qty) ∧ v1.cell? ⟨ga, 10, none⟩ = some (.int .i64 e1.tx.id) ∧ v1.cell? ⟨gb, 0, none⟩ = some (.int .i64 e2.client) ∧ v1.cell? ⟨gb, 1, none⟩ = some (.int .u64 e2.nonce) ∧ v1.cell? ⟨gb, 2, none⟩ = some (.int .u64 e2.fee) ∧ v1.cell? ⟨gb, 3, none⟩ = some (.bool e2.good) ∧ v1.cell? ⟨gb, 4, none⟩ = some (.int .i64 e2.tx.kind) ∧ v1.cell? ⟨gb, 5, none⟩ = some (.int .i64 e2.tx.asset) ∧ v1.cell? ⟨gb, 6, none⟩ = some (.int .i64 e2.tx.dst) ∧ v1.cell? ⟨gb, 7, none⟩ = some (.bool e2.tx.buy) ∧ v1.cell? ⟨gb, 8, none⟩ = some (.int .u64 e2.tx.price) ∧ v1.cell? ⟨gb, 9, none⟩ = some (.int .u64 e2.tx.qty) ∧ v1.cell? ⟨gb, 10, none⟩ = some (.int .i64 e2.tx.id) := ⟨cc1.cell hS.1 (by simp), cc1.cell hS.2.1 (by simp), cc1.cell hS.2.2.1 (by simp), cc1.cell hS.2.2.2.1 (by simp), cc1.cell hS.2.2.2.2.1 (by simp), cc1.cell hS.2.2.2.2.2.1 (by simp), cc1.cell hS.2.2.2.2.2.2.1 (by simp), cc1.cell hS.2.2.2.2.2.2.2.1 (by simp), cc1.cell hS.2.2.2.2.2.2.2.2.1 (by simp), cc1.cell hS.2.2.2.2.2.2.2.2.2.1 (by simp), cc1.cell hS.2.2.2.2.2.2.2.2.2.2.1 (by simp), cc1.cell hS.2.2.2.2.2.2.2.2.2.2.2.1 (by simp), cc1.cell hS.2.2.2.2.2.2.2.2.2.2.2.2.1 (by simp), cc1.cell hS.2.2.2.2.2.2.2.2.2.2.2.2.2.1 (by simp), cc1.cell hS.2.2.2.2.2.2.2.2.2.2.2.2.2.2.1 (by simp), cc1.cell hS.2.2.2.2.2.2.2.2.2.2.2.2.2.2.2.1 (by simp), cc1.cell hS.2.2.2.2.2.2.2.2.2.2.2.2.2.2.2.2.1 (by simp), cc1.cell hS.2.2.2.2.2.2.2.2.2.2.2.2.2.2.2.2.2.1 (by simp), cc1.cell hS.2.2.2.2.2.2.2.2.2.2.2.2.2.2.2.2.2.2.1 (by simp), cc1.cell hS.2.2.2.2.2.2.2.2.2.2.2.2.2.2.2.2.2.2.2.1 (by simp), cc1.cell hS.2.2.2.2.2.2.2.2.2.2.2.2.2.2.2.2.2.2.2.2.1 (by simp), cc1.cell hS.2.2.2.2.2.2.2.2.2.2.2.2.2.2.2.2.2.2.2.2.2 (by simp)⟩
    have ch1 := (chW).trans' cc1 (by simp)
    refine hK.out _ _ hS1 (fun hHeld => ?_)
    clear hK K
    try simp only [Act.put, List.setIfInBounds_toArray, List.set_cons_succ, List.set_cons_zero]
    refine wpAnyH_ready (rs := [2]) (by kernel_rfl) (by simp) (AllReadyH.cons rfl (fun K hK => ?_) (AllReadyH.nil))
    have hS02 := hS1
    have cc2 : Chg [] v1 (v1.alloc (.cells #[.int .i64 0, .int .u64 0, .int .u64 0, .bool false, .int .i64 0, .int .i64 0, .int .i64 0, .bool false, .int .u64 0, .int .u64 0, .int .i64 0] 73)) := (Chg.refl _ _).alloc _
    have Bg13 : Blk (v1.alloc (.cells #[.int .i64 0, .int .u64 0, .int .u64 0, .bool false, .int .i64 0, .int .i64 0, .int .i64 0, .bool false, .int .u64 0, .int .u64 0, .int .i64 0] 73)) v1.heap.size 73 [.int .i64 0, .int .u64 0, .int .u64 0, .bool false, .int .i64 0, .int .i64 0, .int .i64 0, .bool false, .int .u64 0, .int .u64 0, .int .i64 0] := Blk.new _ _ _
    have Lg13 := ch1.size
    have ltg14_2 := Bg14.lt
    have sz_2 := cc2.size
    go_simp
    generalize hg13 : v1.heap.size = g13 at *
    generalize v1.alloc _ = v2 at *
    have g14_2 := Bg14.chg cc2 (by simp)
    have hS2 : v2.cell? ⟨ga, 0, none⟩ = some (.int .i64 e1.client) ∧ v2.cell? ⟨ga, 1, none⟩ = some (.int .u64 e1.nonce) ∧ v2.cell? ⟨ga, 2, none⟩ = some (.int .u64 e1.fee) ∧ v2.cell? ⟨ga, 3, none⟩ = some (.bool e1.good) ∧ v2.cell? ⟨ga, 4, none⟩ = some (.int .i64 e1.tx.kind) ∧ v2.cell? ⟨ga, 5, none⟩ = some (.int .i64 e1.tx.asset) ∧ v2.cell? ⟨ga, 6, none⟩ = some (.int .i64 e1.tx.dst) ∧ v2.cell? ⟨ga, 7, none⟩ = some (.bool e1.tx.buy) ∧ v2.cell? ⟨ga, 8, none⟩ = some (.int .u64 e1.tx.price) ∧ v2.cell? ⟨ga, 9, none⟩ = some (.int .u64 e1.tx.qty) ∧ v2.cell? ⟨ga, 10, none⟩ = some (.int .i64 e1.tx.id) ∧ v2.cell? ⟨gb, 0, none⟩ = some (.int .i64 e2.client) ∧ v2.cell? ⟨gb, 1, none⟩ = some (.int .u64 e2.nonce) ∧ v2.cell? ⟨gb, 2, none⟩ = some (.int .u64 e2.fee) ∧ v2.cell? ⟨gb, 3, none⟩ = some (.bool e2.good) ∧ v2.cell? ⟨gb, 4, none⟩ = some (.int .i64 e2.tx.kind) ∧ v2.cell? ⟨gb, 5, none⟩ = some (.int .i64 e2.tx.asset) ∧ v2.cell? ⟨gb, 6, none⟩ = some (.int .i64 e2.tx.dst) ∧ v2.cell? ⟨gb, 7, none⟩ = some (.bool e2.tx.buy) ∧ v2.cell? ⟨gb, 8, none⟩ = some (.int .u64 e2.tx.price) ∧ v2.cell? ⟨gb, 9, none⟩ = some (.int .u64 e2.tx.qty) ∧ v2.cell? ⟨gb, 10, none⟩ = some (.int .i64 e2.tx.id) := ⟨cc2.cell hS1.1 (by simp), cc2.cell hS1.2.1 (by simp), cc2.cell hS1.2.2.1 (by simp), cc2.cell hS1.2.2.2.1 (by simp), cc2.cell hS1.2.2.2.2.1 (by simp), cc2.cell hS1.2.2.2.2.2.1 (by simp), cc2.cell hS1.2.2.2.2.2.2.1 (by simp), cc2.cell hS1.2.2.2.2.2.2.2.1 (by simp), cc2.cell hS1.2.2.2.2.2.2.2.2.1 (by simp), cc2.cell hS1.2.2.2.2.2.2.2.2.2.1 (by simp), cc2.cell hS1.2.2.2.2.2.2.2.2.2.2.1 (by simp), cc2.cell hS1.2.2.2.2.2.2.2.2.2.2.2.1 (by simp), cc2.cell hS1.2.2.2.2.2.2.2.2.2.2.2.2.1 (by simp), cc2.cell hS1.2.2.2.2.2.2.2.2.2.2.2.2.2.1 (by simp), cc2.cell hS1.2.2.2.2.2.2.2.2.2.2.2.2.2.2.1 (by simp), cc2.cell hS1.2.2.2.2.2.2.2.2.2.2.2.2.2.2.2.1 (by simp), cc2.cell hS1.2.2.2.2.2.2.2.2.2.2.2.2.2.2.2.2.1 (by simp), cc2.cell hS1.2.2.2.2.2.2.2.2.2.2.2.2.2.2.2.2.2.1 (by simp), cc2.cell hS1.2.2.2.2.2.2.2.2.2.2.2.2.2.2.2.2.2.2.1 (by simp), cc2.cell hS1.2.2.2.2.2.2.2.2.2.2.2.2.2.2.2.2.2.2.2.1 (by simp), cc2.cell hS1.2.2.2.2.2.2.2.2.2.2.2.2.2.2.2.2.2.2.2.2.1 (by simp), cc2.cell hS1.2.2.2.2.2.2.2.2.2.2.2.2.2.2.2.2.2.2.2.2.2 (by simp)⟩
    have ch2 := (ch1).trans' cc2 (by simp)
    refine hK.out _ _ hS2 (fun hHeld => ?_)
    clear hK K
    try simp only [Act.put, List.setIfInBounds_toArray, List.set_cons_succ, List.set_cons_zero]
    refine wpAnyH_ready (rs := [4]) (by kernel_rfl) (by simp) (AllReadyH.cons rfl (fun K hK => ?_) (AllReadyH.nil))
    have hS03 := hS2
    have e3_0 := Bg13.at (i := 0) rfl
    have f3_0 := Bg13.free 0
    have e3_1 := Bg13.at (i := 1) rfl
    have f3_1 := Bg13.free 1
    have e3_2 := Bg13.at (i := 2) rfl
    have f3_2 := Bg13.free 2
    have e3_3 := Bg13.at (i := 3) rfl
    have f3_3 := Bg13.free 3
    have e3_4 := Bg13.at (i := 4) rfl
    have f3_4 := Bg13.free 4
    have e3_5 := Bg13.at (i := 5) rfl
    have f3_5 := Bg13.free 5
    have e3_6 := Bg13.at (i := 6) rfl
    have f3_6 := Bg13.free 6
    have e3_7 := Bg13.at (i := 7) rfl
    have f3_7 := Bg13.free 7
    have e3_8 := Bg13.at (i := 8) rfl
    have f3_8 := Bg13.free 8
    have e3_9 := Bg13.at (i := 9) rfl
    have f3_9 := Bg13.free 9
    have e3_10 := Bg13.at (i := 10) rfl
    have f3_10 := Bg13.free 10
    have cc3 : Chg [g13] v2 (((((((((((v2.setCell ⟨g13, 0, none⟩ (.int .i64 e1.client)).setCell ⟨g13, 1, none⟩ (.int .u64 e1.nonce)).setCell ⟨g13, 2, none⟩ (.int .u64 e1.fee)).setCell ⟨g13, 3, none⟩ (.bool e1.good)).setCell ⟨g13, 4, none⟩ (.int .i64 e1.tx.kind)).setCell ⟨g13, 5, none⟩ (.int .i64 e1.tx.asset)).setCell ⟨g13, 6, none⟩ (.int .i64 e1.tx.dst)).setCell ⟨g13, 7, none⟩ (.bool e1.tx.buy)).setCell ⟨g13, 8, none⟩ (.int .u64 e1.tx.price)).setCell ⟨g13, 9, none⟩ (.int .u64 e1.tx.qty)).setCell ⟨g13, 10, none⟩ (.int .i64 e1.tx.id)) := ((((((((((((Chg.refl [g13] v2).setCell ⟨g13, 0, none⟩ (.int .i64 e1.client) (.inl (by simp))).setCell ⟨g13, 1, none⟩ (.int .u64 e1.nonce) (.inl (by simp))).setCell ⟨g13, 2, none⟩ (.int .u64 e1.fee) (.inl (by simp))).setCell ⟨g13, 3, none⟩ (.bool e1.good) (.inl (by simp))).setCell ⟨g13, 4, none⟩ (.int .i64 e1.tx.kind) (.inl (by simp))).setCell ⟨g13, 5, none⟩ (.int .i64 e1.tx.asset) (.inl (by simp))).setCell ⟨g13, 6, none⟩ (.int .i64 e1.tx.dst) (.inl (by simp))).setCell ⟨g13, 7, none⟩ (.bool e1.tx.buy) (.inl (by simp))).setCell ⟨g13, 8, none⟩ (.int .u64 e1.tx.price) (.inl (by simp))).setCell ⟨g13, 9, none⟩ (.int .u64 e1.tx.qty) (.inl (by simp))).setCell ⟨g13, 10, none⟩ (.int .i64 e1.tx.id) (.inl (by simp)))
    have Bg13_3 : Blk (((((((((((v2.setCell ⟨g13, 0, none⟩ (.int .i64 e1.client)).setCell ⟨g13, 1, none⟩ (.int .u64 e1.nonce)).setCell ⟨g13, 2, none⟩ (.int .u64 e1.fee)).setCell ⟨g13, 3, none⟩ (.bool e1.good)).setCell ⟨g13, 4, none⟩ (.int .i64 e1.tx.kind)).setCell ⟨g13, 5, none⟩ (.int .i64 e1.tx.asset)).setCell ⟨g13, 6, none⟩ (.int .i64 e1.tx.dst)).setCell ⟨g13, 7, none⟩ (.bool e1.tx.buy)).setCell ⟨g13, 8, none⟩ (.int .u64 e1.tx.price)).setCell ⟨g13, 9, none⟩ (.int .u64 e1.tx.qty)).setCell ⟨g13, 10, none⟩ (.int .i64 e1.tx.id)) g13 73 [.int .i64 e1.client, .int .u64 e1.nonce, .int .u64 e1.fee, .bool e1.good, .int .i64 e1.tx.kind, .int .i64 e1.tx.asset, .int .i64 e1.tx.dst, .bool e1.tx.buy, .int .u64 e1.tx.price, .int .u64 e1.tx.qty, .int .i64 e1.tx.id] := (((((((((((Bg13.set 0 (.int .i64 e1.client)).set 1 (.int .u64 e1.nonce)).set 2 (.int .u64 e1.fee)).set 3 (.bool e1.good)).set 4 (.int .i64 e1.tx.kind)).set 5 (.int .i64 e1.tx.asset)).set 6 (.int .i64 e1.tx.dst)).set 7 (.bool e1.tx.buy)).set 8 (.int .u64 e1.tx.price)).set 9 (.int .u64 e1.tx.qty)).set 10 (.int .i64 e1.tx.id))
    go_simp
    generalize (((((((((((v2.setCell ⟨g13, 0, none⟩ (.int .i64 e1.client)).setCell ⟨g13, 1, none⟩ (.int .u64 e1.nonce)).setCell ⟨g13, 2, none⟩ (.int .u64 e1.fee)).setCell ⟨g13, 3, none⟩ (.bool e1.good)).setCell ⟨g13, 4, none⟩ (.int .i64 e1.tx.kind)).setCell ⟨g13, 5, none⟩ (.int .i64 e1.tx.asset)).setCell ⟨g13, 6, none⟩ (.int .i64 e1.tx.dst)).setCell ⟨g13, 7, none⟩ (.bool e1.tx.buy)).setCell ⟨g13, 8, none⟩ (.int .u64 e1.tx.price)).setCell ⟨g13, 9, none⟩ (.int .u64 e1.tx.qty)).setCell ⟨g13, 10, none⟩ (.int .i64 e1.tx.id)) = v3 at *
    clear e3_0 f3_0 e3_1 f3_1 e3_2 f3_2 e3_3 f3_3 e3_4 f3_4 e3_5 f3_5 e3_6 f3_6 e3_7 f3_7 e3_8 f3_8 e3_9 f3_9 e3_10 f3_10
    have g14_3 := g14_2.chg cc3 (by simp; omega)
    have hS3 : v3.cell? ⟨ga, 0, none⟩ = some (.int .i64 e1.client) ∧ v3.cell? ⟨ga, 1, none⟩ = some (.int .u64 e1.nonce) ∧ v3.cell? ⟨ga, 2, none⟩ = some (.int .u64 e1.fee) ∧ v3.cell? ⟨ga, 3, none⟩ = some (.bool e1.good) ∧ v3.cell? ⟨ga, 4, none⟩ = some (.int .i64 e1.tx.kind) ∧ v3.cell? ⟨ga, 5, none⟩ = some (.int .i64 e1.tx.asset) ∧ v3.cell? ⟨ga, 6, none⟩ = some (.int .i64 e1.tx.dst) ∧ v3.cell? ⟨ga, 7, none⟩ = some (.bool e1.tx.buy) ∧ v3.cell? ⟨ga, 8, none⟩ = some (.int .u64 e1.tx.price) ∧ v3.cell? ⟨ga, 9, none⟩ = some (.int .u64 e1.tx.qty) ∧ v3.cell? ⟨ga, 10, none⟩ = some (.int .i64 e1.tx.id) ∧ v3.cell? ⟨gb, 0, none⟩ = some (.int .i64 e2.client) ∧ v3.cell? ⟨gb, 1, none⟩ = some (.int .u64 e2.nonce) ∧ v3.cell? ⟨gb, 2, none⟩ = some (.int .u64 e2.fee) ∧ v3.cell? ⟨gb, 3, none⟩ = some (.bool e2.good) ∧ v3.cell? ⟨gb, 4, none⟩ = some (.int .i64 e2.tx.kind) ∧ v3.cell? ⟨gb, 5, none⟩ = some (.int .i64 e2.tx.asset) ∧ v3.cell? ⟨gb, 6, none⟩ = some (.int .i64 e2.tx.dst) ∧ v3.cell? ⟨gb, 7, none⟩ = some (.bool e2.tx.buy) ∧ v3.cell? ⟨gb, 8, none⟩ = some (.int .u64 e2.tx.price) ∧ v3.cell? ⟨gb, 9, none⟩ = some (.int .u64 e2.tx.qty) ∧ v3.cell? ⟨gb, 10, none⟩ = some (.int .i64 e2.tx.id) := ⟨cc3.cell hS2.1 (by simp; omega), cc3.cell hS2.2.1 (by simp; omega), cc3.cell hS2.2.2.1 (by simp; omega), cc3.cell hS2.2.2.2.1 (by simp; omega), cc3.cell hS2.2.2.2.2.1 (by simp; omega), cc3.cell hS2.2.2.2.2.2.1 (by simp; omega), cc3.cell hS2.2.2.2.2.2.2.1 (by simp; omega), cc3.cell hS2.2.2.2.2.2.2.2.1 (by simp; omega), cc3.cell hS2.2.2.2.2.2.2.2.2.1 (by simp; omega), cc3.cell hS2.2.2.2.2.2.2.2.2.2.1 (by simp; omega), cc3.cell hS2.2.2.2.2.2.2.2.2.2.2.1 (by simp; omega), cc3.cell hS2.2.2.2.2.2.2.2.2.2.2.2.1 (by simp; omega), cc3.cell hS2.2.2.2.2.2.2.2.2.2.2.2.2.1 (by simp; omega), cc3.cell hS2.2.2.2.2.2.2.2.2.2.2.2.2.2.1 (by simp; omega), cc3.cell hS2.2.2.2.2.2.2.2.2.2.2.2.2.2.2.1 (by simp; omega), cc3.cell hS2.2.2.2.2.2.2.2.2.2.2.2.2.2.2.2.1 (by simp; omega), cc3.cell hS2.2.2.2.2.2.2.2.2.2.2.2.2.2.2.2.2.1 (by simp; omega), cc3.cell hS2.2.2.2.2.2.2.2.2.2.2.2.2.2.2.2.2.2.1 (by simp; omega), cc3.cell hS2.2.2.2.2.2.2.2.2.2.2.2.2.2.2.2.2.2.2.1 (by simp; omega), cc3.cell hS2.2.2.2.2.2.2.2.2.2.2.2.2.2.2.2.2.2.2.2.1 (by simp; omega), cc3.cell hS2.2.2.2.2.2.2.2.2.2.2.2.2.2.2.2.2.2.2.2.2.1 (by simp; omega), cc3.cell hS2.2.2.2.2.2.2.2.2.2.2.2.2.2.2.2.2.2.2.2.2.2 (by simp; omega)⟩
    have ch3 := (ch2).trans' cc3 (fun z hz => .inr (by simp at hz; subst hz; omega))
    refine hK.out _ _ hS3 (fun hHeld => ?_)
    clear hK K
    try simp only [Act.put, List.setIfInBounds_toArray, List.set_cons_succ, List.set_cons_zero]
    refine wpAnyH_ready (rs := [5]) (by kernel_rfl) (by simp) (AllReadyH.cons rfl (fun K hK => ?_) (AllReadyH.nil))
    have hS04 := hS3
    have e4_0 := g14_3.at (i := 0) rfl
    have f4_0 := g14_3.free 0
    have e4_1 := g14_3.at (i := 1) rfl
    have f4_1 := g14_3.free 1
    have e4_2 := g14_3.at (i := 2) rfl
    have f4_2 := g14_3.free 2
    have e4_3 := g14_3.at (i := 3) rfl
    have f4_3 := g14_3.free 3
    have e4_4 := g14_3.at (i := 4) rfl
    have f4_4 := g14_3.free 4
    have e4_5 := g14_3.at (i := 5) rfl
    have f4_5 := g14_3.free 5
    have e4_6 := g14_3.at (i := 6) rfl
    have f4_6 := g14_3.free 6
    have e4_7 := g14_3.at (i := 7) rfl
    have f4_7 := g14_3.free 7
    have e4_8 := g14_3.at (i := 8) rfl
    have f4_8 := g14_3.free 8
    have e4_9 := g14_3.at (i := 9) rfl
    have f4_9 := g14_3.free 9
    have e4_10 := g14_3.at (i := 10) rfl
    have f4_10 := g14_3.free 10
    have cc4 : Chg [g14] v3 (((((((((((v3.setCell ⟨g14, 0, none⟩ (.int .i64 e2.client)).setCell ⟨g14, 1, none⟩ (.int .u64 e2.nonce)).setCell ⟨g14, 2, none⟩ (.int .u64 e2.fee)).setCell ⟨g14, 3, none⟩ (.bool e2.good)).setCell ⟨g14, 4, none⟩ (.int .i64 e2.tx.kind)).setCell ⟨g14, 5, none⟩ (.int .i64 e2.tx.asset)).setCell ⟨g14, 6, none⟩ (.int .i64 e2.tx.dst)).setCell ⟨g14, 7, none⟩ (.bool e2.tx.buy)).setCell ⟨g14, 8, none⟩ (.int .u64 e2.tx.price)).setCell ⟨g14, 9, none⟩ (.int .u64 e2.tx.qty)).setCell ⟨g14, 10, none⟩ (.int .i64 e2.tx.id)) := ((((((((((((Chg.refl [g14] v3).setCell ⟨g14, 0, none⟩ (.int .i64 e2.client) (.inl (by simp))).setCell ⟨g14, 1, none⟩ (.int .u64 e2.nonce) (.inl (by simp))).setCell ⟨g14, 2, none⟩ (.int .u64 e2.fee) (.inl (by simp))).setCell ⟨g14, 3, none⟩ (.bool e2.good) (.inl (by simp))).setCell ⟨g14, 4, none⟩ (.int .i64 e2.tx.kind) (.inl (by simp))).setCell ⟨g14, 5, none⟩ (.int .i64 e2.tx.asset) (.inl (by simp))).setCell ⟨g14, 6, none⟩ (.int .i64 e2.tx.dst) (.inl (by simp))).setCell ⟨g14, 7, none⟩ (.bool e2.tx.buy) (.inl (by simp))).setCell ⟨g14, 8, none⟩ (.int .u64 e2.tx.price) (.inl (by simp))).setCell ⟨g14, 9, none⟩ (.int .u64 e2.tx.qty) (.inl (by simp))).setCell ⟨g14, 10, none⟩ (.int .i64 e2.tx.id) (.inl (by simp)))
    have Bg14_4 : Blk (((((((((((v3.setCell ⟨g14, 0, none⟩ (.int .i64 e2.client)).setCell ⟨g14, 1, none⟩ (.int .u64 e2.nonce)).setCell ⟨g14, 2, none⟩ (.int .u64 e2.fee)).setCell ⟨g14, 3, none⟩ (.bool e2.good)).setCell ⟨g14, 4, none⟩ (.int .i64 e2.tx.kind)).setCell ⟨g14, 5, none⟩ (.int .i64 e2.tx.asset)).setCell ⟨g14, 6, none⟩ (.int .i64 e2.tx.dst)).setCell ⟨g14, 7, none⟩ (.bool e2.tx.buy)).setCell ⟨g14, 8, none⟩ (.int .u64 e2.tx.price)).setCell ⟨g14, 9, none⟩ (.int .u64 e2.tx.qty)).setCell ⟨g14, 10, none⟩ (.int .i64 e2.tx.id)) g14 73 [.int .i64 e2.client, .int .u64 e2.nonce, .int .u64 e2.fee, .bool e2.good, .int .i64 e2.tx.kind, .int .i64 e2.tx.asset, .int .i64 e2.tx.dst, .bool e2.tx.buy, .int .u64 e2.tx.price, .int .u64 e2.tx.qty, .int .i64 e2.tx.id] := (((((((((((g14_3.set 0 (.int .i64 e2.client)).set 1 (.int .u64 e2.nonce)).set 2 (.int .u64 e2.fee)).set 3 (.bool e2.good)).set 4 (.int .i64 e2.tx.kind)).set 5 (.int .i64 e2.tx.asset)).set 6 (.int .i64 e2.tx.dst)).set 7 (.bool e2.tx.buy)).set 8 (.int .u64 e2.tx.price)).set 9 (.int .u64 e2.tx.qty)).set 10 (.int .i64 e2.tx.id))
    go_simp
    generalize (((((((((((v3.setCell ⟨g14, 0, none⟩ (.int .i64 e2.client)).setCell ⟨g14, 1, none⟩ (.int .u64 e2.nonce)).setCell ⟨g14, 2, none⟩ (.int .u64 e2.fee)).setCell ⟨g14, 3, none⟩ (.bool e2.good)).setCell ⟨g14, 4, none⟩ (.int .i64 e2.tx.kind)).setCell ⟨g14, 5, none⟩ (.int .i64 e2.tx.asset)).setCell ⟨g14, 6, none⟩ (.int .i64 e2.tx.dst)).setCell ⟨g14, 7, none⟩ (.bool e2.tx.buy)).setCell ⟨g14, 8, none⟩ (.int .u64 e2.tx.price)).setCell ⟨g14, 9, none⟩ (.int .u64 e2.tx.qty)).setCell ⟨g14, 10, none⟩ (.int .i64 e2.tx.id)) = v4 at *
    clear e4_0 f4_0 e4_1 f4_1 e4_2 f4_2 e4_3 f4_3 e4_4 f4_4 e4_5 f4_5 e4_6 f4_6 e4_7 f4_7 e4_8 f4_8 e4_9 f4_9 e4_10 f4_10
    have g13_4 := Bg13_3.chg cc4 (by simp; omega)
    have hS4 : v4.cell? ⟨ga, 0, none⟩ = some (.int .i64 e1.client) ∧ v4.cell? ⟨ga, 1, none⟩ = some (.int .u64 e1.nonce) ∧ v4.cell? ⟨ga, 2, none⟩ = some (.int .u64 e1.fee) ∧ v4.cell? ⟨ga, 3, none⟩ = some (.bool e1.good) ∧ v4.cell? ⟨ga, 4, none⟩ = some (.int .i64 e1.tx.kind) ∧ v4.cell? ⟨ga, 5, none⟩ = some (.int .i64 e1.tx.asset) ∧ v4.cell? ⟨ga, 6, none⟩ = some (.int .i64 e1.tx.dst) ∧ v4.cell? ⟨ga, 7, none⟩ = some (.bool e1.tx.buy) ∧ v4.cell? ⟨ga, 8, none⟩ = some (.int .u64 e1.tx.price) ∧ v4.cell? ⟨ga, 9, none⟩ = some (.int .u64 e1.tx.qty) ∧ v4.cell? ⟨ga, 10, none⟩ = some (.int .i64 e1.tx.id) ∧ v4.cell? ⟨gb, 0, none⟩ = some (.int .i64 e2.client) ∧ v4.cell? ⟨gb, 1, none⟩ = some (.int .u64 e2.nonce) ∧ v4.cell? ⟨gb, 2, none⟩ = some (.int .u64 e2.fee) ∧ v4.cell? ⟨gb, 3, none⟩ = some (.bool e2.good) ∧ v4.cell? ⟨gb, 4, none⟩ = some (.int .i64 e2.tx.kind) ∧ v4.cell? ⟨gb, 5, none⟩ = some (.int .i64 e2.tx.asset) ∧ v4.cell? ⟨gb, 6, none⟩ = some (.int .i64 e2.tx.dst) ∧ v4.cell? ⟨gb, 7, none⟩ = some (.bool e2.tx.buy) ∧ v4.cell? ⟨gb, 8, none⟩ = some (.int .u64 e2.tx.price) ∧ v4.cell? ⟨gb, 9, none⟩ = some (.int .u64 e2.tx.qty) ∧ v4.cell? ⟨gb, 10, none⟩ = some (.int .i64 e2.tx.id) := ⟨cc4.cell hS3.1 (by simp; omega), cc4.cell hS3.2.1 (by simp; omega), cc4.cell hS3.2.2.1 (by simp; omega), cc4.cell hS3.2.2.2.1 (by simp; omega), cc4.cell hS3.2.2.2.2.1 (by simp; omega), cc4.cell hS3.2.2.2.2.2.1 (by simp; omega), cc4.cell hS3.2.2.2.2.2.2.1 (by simp; omega), cc4.cell hS3.2.2.2.2.2.2.2.1 (by simp; omega), cc4.cell hS3.2.2.2.2.2.2.2.2.1 (by simp; omega), cc4.cell hS3.2.2.2.2.2.2.2.2.2.1 (by simp; omega), cc4.cell hS3.2.2.2.2.2.2.2.2.2.2.1 (by simp; omega), cc4.cell hS3.2.2.2.2.2.2.2.2.2.2.2.1 (by simp; omega), cc4.cell hS3.2.2.2.2.2.2.2.2.2.2.2.2.1 (by simp; omega), cc4.cell hS3.2.2.2.2.2.2.2.2.2.2.2.2.2.1 (by simp; omega), cc4.cell hS3.2.2.2.2.2.2.2.2.2.2.2.2.2.2.1 (by simp; omega), cc4.cell hS3.2.2.2.2.2.2.2.2.2.2.2.2.2.2.2.1 (by simp; omega), cc4.cell hS3.2.2.2.2.2.2.2.2.2.2.2.2.2.2.2.2.1 (by simp; omega), cc4.cell hS3.2.2.2.2.2.2.2.2.2.2.2.2.2.2.2.2.2.1 (by simp; omega), cc4.cell hS3.2.2.2.2.2.2.2.2.2.2.2.2.2.2.2.2.2.2.1 (by simp; omega), cc4.cell hS3.2.2.2.2.2.2.2.2.2.2.2.2.2.2.2.2.2.2.2.1 (by simp; omega), cc4.cell hS3.2.2.2.2.2.2.2.2.2.2.2.2.2.2.2.2.2.2.2.2.1 (by simp; omega), cc4.cell hS3.2.2.2.2.2.2.2.2.2.2.2.2.2.2.2.2.2.2.2.2.2 (by simp; omega)⟩
    have ch4 := (ch3).trans' cc4 (fun z hz => .inr (by simp at hz; subst hz; omega))
    refine hK.out _ _ hS4 (fun hHeld => ?_)
    clear hK K
    try simp only [Act.put, List.setIfInBounds_toArray, List.set_cons_succ, List.set_cons_zero]
    refine wpAnyH_done (by kernel_rfl) ?_ _
    exact hQ _ _ _ g13_4 Bg14_4 ch4 (by omega) (by omega) (by omega) _ _
set_option maxRecDepth 1000000 in
set_option maxHeartbeats 8000000 in
theorem meets_swap {Q : Exit → Act → World → Prop} {u1 u2 u4 u5 u6 u7 u8 u9 u12 u15 u16 u17 u18 u19 u20 u21 u22 u23 u24 u25 u26 u27 u28 u29 u30 u31 u32 u33 u34 u35 u36 u37 u38 u39 u40 u41 u42 u43 u44 u45 u46 u47 u48 u49 u50 u51 u52 u53 u54 u55 u56 u57 u58 u59 u60 u61 u62 u63 u64 u65 u66 u67 u68 u69 u70 u71 u72 u73 u74 u75 u76 u77 u78 u79 u80 u81 u82 u83 u84 u85 u86 u87 u88 u89 u90 u91 u92 u93 u94 u95 u96 u97 u98 u99 u100 u101 u102 u103 u104 u105 u106 u107 u108 u109 u110 u111 u112 u113 u114 u115 u116 u117 u118 u119 u120 u121 u122 u123 u124 u125 u126 u127 u128 u129 u130 u131 u132 u133 u134 u135 u136 u137 u138 u139 u140 u141 u142 u143 u144 u145 u146 u147 u148 u149 u150 u151 u152 u153 u154 u155 u156 u157 u158 u159 : Value} (hP : ∀ c a d v w, Q (.panic c) (Act.put a d v) w → Q (.panic c) a w) {ga gb g13 g14 : Nat} {e1 e2 : Ent} {p m P : Int} {W : World} (wq : IntKind.u64.wrap (p + m) = P) (HA : Hid (Blk W ga 73 (ec e1))) (HB : Hid (Blk W gb 73 (ec e2))) (H13 : Hid (Blk W g13 73 (ec e1))) (H14 : Hid (Blk W g14 73 (ec e2))) (n1 : ga ≠ g13 ∧ gb ≠ g13 ∧ ga ≠ g14 ∧ gb ≠ g14 ∧ g13 ≠ g14)
    (hQ : ∀ (v : World) (_ : Blk v g13 73 (ec e2)) (_ : Blk v g14 73 (ec e1)) (_ : Chg [g13, g14] W v) (x48 x49 x50 x51 x52 : Value), Q .normal ⟨#[.int .u64 p, u1, u2, .int .u64 m, u4, u5, u6, u7, u8, u9, .pointer (some ⟨ga, 0, none⟩), .pointer (some ⟨gb, 0, none⟩), .int .u64 P, .pointer (some ⟨g13, 0, none⟩), .pointer (some ⟨g14, 0, none⟩), u15, u16, u17, u18, u19, u20, u21, u22, u23, u24, u25, u26, u27, u28, u29, u30, u31, u32, u33, u34, u35, u36, u37, u38, u39, u40, u41, u42, u43, u44, u45, u46, u47, x48, x49, x50, x51, x52, u53, u54, u55, u56, u57, u58, u59, u60, u61, u62, u63, u64, u65, u66, u67, u68, u69, u70, u71, u72, u73, u74, u75, u76, u77, u78, u79, u80, u81, u82, u83, u84, u85, u86, u87, u88, u89, u90, u91, u92, u93, u94, u95, u96, u97, u98, u99, u100, u101, u102, u103, u104, u105, u106, u107, u108, u109, u110, u111, u112, u113, u114, u115, u116, u117, u118, u119, u120, u121, u122, u123, u124, u125, u126, u127, u128, u129, u130, u131, u132, u133, u134, u135, u136, u137, u138, u139, u140, u141, u142, u143, u144, u145, u146, u147, u148, u149, u150, u151, u152, u153, u154, u155, u156, u157, u158, u159], []⟩ v) :
    Code.wp Try.prog (regionOf Try.f14 10) Q ⟨#[.int .u64 p, u1, u2, .int .u64 m, u4, u5, u6, u7, u8, u9, .pointer (some ⟨ga, 0, none⟩), .pointer (some ⟨gb, 0, none⟩), u12, .pointer (some ⟨g13, 0, none⟩), .pointer (some ⟨g14, 0, none⟩), u15, u16, u17, u18, u19, u20, u21, u22, u23, u24, u25, u26, u27, u28, u29, u30, u31, u32, u33, u34, u35, u36, u37, u38, u39, u40, u41, u42, u43, u44, u45, u46, u47, u48, u49, u50, u51, u52, u53, u54, u55, u56, u57, u58, u59, u60, u61, u62, u63, u64, u65, u66, u67, u68, u69, u70, u71, u72, u73, u74, u75, u76, u77, u78, u79, u80, u81, u82, u83, u84, u85, u86, u87, u88, u89, u90, u91, u92, u93, u94, u95, u96, u97, u98, u99, u100, u101, u102, u103, u104, u105, u106, u107, u108, u109, u110, u111, u112, u113, u114, u115, u116, u117, u118, u119, u120, u121, u122, u123, u124, u125, u126, u127, u128, u129, u130, u131, u132, u133, u134, u135, u136, u137, u138, u139, u140, u141, u142, u143, u144, u145, u146, u147, u148, u149, u150, u151, u152, u153, u154, u155, u156, u157, u158, u159], []⟩ W := by
  conv => arg 2; whnf
  have la := HA.out.lt
  have lb := HB.out.lt
  refine wp_region_held_drew (S := (fun w' => w'.cell? ⟨ga, 0, none⟩ = some (.int .i64 e1.client) ∧ w'.cell? ⟨ga, 1, none⟩ = some (.int .u64 e1.nonce) ∧ w'.cell? ⟨ga, 2, none⟩ = some (.int .u64 e1.fee) ∧ w'.cell? ⟨ga, 3, none⟩ = some (.bool e1.good) ∧ w'.cell? ⟨ga, 4, none⟩ = some (.int .i64 e1.tx.kind) ∧ w'.cell? ⟨ga, 5, none⟩ = some (.int .i64 e1.tx.asset) ∧ w'.cell? ⟨ga, 6, none⟩ = some (.int .i64 e1.tx.dst) ∧ w'.cell? ⟨ga, 7, none⟩ = some (.bool e1.tx.buy) ∧ w'.cell? ⟨ga, 8, none⟩ = some (.int .u64 e1.tx.price) ∧ w'.cell? ⟨ga, 9, none⟩ = some (.int .u64 e1.tx.qty) ∧ w'.cell? ⟨ga, 10, none⟩ = some (.int .i64 e1.tx.id) ∧ w'.cell? ⟨gb, 0, none⟩ = some (.int .i64 e2.client) ∧ w'.cell? ⟨gb, 1, none⟩ = some (.int .u64 e2.nonce) ∧ w'.cell? ⟨gb, 2, none⟩ = some (.int .u64 e2.fee) ∧ w'.cell? ⟨gb, 3, none⟩ = some (.bool e2.good) ∧ w'.cell? ⟨gb, 4, none⟩ = some (.int .i64 e2.tx.kind) ∧ w'.cell? ⟨gb, 5, none⟩ = some (.int .i64 e2.tx.asset) ∧ w'.cell? ⟨gb, 6, none⟩ = some (.int .i64 e2.tx.dst) ∧ w'.cell? ⟨gb, 7, none⟩ = some (.bool e2.tx.buy) ∧ w'.cell? ⟨gb, 8, none⟩ = some (.int .u64 e2.tx.price) ∧ w'.cell? ⟨gb, 9, none⟩ = some (.int .u64 e2.tx.qty) ∧ w'.cell? ⟨gb, 10, none⟩ = some (.int .i64 e2.tx.id))) (by kernel_rfl) ⟨HA.out.at (i := 0) rfl, HA.out.at (i := 1) rfl, HA.out.at (i := 2) rfl, HA.out.at (i := 3) rfl, HA.out.at (i := 4) rfl, HA.out.at (i := 5) rfl, HA.out.at (i := 6) rfl, HA.out.at (i := 7) rfl, HA.out.at (i := 8) rfl, HA.out.at (i := 9) rfl, HA.out.at (i := 10) rfl, HB.out.at (i := 0) rfl, HB.out.at (i := 1) rfl, HB.out.at (i := 2) rfl, HB.out.at (i := 3) rfl, HB.out.at (i := 4) rfl, HB.out.at (i := 5) rfl, HB.out.at (i := 6) rfl, HB.out.at (i := 7) rfl, HB.out.at (i := 8) rfl, HB.out.at (i := 9) rfl, HB.out.at (i := 10) rfl⟩ (fun _ => ?_)
  have hS : W.drew.cell? ⟨ga, 0, none⟩ = some (.int .i64 e1.client) ∧ W.drew.cell? ⟨ga, 1, none⟩ = some (.int .u64 e1.nonce) ∧ W.drew.cell? ⟨ga, 2, none⟩ = some (.int .u64 e1.fee) ∧ W.drew.cell? ⟨ga, 3, none⟩ = some (.bool e1.good) ∧ W.drew.cell? ⟨ga, 4, none⟩ = some (.int .i64 e1.tx.kind) ∧ W.drew.cell? ⟨ga, 5, none⟩ = some (.int .i64 e1.tx.asset) ∧ W.drew.cell? ⟨ga, 6, none⟩ = some (.int .i64 e1.tx.dst) ∧ W.drew.cell? ⟨ga, 7, none⟩ = some (.bool e1.tx.buy) ∧ W.drew.cell? ⟨ga, 8, none⟩ = some (.int .u64 e1.tx.price) ∧ W.drew.cell? ⟨ga, 9, none⟩ = some (.int .u64 e1.tx.qty) ∧ W.drew.cell? ⟨ga, 10, none⟩ = some (.int .i64 e1.tx.id) ∧ W.drew.cell? ⟨gb, 0, none⟩ = some (.int .i64 e2.client) ∧ W.drew.cell? ⟨gb, 1, none⟩ = some (.int .u64 e2.nonce) ∧ W.drew.cell? ⟨gb, 2, none⟩ = some (.int .u64 e2.fee) ∧ W.drew.cell? ⟨gb, 3, none⟩ = some (.bool e2.good) ∧ W.drew.cell? ⟨gb, 4, none⟩ = some (.int .i64 e2.tx.kind) ∧ W.drew.cell? ⟨gb, 5, none⟩ = some (.int .i64 e2.tx.asset) ∧ W.drew.cell? ⟨gb, 6, none⟩ = some (.int .i64 e2.tx.dst) ∧ W.drew.cell? ⟨gb, 7, none⟩ = some (.bool e2.tx.buy) ∧ W.drew.cell? ⟨gb, 8, none⟩ = some (.int .u64 e2.tx.price) ∧ W.drew.cell? ⟨gb, 9, none⟩ = some (.int .u64 e2.tx.qty) ∧ W.drew.cell? ⟨gb, 10, none⟩ = some (.int .i64 e2.tx.id) := ⟨HA.out.at (i := 0) rfl, HA.out.at (i := 1) rfl, HA.out.at (i := 2) rfl, HA.out.at (i := 3) rfl, HA.out.at (i := 4) rfl, HA.out.at (i := 5) rfl, HA.out.at (i := 6) rfl, HA.out.at (i := 7) rfl, HA.out.at (i := 8) rfl, HA.out.at (i := 9) rfl, HA.out.at (i := 10) rfl, HB.out.at (i := 0) rfl, HB.out.at (i := 1) rfl, HB.out.at (i := 2) rfl, HB.out.at (i := 3) rfl, HB.out.at (i := 4) rfl, HB.out.at (i := 5) rfl, HB.out.at (i := 6) rfl, HB.out.at (i := 7) rfl, HB.out.at (i := 8) rfl, HB.out.at (i := 9) rfl, HB.out.at (i := 10) rfl⟩
  have chW : Chg [g13, g14] W W.drew := (Chg.refl _ W).drew
  have g13_0 := (H13.out).drew
  have g14_0 := (H14.out).drew
  generalize hWD : W.drew = v0 at *
  refine wpAnyH_take (i := 0) (v := ?_) rfl (by kernel_rfl) (by kernel_rfl) (by kernel_rfl) (fun c a w h => hP c a _ _ w h) (Or.inl ⟨by rfl, ?_⟩) hS ?_
  rotate_left
  · (intro w hSw; (try dsimp only at hSw); go_simp; (try (with_reducible rfl)))
  change wpAnyH _ _ _ _ _ _ _ (Act.put _ (some 48) _) _
  simp only [Act.put, List.setIfInBounds_toArray, List.set_cons_succ, List.set_cons_zero]
  refine wpAnyH_take (i := 1) (v := ?_) rfl (by kernel_rfl) (by kernel_rfl) (by kernel_rfl) (fun c a w h => hP c a _ _ w h) (Or.inl ⟨by rfl, ?_⟩) hS ?_
  rotate_left
  · (intro w hSw; (try dsimp only at hSw); go_simp; (try (with_reducible rfl)))
  change wpAnyH _ _ _ _ _ _ _ (Act.put _ (some 49) _) _
  simp only [Act.put, List.setIfInBounds_toArray, List.set_cons_succ, List.set_cons_zero]
  refine wpAnyH_take (i := 2) (v := ?_) rfl (by kernel_rfl) (by kernel_rfl) (by kernel_rfl) (fun c a w h => hP c a _ _ w h) (Or.inl ⟨by rfl, ?_⟩) hS ?_
  rotate_left
  · (intro w hSw; (try dsimp only at hSw); go_simp; (try (with_reducible rfl)))
  change wpAnyH _ _ _ _ _ _ _ (Act.put _ (some 50) _) _
  simp only [Act.put, List.setIfInBounds_toArray, List.set_cons_succ, List.set_cons_zero]
  refine wpAnyH_take (i := 3) (v := ?_) rfl (by kernel_rfl) (by kernel_rfl) (by kernel_rfl) (fun c a w h => hP c a _ _ w h) (Or.inl ⟨by rfl, ?_⟩) hS ?_
  rotate_left
  · (intro w hSw; (try dsimp only at hSw); go_simp; (try (with_reducible rfl)))
  change wpAnyH _ _ _ _ _ _ _ (Act.put _ (some 51) _) _
  simp only [Act.put, List.setIfInBounds_toArray, List.set_cons_succ, List.set_cons_zero]
  refine wpAnyH_take (i := 4) (v := ?_) rfl (by kernel_rfl) (by kernel_rfl) (by kernel_rfl) (fun c a w h => hP c a _ _ w h) (Or.inl ⟨by rfl, ?_⟩) hS ?_
  rotate_left
  · (intro w hSw; (try dsimp only at hSw); go_simp; (try (with_reducible rfl)))
  change wpAnyH _ _ _ _ _ _ _ (Act.put _ (some 52) _) _
  simp only [Act.put, List.setIfInBounds_toArray, List.set_cons_succ, List.set_cons_zero]
  refine wpAnyH_ready (rs := [5]) (by kernel_rfl) (by simp) (AllReadyH.cons rfl (fun K hK => ?_) (AllReadyH.nil))
  have hS01 := hS
  have e1_0 := g13_0.at (i := 0) rfl
  have f1_0 := g13_0.free 0
  have e1_1 := g13_0.at (i := 1) rfl
  have f1_1 := g13_0.free 1
  have e1_2 := g13_0.at (i := 2) rfl
  have f1_2 := g13_0.free 2
  have e1_3 := g13_0.at (i := 3) rfl
  have f1_3 := g13_0.free 3
  have e1_4 := g13_0.at (i := 4) rfl
  have f1_4 := g13_0.free 4
  have e1_5 := g13_0.at (i := 5) rfl
  have f1_5 := g13_0.free 5
  have e1_6 := g13_0.at (i := 6) rfl
  have f1_6 := g13_0.free 6
  have e1_7 := g13_0.at (i := 7) rfl
  have f1_7 := g13_0.free 7
  have e1_8 := g13_0.at (i := 8) rfl
  have f1_8 := g13_0.free 8
  have e1_9 := g13_0.at (i := 9) rfl
  have f1_9 := g13_0.free 9
  have e1_10 := g13_0.at (i := 10) rfl
  have f1_10 := g13_0.free 10
  have cc1 : Chg [g13] v0 (((((((((((v0.setCell ⟨g13, 0, none⟩ (.int .i64 e2.client)).setCell ⟨g13, 1, none⟩ (.int .u64 e2.nonce)).setCell ⟨g13, 2, none⟩ (.int .u64 e2.fee)).setCell ⟨g13, 3, none⟩ (.bool e2.good)).setCell ⟨g13, 4, none⟩ (.int .i64 e2.tx.kind)).setCell ⟨g13, 5, none⟩ (.int .i64 e2.tx.asset)).setCell ⟨g13, 6, none⟩ (.int .i64 e2.tx.dst)).setCell ⟨g13, 7, none⟩ (.bool e2.tx.buy)).setCell ⟨g13, 8, none⟩ (.int .u64 e2.tx.price)).setCell ⟨g13, 9, none⟩ (.int .u64 e2.tx.qty)).setCell ⟨g13, 10, none⟩ (.int .i64 e2.tx.id)) := ((((((((((((Chg.refl [g13] v0).setCell ⟨g13, 0, none⟩ (.int .i64 e2.client) (.inl (by simp))).setCell ⟨g13, 1, none⟩ (.int .u64 e2.nonce) (.inl (by simp))).setCell ⟨g13, 2, none⟩ (.int .u64 e2.fee) (.inl (by simp))).setCell ⟨g13, 3, none⟩ (.bool e2.good) (.inl (by simp))).setCell ⟨g13, 4, none⟩ (.int .i64 e2.tx.kind) (.inl (by simp))).setCell ⟨g13, 5, none⟩ (.int .i64 e2.tx.asset) (.inl (by simp))).setCell ⟨g13, 6, none⟩ (.int .i64 e2.tx.dst) (.inl (by simp))).setCell ⟨g13, 7, none⟩ (.bool e2.tx.buy) (.inl (by simp))).setCell ⟨g13, 8, none⟩ (.int .u64 e2.tx.price) (.inl (by simp))).setCell ⟨g13, 9, none⟩ (.int .u64 e2.tx.qty) (.inl (by simp))).setCell ⟨g13, 10, none⟩ (.int .i64 e2.tx.id) (.inl (by simp)))
  have Bg13_1 : Blk (((((((((((v0.setCell ⟨g13, 0, none⟩ (.int .i64 e2.client)).setCell ⟨g13, 1, none⟩ (.int .u64 e2.nonce)).setCell ⟨g13, 2, none⟩ (.int .u64 e2.fee)).setCell ⟨g13, 3, none⟩ (.bool e2.good)).setCell ⟨g13, 4, none⟩ (.int .i64 e2.tx.kind)).setCell ⟨g13, 5, none⟩ (.int .i64 e2.tx.asset)).setCell ⟨g13, 6, none⟩ (.int .i64 e2.tx.dst)).setCell ⟨g13, 7, none⟩ (.bool e2.tx.buy)).setCell ⟨g13, 8, none⟩ (.int .u64 e2.tx.price)).setCell ⟨g13, 9, none⟩ (.int .u64 e2.tx.qty)).setCell ⟨g13, 10, none⟩ (.int .i64 e2.tx.id)) g13 73 [.int .i64 e2.client, .int .u64 e2.nonce, .int .u64 e2.fee, .bool e2.good, .int .i64 e2.tx.kind, .int .i64 e2.tx.asset, .int .i64 e2.tx.dst, .bool e2.tx.buy, .int .u64 e2.tx.price, .int .u64 e2.tx.qty, .int .i64 e2.tx.id] := (((((((((((g13_0.set 0 (.int .i64 e2.client)).set 1 (.int .u64 e2.nonce)).set 2 (.int .u64 e2.fee)).set 3 (.bool e2.good)).set 4 (.int .i64 e2.tx.kind)).set 5 (.int .i64 e2.tx.asset)).set 6 (.int .i64 e2.tx.dst)).set 7 (.bool e2.tx.buy)).set 8 (.int .u64 e2.tx.price)).set 9 (.int .u64 e2.tx.qty)).set 10 (.int .i64 e2.tx.id))
  go_simp
  generalize (((((((((((v0.setCell ⟨g13, 0, none⟩ (.int .i64 e2.client)).setCell ⟨g13, 1, none⟩ (.int .u64 e2.nonce)).setCell ⟨g13, 2, none⟩ (.int .u64 e2.fee)).setCell ⟨g13, 3, none⟩ (.bool e2.good)).setCell ⟨g13, 4, none⟩ (.int .i64 e2.tx.kind)).setCell ⟨g13, 5, none⟩ (.int .i64 e2.tx.asset)).setCell ⟨g13, 6, none⟩ (.int .i64 e2.tx.dst)).setCell ⟨g13, 7, none⟩ (.bool e2.tx.buy)).setCell ⟨g13, 8, none⟩ (.int .u64 e2.tx.price)).setCell ⟨g13, 9, none⟩ (.int .u64 e2.tx.qty)).setCell ⟨g13, 10, none⟩ (.int .i64 e2.tx.id)) = v1 at *
  clear e1_0 f1_0 e1_1 f1_1 e1_2 f1_2 e1_3 f1_3 e1_4 f1_4 e1_5 f1_5 e1_6 f1_6 e1_7 f1_7 e1_8 f1_8 e1_9 f1_9 e1_10 f1_10
  have g14_1 := g14_0.chg cc1 (by simp; omega)
  have hS1 : v1.cell? ⟨ga, 0, none⟩ = some (.int .i64 e1.client) ∧ v1.cell? ⟨ga, 1, none⟩ = some (.int .u64 e1.nonce) ∧ v1.cell? ⟨ga, 2, none⟩ = some (.int .u64 e1.fee) ∧ v1.cell? ⟨ga, 3, none⟩ = some (.bool e1.good) ∧ v1.cell? ⟨ga, 4, none⟩ = some (.int .i64 e1.tx.kind) ∧ v1.cell? ⟨ga, 5, none⟩ = some (.int .i64 e1.tx.asset) ∧ v1.cell? ⟨ga, 6, none⟩ = some (.int .i64 e1.tx.dst) ∧ v1.cell? ⟨ga, 7, none⟩ = some (.bool e1.tx.buy) ∧ v1.cell? ⟨ga, 8, none⟩ = some (.int .u64 e1.tx.price) ∧ v1.cell? ⟨ga, 9, none⟩ = some (.int .u64 e1.tx.qty) ∧ v1.cell? ⟨ga, 10, none⟩ = some (.int .i64 e1.tx.id) ∧ v1.cell? ⟨gb, 0, none⟩ = some (.int .i64 e2.client) ∧ v1.cell? ⟨gb, 1, none⟩ = some (.int .u64 e2.nonce) ∧ v1.cell? ⟨gb, 2, none⟩ = some (.int .u64 e2.fee) ∧ v1.cell? ⟨gb, 3, none⟩ = some (.bool e2.good) ∧ v1.cell? ⟨gb, 4, none⟩ = some (.int .i64 e2.tx.kind) ∧ v1.cell? ⟨gb, 5, none⟩ = some (.int .i64 e2.tx.asset) ∧ v1.cell? ⟨gb, 6, none⟩ = some (.int .i64 e2.tx.dst) ∧ v1.cell? ⟨gb, 7, none⟩ = some (.bool e2.tx.buy) ∧ v1.cell? ⟨gb, 8, none⟩ = some (.int .u64 e2.tx.price) ∧ v1.cell? ⟨gb, 9, none⟩ = some (.int .u64 e2.tx.qty) ∧ v1.cell? ⟨gb, 10, none⟩ = some (.int .i64 e2.tx.id) := ⟨cc1.cell hS.1 (by simp; omega), cc1.cell hS.2.1 (by simp; omega), cc1.cell hS.2.2.1 (by simp; omega), cc1.cell hS.2.2.2.1 (by simp; omega), cc1.cell hS.2.2.2.2.1 (by simp; omega), cc1.cell hS.2.2.2.2.2.1 (by simp; omega), cc1.cell hS.2.2.2.2.2.2.1 (by simp; omega), cc1.cell hS.2.2.2.2.2.2.2.1 (by simp; omega), cc1.cell hS.2.2.2.2.2.2.2.2.1 (by simp; omega), cc1.cell hS.2.2.2.2.2.2.2.2.2.1 (by simp; omega), cc1.cell hS.2.2.2.2.2.2.2.2.2.2.1 (by simp; omega), cc1.cell hS.2.2.2.2.2.2.2.2.2.2.2.1 (by simp; omega), cc1.cell hS.2.2.2.2.2.2.2.2.2.2.2.2.1 (by simp; omega), cc1.cell hS.2.2.2.2.2.2.2.2.2.2.2.2.2.1 (by simp; omega), cc1.cell hS.2.2.2.2.2.2.2.2.2.2.2.2.2.2.1 (by simp; omega), cc1.cell hS.2.2.2.2.2.2.2.2.2.2.2.2.2.2.2.1 (by simp; omega), cc1.cell hS.2.2.2.2.2.2.2.2.2.2.2.2.2.2.2.2.1 (by simp; omega), cc1.cell hS.2.2.2.2.2.2.2.2.2.2.2.2.2.2.2.2.2.1 (by simp; omega), cc1.cell hS.2.2.2.2.2.2.2.2.2.2.2.2.2.2.2.2.2.2.1 (by simp; omega), cc1.cell hS.2.2.2.2.2.2.2.2.2.2.2.2.2.2.2.2.2.2.2.1 (by simp; omega), cc1.cell hS.2.2.2.2.2.2.2.2.2.2.2.2.2.2.2.2.2.2.2.2.1 (by simp; omega), cc1.cell hS.2.2.2.2.2.2.2.2.2.2.2.2.2.2.2.2.2.2.2.2.2 (by simp; omega)⟩
  have ch1 := (chW).trans' cc1 (fun z hz => .inl (by simp at hz; simp [hz]))
  refine hK.out _ _ hS1 (fun hHeld => ?_)
  clear hK K
  try simp only [Act.put, List.setIfInBounds_toArray, List.set_cons_succ, List.set_cons_zero]
  refine wpAnyH_ready (rs := [6]) (by kernel_rfl) (by simp) (AllReadyH.cons rfl (fun K hK => ?_) (AllReadyH.nil))
  have hS02 := hS1
  have e2_0 := g14_1.at (i := 0) rfl
  have f2_0 := g14_1.free 0
  have e2_1 := g14_1.at (i := 1) rfl
  have f2_1 := g14_1.free 1
  have e2_2 := g14_1.at (i := 2) rfl
  have f2_2 := g14_1.free 2
  have e2_3 := g14_1.at (i := 3) rfl
  have f2_3 := g14_1.free 3
  have e2_4 := g14_1.at (i := 4) rfl
  have f2_4 := g14_1.free 4
  have e2_5 := g14_1.at (i := 5) rfl
  have f2_5 := g14_1.free 5
  have e2_6 := g14_1.at (i := 6) rfl
  have f2_6 := g14_1.free 6
  have e2_7 := g14_1.at (i := 7) rfl
  have f2_7 := g14_1.free 7
  have e2_8 := g14_1.at (i := 8) rfl
  have f2_8 := g14_1.free 8
  have e2_9 := g14_1.at (i := 9) rfl
  have f2_9 := g14_1.free 9
  have e2_10 := g14_1.at (i := 10) rfl
  have f2_10 := g14_1.free 10
  have cc2 : Chg [g14] v1 (((((((((((v1.setCell ⟨g14, 0, none⟩ (.int .i64 e1.client)).setCell ⟨g14, 1, none⟩ (.int .u64 e1.nonce)).setCell ⟨g14, 2, none⟩ (.int .u64 e1.fee)).setCell ⟨g14, 3, none⟩ (.bool e1.good)).setCell ⟨g14, 4, none⟩ (.int .i64 e1.tx.kind)).setCell ⟨g14, 5, none⟩ (.int .i64 e1.tx.asset)).setCell ⟨g14, 6, none⟩ (.int .i64 e1.tx.dst)).setCell ⟨g14, 7, none⟩ (.bool e1.tx.buy)).setCell ⟨g14, 8, none⟩ (.int .u64 e1.tx.price)).setCell ⟨g14, 9, none⟩ (.int .u64 e1.tx.qty)).setCell ⟨g14, 10, none⟩ (.int .i64 e1.tx.id)) := ((((((((((((Chg.refl [g14] v1).setCell ⟨g14, 0, none⟩ (.int .i64 e1.client) (.inl (by simp))).setCell ⟨g14, 1, none⟩ (.int .u64 e1.nonce) (.inl (by simp))).setCell ⟨g14, 2, none⟩ (.int .u64 e1.fee) (.inl (by simp))).setCell ⟨g14, 3, none⟩ (.bool e1.good) (.inl (by simp))).setCell ⟨g14, 4, none⟩ (.int .i64 e1.tx.kind) (.inl (by simp))).setCell ⟨g14, 5, none⟩ (.int .i64 e1.tx.asset) (.inl (by simp))).setCell ⟨g14, 6, none⟩ (.int .i64 e1.tx.dst) (.inl (by simp))).setCell ⟨g14, 7, none⟩ (.bool e1.tx.buy) (.inl (by simp))).setCell ⟨g14, 8, none⟩ (.int .u64 e1.tx.price) (.inl (by simp))).setCell ⟨g14, 9, none⟩ (.int .u64 e1.tx.qty) (.inl (by simp))).setCell ⟨g14, 10, none⟩ (.int .i64 e1.tx.id) (.inl (by simp)))
  have Bg14_2 : Blk (((((((((((v1.setCell ⟨g14, 0, none⟩ (.int .i64 e1.client)).setCell ⟨g14, 1, none⟩ (.int .u64 e1.nonce)).setCell ⟨g14, 2, none⟩ (.int .u64 e1.fee)).setCell ⟨g14, 3, none⟩ (.bool e1.good)).setCell ⟨g14, 4, none⟩ (.int .i64 e1.tx.kind)).setCell ⟨g14, 5, none⟩ (.int .i64 e1.tx.asset)).setCell ⟨g14, 6, none⟩ (.int .i64 e1.tx.dst)).setCell ⟨g14, 7, none⟩ (.bool e1.tx.buy)).setCell ⟨g14, 8, none⟩ (.int .u64 e1.tx.price)).setCell ⟨g14, 9, none⟩ (.int .u64 e1.tx.qty)).setCell ⟨g14, 10, none⟩ (.int .i64 e1.tx.id)) g14 73 [.int .i64 e1.client, .int .u64 e1.nonce, .int .u64 e1.fee, .bool e1.good, .int .i64 e1.tx.kind, .int .i64 e1.tx.asset, .int .i64 e1.tx.dst, .bool e1.tx.buy, .int .u64 e1.tx.price, .int .u64 e1.tx.qty, .int .i64 e1.tx.id] := (((((((((((g14_1.set 0 (.int .i64 e1.client)).set 1 (.int .u64 e1.nonce)).set 2 (.int .u64 e1.fee)).set 3 (.bool e1.good)).set 4 (.int .i64 e1.tx.kind)).set 5 (.int .i64 e1.tx.asset)).set 6 (.int .i64 e1.tx.dst)).set 7 (.bool e1.tx.buy)).set 8 (.int .u64 e1.tx.price)).set 9 (.int .u64 e1.tx.qty)).set 10 (.int .i64 e1.tx.id))
  go_simp
  generalize (((((((((((v1.setCell ⟨g14, 0, none⟩ (.int .i64 e1.client)).setCell ⟨g14, 1, none⟩ (.int .u64 e1.nonce)).setCell ⟨g14, 2, none⟩ (.int .u64 e1.fee)).setCell ⟨g14, 3, none⟩ (.bool e1.good)).setCell ⟨g14, 4, none⟩ (.int .i64 e1.tx.kind)).setCell ⟨g14, 5, none⟩ (.int .i64 e1.tx.asset)).setCell ⟨g14, 6, none⟩ (.int .i64 e1.tx.dst)).setCell ⟨g14, 7, none⟩ (.bool e1.tx.buy)).setCell ⟨g14, 8, none⟩ (.int .u64 e1.tx.price)).setCell ⟨g14, 9, none⟩ (.int .u64 e1.tx.qty)).setCell ⟨g14, 10, none⟩ (.int .i64 e1.tx.id)) = v2 at *
  clear e2_0 f2_0 e2_1 f2_1 e2_2 f2_2 e2_3 f2_3 e2_4 f2_4 e2_5 f2_5 e2_6 f2_6 e2_7 f2_7 e2_8 f2_8 e2_9 f2_9 e2_10 f2_10
  have g13_2 := Bg13_1.chg cc2 (by simp; omega)
  have hS2 : v2.cell? ⟨ga, 0, none⟩ = some (.int .i64 e1.client) ∧ v2.cell? ⟨ga, 1, none⟩ = some (.int .u64 e1.nonce) ∧ v2.cell? ⟨ga, 2, none⟩ = some (.int .u64 e1.fee) ∧ v2.cell? ⟨ga, 3, none⟩ = some (.bool e1.good) ∧ v2.cell? ⟨ga, 4, none⟩ = some (.int .i64 e1.tx.kind) ∧ v2.cell? ⟨ga, 5, none⟩ = some (.int .i64 e1.tx.asset) ∧ v2.cell? ⟨ga, 6, none⟩ = some (.int .i64 e1.tx.dst) ∧ v2.cell? ⟨ga, 7, none⟩ = some (.bool e1.tx.buy) ∧ v2.cell? ⟨ga, 8, none⟩ = some (.int .u64 e1.tx.price) ∧ v2.cell? ⟨ga, 9, none⟩ = some (.int .u64 e1.tx.qty) ∧ v2.cell? ⟨ga, 10, none⟩ = some (.int .i64 e1.tx.id) ∧ v2.cell? ⟨gb, 0, none⟩ = some (.int .i64 e2.client) ∧ v2.cell? ⟨gb, 1, none⟩ = some (.int .u64 e2.nonce) ∧ v2.cell? ⟨gb, 2, none⟩ = some (.int .u64 e2.fee) ∧ v2.cell? ⟨gb, 3, none⟩ = some (.bool e2.good) ∧ v2.cell? ⟨gb, 4, none⟩ = some (.int .i64 e2.tx.kind) ∧ v2.cell? ⟨gb, 5, none⟩ = some (.int .i64 e2.tx.asset) ∧ v2.cell? ⟨gb, 6, none⟩ = some (.int .i64 e2.tx.dst) ∧ v2.cell? ⟨gb, 7, none⟩ = some (.bool e2.tx.buy) ∧ v2.cell? ⟨gb, 8, none⟩ = some (.int .u64 e2.tx.price) ∧ v2.cell? ⟨gb, 9, none⟩ = some (.int .u64 e2.tx.qty) ∧ v2.cell? ⟨gb, 10, none⟩ = some (.int .i64 e2.tx.id) := ⟨cc2.cell hS1.1 (by simp; omega), cc2.cell hS1.2.1 (by simp; omega), cc2.cell hS1.2.2.1 (by simp; omega), cc2.cell hS1.2.2.2.1 (by simp; omega), cc2.cell hS1.2.2.2.2.1 (by simp; omega), cc2.cell hS1.2.2.2.2.2.1 (by simp; omega), cc2.cell hS1.2.2.2.2.2.2.1 (by simp; omega), cc2.cell hS1.2.2.2.2.2.2.2.1 (by simp; omega), cc2.cell hS1.2.2.2.2.2.2.2.2.1 (by simp; omega), cc2.cell hS1.2.2.2.2.2.2.2.2.2.1 (by simp; omega), cc2.cell hS1.2.2.2.2.2.2.2.2.2.2.1 (by simp; omega), cc2.cell hS1.2.2.2.2.2.2.2.2.2.2.2.1 (by simp; omega), cc2.cell hS1.2.2.2.2.2.2.2.2.2.2.2.2.1 (by simp; omega), cc2.cell hS1.2.2.2.2.2.2.2.2.2.2.2.2.2.1 (by simp; omega), cc2.cell hS1.2.2.2.2.2.2.2.2.2.2.2.2.2.2.1 (by simp; omega), cc2.cell hS1.2.2.2.2.2.2.2.2.2.2.2.2.2.2.2.1 (by simp; omega), cc2.cell hS1.2.2.2.2.2.2.2.2.2.2.2.2.2.2.2.2.1 (by simp; omega), cc2.cell hS1.2.2.2.2.2.2.2.2.2.2.2.2.2.2.2.2.2.1 (by simp; omega), cc2.cell hS1.2.2.2.2.2.2.2.2.2.2.2.2.2.2.2.2.2.2.1 (by simp; omega), cc2.cell hS1.2.2.2.2.2.2.2.2.2.2.2.2.2.2.2.2.2.2.2.1 (by simp; omega), cc2.cell hS1.2.2.2.2.2.2.2.2.2.2.2.2.2.2.2.2.2.2.2.2.1 (by simp; omega), cc2.cell hS1.2.2.2.2.2.2.2.2.2.2.2.2.2.2.2.2.2.2.2.2.2 (by simp; omega)⟩
  have ch2 := (ch1).trans' cc2 (fun z hz => .inl (by simp at hz; simp [hz]))
  refine hK.out _ _ hS2 (fun hHeld => ?_)
  clear hK K
  try simp only [Act.put, List.setIfInBounds_toArray, List.set_cons_succ, List.set_cons_zero]
  refine wpAnyH_take (i := 7) (v := ?_) rfl (by kernel_rfl) (by kernel_rfl) (by kernel_rfl) (fun c a w h => hP c a _ _ w h) (Or.inl ⟨by rfl, ?_⟩) hS2 ?_
  rotate_left
  · (intro w hSw; (try dsimp only at hSw); go_simp; (try (with_reducible rfl)))
  change wpAnyH _ _ _ _ _ _ _ (Act.put _ (some 12) _) _
  simp only [Act.put, List.setIfInBounds_toArray, List.set_cons_succ, List.set_cons_zero]
  refine wpAnyH_done (by kernel_rfl) ?_ _
  exact hQ _ g13_2 Bg14_2 ch2 _ _ _ _ _
end Go.Proofs.Yteabcpmpcbjicaa
