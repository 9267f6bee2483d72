
import Derived.Test.YteabcpmpcbjicaaGreatEntw
import Derived.Deep.DrawnRows
import Derived.Deep.RegionHeld3
namespace Go.Proofs.YteabcpmpcbjicaaGreat
set_option linter.unusedVariables false
set_option linter.unusedSimpArgs false
open Go Go.Proofs Go.RowKit
attribute [local go_sem ↓] Go.wp_at_zero Go.wp_at_succ

set_option maxRecDepth 1000000 in
set_option maxHeartbeats 8000000 in
theorem sums_ent {Q : Exit → Act → World → Prop} {u0 u2 u3 u4 u7 u8 u9 u10 u11 u12 u13 u14 u15 u16 u17 u18 u19 u20 u21 u22 u23 u24 u25 u26 u27 u28 u29 u30 u31 u32 u33 u34 u35 u36 u37 u38 u39 u40 u41 u42 u43 u44 u45 u46 u47 u48 u49 u50 u51 u52 u53 u54 u55 u56 u57 u58 u59 u60 u61 u62 u63 u64 u65 u66 u67 u68 u69 u70 u71 u72 u73 u74 u75 u76 u77 u78 u79 u80 u81 u82 u83 u84 u85 u86 u87 u88 u89 u90 u91 u92 u93 u94 u95 u96 u97 u98 u99 u100 u101 u102 u103 u104 u105 u106 u107 u108 u109 u110 u111 u112 u113 u114 u115 u116 u117 u118 u119 u120 u121 u122 u123 u124 u125 u126 u127 u128 u129 u130 u131 u132 u133 u134 u135 u136 u137 u138 u139 u140 u141 u142 u143 u144 u145 u146 u147 u148 u149 u150 u151 u152 u153 u154 u155 u156 u157 u158 u159 u160 u161 u162 u163 u164 u165 u166 u167 u168 u169 u170 u171 u172 u173 u174 u175 u176 u177 u178 u179 u180 u181 u182 u183 u184 u185 : Value} (hP : ∀ c a d v w, Q (.panic c) (Act.put a d v) w → Q (.panic c) a w) {w W : World} {l n0 : Nat} {FF : List Nat} {S : LS} {tl b off j n cap : Nat} {na nb : Int} (HX : Hid (LedX w W l n0 FF S tl)) (lb : b < W.heap.size) (s1 : W.cell? ⟨b, off + j, none⟩ = some (.int .u64 na)) (s2 : W.cell? ⟨b, off + (j + 1), none⟩ = some (.int .u64 nb)) (HU1 : Hid (U na)) (HU2 : Hid (U nb)) (i0 : (0 : Int) ≤ (j : Int)) (i1 : (j : Int) + 1 < (n : Int)) (i2 : (j : Int) < (n : Int)) (i3 : (0 : Int) ≤ (j : Int) + 1) (wj : IntKind.i64.wrap ((j : Int) + 1) = (j : Int) + 1)
    (hQ : ∀ (v : World) (gE : Nat) (e : Ent) (_ : e.Ok) (_ : Blk v gE 51 (ec e)) (_ : Chg [] W v) (_ : W.heap.size ≤ gE) (x31 x32 x33 x34 x35 x36 x37 x38 x39 x40 x41 x42 : Value), Q .normal ⟨#[u0, .slice (some ⟨b, off, none⟩) n cap, u2, u3, u4, .pointer (some ⟨l, 0, none⟩), .int .i64 j, .pointer (some ⟨gE, 0, none⟩), u8, u9, u10, u11, u12, u13, u14, u15, u16, u17, u18, u19, u20, u21, u22, u23, u24, u25, u26, u27, u28, u29, u30, x31, x32, x33, x34, x35, x36, x37, x38, x39, x40, x41, x42, u43, u44, u45, u46, u47, u48, u49, u50, u51, u52, u53, u54, u55, u56, u57, u58, u59, u60, u61, u62, u63, u64, u65, u66, u67, u68, u69, u70, u71, u72, u73, u74, u75, u76, u77, u78, u79, u80, u81, u82, u83, u84, u85, u86, u87, u88, u89, u90, u91, u92, u93, u94, u95, u96, u97, u98, u99, u100, u101, u102, u103, u104, u105, u106, u107, u108, u109, u110, u111, u112, u113, u114, u115, u116, u117, u118, u119, u120, u121, u122, u123, u124, u125, u126, u127, u128, u129, u130, u131, u132, u133, u134, u135, u136, u137, u138, u139, u140, u141, u142, u143, u144, u145, u146, u147, u148, u149, u150, u151, u152, u153, u154, u155, u156, u157, u158, u159, u160, u161, u162, u163, u164, u165, u166, u167, u168, u169, u170, u171, u172, u173, u174, u175, u176, u177, u178, u179, u180, u181, u182, u183, u184, u185], []⟩ v) :
    Code.wp Tryz.prog (regionOf Tryz.f7 7) Q ⟨#[u0, .slice (some ⟨b, off, none⟩) n cap, u2, u3, u4, .pointer (some ⟨l, 0, none⟩), .int .i64 j, u7, u8, u9, u10, u11, u12, u13, u14, u15, u16, u17, u18, u19, u20, u21, u22, u23, u24, u25, u26, u27, u28, u29, u30, u31, u32, u33, u34, u35, u36, u37, u38, u39, u40, u41, u42, u43, u44, u45, u46, u47, u48, u49, u50, u51, u52, u53, u54, u55, u56, u57, u58, u59, u60, u61, u62, u63, u64, u65, u66, u67, u68, u69, u70, u71, u72, u73, u74, u75, u76, u77, u78, u79, u80, u81, u82, u83, u84, u85, u86, u87, u88, u89, u90, u91, u92, u93, u94, u95, u96, u97, u98, u99, u100, u101, u102, u103, u104, u105, u106, u107, u108, u109, u110, u111, u112, u113, u114, u115, u116, u117, u118, u119, u120, u121, u122, u123, u124, u125, u126, u127, u128, u129, u130, u131, u132, u133, u134, u135, u136, u137, u138, u139, u140, u141, u142, u143, u144, u145, u146, u147, u148, u149, u150, u151, u152, u153, u154, u155, u156, u157, u158, u159, u160, u161, u162, u163, u164, u165, u166, u167, u168, u169, u170, u171, u172, u173, u174, u175, u176, u177, u178, u179, u180, u181, u182, u183, u184, u185], []⟩ W := by
  conv => arg 2; whnf
  refine wp_region_held_drew (S := (fun w' => w'.cell? ⟨b, off + j, none⟩ = some (.int .u64 na) ∧ w'.cell? ⟨b, off + (j + 1), none⟩ = some (.int .u64 nb))) (by kernel_rfl) ⟨s1, s2⟩ (fun _ => ?_)
  have hS : W.drew.cell? ⟨b, off + j, none⟩ = some (.int .u64 na) ∧ W.drew.cell? ⟨b, off + (j + 1), none⟩ = some (.int .u64 nb) := ⟨s1, s2⟩
  have chW : Chg [] W W.drew := (Chg.refl _ W).drew
  have LED_0 := (HX.out.to (Chg.refl [] W).drew)
  generalize hWD : W.drew = v0 at *
  refine wpAnyH_take (i := 0) (v := ?_) rfl (by kernel_rfl) (by kernel_rfl) (by kernel_rfl) (fun c a w h => hP c a _ _ w h) (Or.inl ⟨by rfl, ?_⟩) hS ?_
  rotate_left
  · (intro w hSw; (try dsimp only at hSw); go_simp; (try (with_reducible rfl)))
  change wpAnyH _ _ _ _ _ _ _ (Act.put _ (some 31) _) _
  simp only [Act.put, List.setIfInBounds_toArray, List.set_cons_succ, List.set_cons_zero]
  refine wpAnyH_take (i := 1) (v := ?_) rfl (by kernel_rfl) (by kernel_rfl) (by kernel_rfl) (fun c a w h => hP c a _ _ w h) (Or.inl ⟨by rfl, ?_⟩) hS ?_
  rotate_left
  · (intro w hSw; (try dsimp only at hSw); go_simp; (try (with_reducible rfl)))
  change wpAnyH _ _ _ _ _ _ _ (Act.put _ (some 32) _) _
  simp only [Act.put, List.setIfInBounds_toArray, List.set_cons_succ, List.set_cons_zero]
  refine wpAnyH_take (i := 2) (v := ?_) rfl (by kernel_rfl) (by kernel_rfl) (by kernel_rfl) (fun c a w h => hP c a _ _ w h) (Or.inl ⟨by rfl, ?_⟩) hS ?_
  rotate_left
  · (intro w hSw; (try dsimp only at hSw); go_simp; (try (with_reducible rfl)))
  change wpAnyH _ _ _ _ _ _ _ (Act.put _ (some 33) _) _
  simp only [Act.put, List.setIfInBounds_toArray, List.set_cons_succ, List.set_cons_zero]
  refine wpAnyH_take (i := 3) (v := ?_) rfl (by kernel_rfl) (by kernel_rfl) (by kernel_rfl) (fun c a w h => hP c a _ _ w h) (Or.inl ⟨by rfl, ?_⟩) hS ?_
  rotate_left
  · (intro w hSw; (try dsimp only at hSw); go_simp; (try (with_reducible rfl)))
  change wpAnyH _ _ _ _ _ _ _ (Act.put _ (some 34) _) _
  simp only [Act.put, List.setIfInBounds_toArray, List.set_cons_succ, List.set_cons_zero]
  refine wpAnyH_take (i := 4) (v := ?_) rfl (by kernel_rfl) (by kernel_rfl) (by kernel_rfl) (fun c a w h => hP c a _ _ w h) (Or.inl ⟨by rfl, ?_⟩) hS ?_
  rotate_left
  · (intro w hSw; (try dsimp only at hSw); go_simp; (try (with_reducible rfl)))
  change wpAnyH _ _ _ _ _ _ _ (Act.put _ (some 35) _) _
  simp only [Act.put, List.setIfInBounds_toArray, List.set_cons_succ, List.set_cons_zero]
  refine wpAnyH_take (i := 5) (v := ?_) rfl (by kernel_rfl) (by kernel_rfl) (by kernel_rfl) (fun c a w h => hP c a _ _ w h) (Or.inl ⟨by rfl, ?_⟩) hS ?_
  rotate_left
  · (intro w hSw; (try dsimp only at hSw); go_simp; (try (with_reducible rfl)))
  change wpAnyH _ _ _ _ _ _ _ (Act.put _ (some 36) _) _
  simp only [Act.put, List.setIfInBounds_toArray, List.set_cons_succ, List.set_cons_zero]
  refine wpAnyH_take (i := 6) (v := ?_) rfl (by kernel_rfl) (by kernel_rfl) (by kernel_rfl) (fun c a w h => hP c a _ _ w h) (Or.inl ⟨by rfl, ?_⟩) hS ?_
  rotate_left
  · (intro w hSw; (try dsimp only at hSw); go_simp; (try (with_reducible rfl)))
  change wpAnyH _ _ _ _ _ _ _ (Act.put _ (some 37) _) _
  simp only [Act.put, List.setIfInBounds_toArray, List.set_cons_succ, List.set_cons_zero]
  refine wpAnyH_take (i := 7) (v := ?_) rfl (by kernel_rfl) (by kernel_rfl) (by kernel_rfl) (fun c a w h => hP c a _ _ w h) (Or.inl ⟨by rfl, ?_⟩) hS ?_
  rotate_left
  · (intro w hSw; (try dsimp only at hSw); go_simp; (try (with_reducible rfl)))
  change wpAnyH _ _ _ _ _ _ _ (Act.put _ (some 38) _) _
  simp only [Act.put, List.setIfInBounds_toArray, List.set_cons_succ, List.set_cons_zero]
  refine wpAnyH_take (i := 8) (v := ?_) rfl (by kernel_rfl) (by kernel_rfl) (by kernel_rfl) (fun c a w h => hP c a _ _ w h) (Or.inl ⟨by rfl, ?_⟩) hS ?_
  rotate_left
  · (intro w hSw; (try dsimp only at hSw); go_simp; (try (with_reducible rfl)))
  change wpAnyH _ _ _ _ _ _ _ (Act.put _ (some 39) _) _
  simp only [Act.put, List.setIfInBounds_toArray, List.set_cons_succ, List.set_cons_zero]
  refine wpAnyH_take (i := 9) (v := ?_) rfl (by kernel_rfl) (by kernel_rfl) (by kernel_rfl) (fun c a w h => hP c a _ _ w h) (Or.inl ⟨by rfl, ?_⟩) hS ?_
  rotate_left
  · (intro w hSw; (try dsimp only at hSw); go_simp; (try (with_reducible rfl)))
  change wpAnyH _ _ _ _ _ _ _ (Act.put _ (some 40) _) _
  simp only [Act.put, List.setIfInBounds_toArray, List.set_cons_succ, List.set_cons_zero]
  refine wpAnyH_take (i := 10) (v := ?_) rfl (by kernel_rfl) (by kernel_rfl) (by kernel_rfl) (fun c a w h => hP c a _ _ w h) (Or.inl ⟨by rfl, ?_⟩) hS ?_
  rotate_left
  · (intro w hSw; (try dsimp only at hSw); go_simp; (try (with_reducible rfl)))
  change wpAnyH _ _ _ _ _ _ _ (Act.put _ (some 41) _) _
  simp only [Act.put, List.setIfInBounds_toArray, List.set_cons_succ, List.set_cons_zero]
  refine wpAnyH_ready (rs := [11, 12]) (by kernel_rfl) (by simp) (AllReadyH.cons rfl (fun K hK => ?_) (AllReadyH.cons rfl (fun K hK => ?_) (AllReadyH.nil)))
  · skip
    have hS01 := hS
    go_simp
    refine (entry_any LED_0 na nb HU1.out HU2.out).mono ?_
    rintro y v1 ⟨e, rfl, he, cc1⟩
    have LED1 := LED_0.to cc1
    have hS1 : v1.cell? ⟨b, off + j, none⟩ = some (.int .u64 na) ∧ v1.cell? ⟨b, off + (j + 1), none⟩ = some (.int .u64 nb) := ⟨cc1.cell hS.1 (by simp), cc1.cell hS.2 (by simp)⟩
    have ch1 := (chW).trans' cc1 (by simp)
    go_wp2_with fail
    refine hK.out _ _ hS1 (fun hHeld => ?_)
    clear hK K
    try simp only [Act.put, List.setIfInBounds_toArray, List.set_cons_succ, List.set_cons_zero]
    refine wpAnyH_ready (rs := [12]) (by kernel_rfl) (by simp) (AllReadyH.cons rfl (fun K hK => ?_) (AllReadyH.nil))
    have hS02 := hS1
    have cc2 : Chg [] v1 (v1.alloc (.cells #[.int .i64 0, .int .u64 0, .int .u64 0, .bool false, .int .i64 0, .int .i64 0, .int .i64 0, .bool false, .int .u64 0, .int .u64 0, .int .i64 0] 51)) := (Chg.refl _ _).alloc _
    have Bg7 : Blk (v1.alloc (.cells #[.int .i64 0, .int .u64 0, .int .u64 0, .bool false, .int .i64 0, .int .i64 0, .int .i64 0, .bool false, .int .u64 0, .int .u64 0, .int .i64 0] 51)) v1.heap.size 51 [.int .i64 0, .int .u64 0, .int .u64 0, .bool false, .int .i64 0, .int .i64 0, .int .i64 0, .bool false, .int .u64 0, .int .u64 0, .int .i64 0] := Blk.new _ _ _
    have Lg7 := ch1.size
    have sz_2 := cc2.size
    go_simp
    generalize hg7 : v1.heap.size = g7 at *
    generalize v1.alloc _ = v2 at *
    have LED2 := LED1.to cc2
    have EOK2 := he
    have hS2 : v2.cell? ⟨b, off + j, none⟩ = some (.int .u64 na) ∧ v2.cell? ⟨b, off + (j + 1), none⟩ = some (.int .u64 nb) := ⟨cc2.cell hS1.1 (by simp), cc2.cell hS1.2 (by simp)⟩
    have ch2 := (ch1).trans' cc2 (by simp)
    refine hK.out _ _ hS2 (fun hHeld => ?_)
    clear hK K
    try simp only [Act.put, List.setIfInBounds_toArray, List.set_cons_succ, List.set_cons_zero]
    refine wpAnyH_ready (rs := [13]) (by kernel_rfl) (by simp) (AllReadyH.cons rfl (fun K hK => ?_) (AllReadyH.nil))
    have hS03 := hS2
    have e3_0 := Bg7.at (i := 0) rfl
    have f3_0 := Bg7.free 0
    have e3_1 := Bg7.at (i := 1) rfl
    have f3_1 := Bg7.free 1
    have e3_2 := Bg7.at (i := 2) rfl
    have f3_2 := Bg7.free 2
    have e3_3 := Bg7.at (i := 3) rfl
    have f3_3 := Bg7.free 3
    have e3_4 := Bg7.at (i := 4) rfl
    have f3_4 := Bg7.free 4
    have e3_5 := Bg7.at (i := 5) rfl
    have f3_5 := Bg7.free 5
    have e3_6 := Bg7.at (i := 6) rfl
    have f3_6 := Bg7.free 6
    have e3_7 := Bg7.at (i := 7) rfl
    have f3_7 := Bg7.free 7
    have e3_8 := Bg7.at (i := 8) rfl
    have f3_8 := Bg7.free 8
    have e3_9 := Bg7.at (i := 9) rfl
    have f3_9 := Bg7.free 9
    have e3_10 := Bg7.at (i := 10) rfl
    have f3_10 := Bg7.free 10
    have cc3 : Chg [g7] v2 (((((((((((v2.setCell ⟨g7, 0, none⟩ (.int .i64 e.client)).setCell ⟨g7, 1, none⟩ (.int .u64 e.nonce)).setCell ⟨g7, 2, none⟩ (.int .u64 e.fee)).setCell ⟨g7, 3, none⟩ (.bool e.good)).setCell ⟨g7, 4, none⟩ (.int .i64 e.tx.kind)).setCell ⟨g7, 5, none⟩ (.int .i64 e.tx.asset)).setCell ⟨g7, 6, none⟩ (.int .i64 e.tx.dst)).setCell ⟨g7, 7, none⟩ (.bool e.tx.buy)).setCell ⟨g7, 8, none⟩ (.int .u64 e.tx.price)).setCell ⟨g7, 9, none⟩ (.int .u64 e.tx.qty)).setCell ⟨g7, 10, none⟩ (.int .i64 e.tx.id)) := ((((((((((((Chg.refl [g7] v2).setCell ⟨g7, 0, none⟩ (.int .i64 e.client) (.inl (by simp))).setCell ⟨g7, 1, none⟩ (.int .u64 e.nonce) (.inl (by simp))).setCell ⟨g7, 2, none⟩ (.int .u64 e.fee) (.inl (by simp))).setCell ⟨g7, 3, none⟩ (.bool e.good) (.inl (by simp))).setCell ⟨g7, 4, none⟩ (.int .i64 e.tx.kind) (.inl (by simp))).setCell ⟨g7, 5, none⟩ (.int .i64 e.tx.asset) (.inl (by simp))).setCell ⟨g7, 6, none⟩ (.int .i64 e.tx.dst) (.inl (by simp))).setCell ⟨g7, 7, none⟩ (.bool e.tx.buy) (.inl (by simp))).setCell ⟨g7, 8, none⟩ (.int .u64 e.tx.price) (.inl (by simp))).setCell ⟨g7, 9, none⟩ (.int .u64 e.tx.qty) (.inl (by simp))).setCell ⟨g7, 10, none⟩ (.int .i64 e.tx.id) (.inl (by simp)))
    have Bg7_3 : Blk (((((((((((v2.setCell ⟨g7, 0, none⟩ (.int .i64 e.client)).setCell ⟨g7, 1, none⟩ (.int .u64 e.nonce)).setCell ⟨g7, 2, none⟩ (.int .u64 e.fee)).setCell ⟨g7, 3, none⟩ (.bool e.good)).setCell ⟨g7, 4, none⟩ (.int .i64 e.tx.kind)).setCell ⟨g7, 5, none⟩ (.int .i64 e.tx.asset)).setCell ⟨g7, 6, none⟩ (.int .i64 e.tx.dst)).setCell ⟨g7, 7, none⟩ (.bool e.tx.buy)).setCell ⟨g7, 8, none⟩ (.int .u64 e.tx.price)).setCell ⟨g7, 9, none⟩ (.int .u64 e.tx.qty)).setCell ⟨g7, 10, none⟩ (.int .i64 e.tx.id)) g7 51 [.int .i64 e.client, .int .u64 e.nonce, .int .u64 e.fee, .bool e.good, .int .i64 e.tx.kind, .int .i64 e.tx.asset, .int .i64 e.tx.dst, .bool e.tx.buy, .int .u64 e.tx.price, .int .u64 e.tx.qty, .int .i64 e.tx.id] := (((((((((((Bg7.set 0 (.int .i64 e.client)).set 1 (.int .u64 e.nonce)).set 2 (.int .u64 e.fee)).set 3 (.bool e.good)).set 4 (.int .i64 e.tx.kind)).set 5 (.int .i64 e.tx.asset)).set 6 (.int .i64 e.tx.dst)).set 7 (.bool e.tx.buy)).set 8 (.int .u64 e.tx.price)).set 9 (.int .u64 e.tx.qty)).set 10 (.int .i64 e.tx.id))
    go_simp
    generalize (((((((((((v2.setCell ⟨g7, 0, none⟩ (.int .i64 e.client)).setCell ⟨g7, 1, none⟩ (.int .u64 e.nonce)).setCell ⟨g7, 2, none⟩ (.int .u64 e.fee)).setCell ⟨g7, 3, none⟩ (.bool e.good)).setCell ⟨g7, 4, none⟩ (.int .i64 e.tx.kind)).setCell ⟨g7, 5, none⟩ (.int .i64 e.tx.asset)).setCell ⟨g7, 6, none⟩ (.int .i64 e.tx.dst)).setCell ⟨g7, 7, none⟩ (.bool e.tx.buy)).setCell ⟨g7, 8, none⟩ (.int .u64 e.tx.price)).setCell ⟨g7, 9, none⟩ (.int .u64 e.tx.qty)).setCell ⟨g7, 10, none⟩ (.int .i64 e.tx.id)) = v3 at *
    clear e3_0 f3_0 e3_1 f3_1 e3_2 f3_2 e3_3 f3_3 e3_4 f3_4 e3_5 f3_5 e3_6 f3_6 e3_7 f3_7 e3_8 f3_8 e3_9 f3_9 e3_10 f3_10
    have EOK3 := EOK2
    have hS3 : v3.cell? ⟨b, off + j, none⟩ = some (.int .u64 na) ∧ v3.cell? ⟨b, off + (j + 1), none⟩ = some (.int .u64 nb) := ⟨cc3.cell hS2.1 (by simp; omega), cc3.cell hS2.2 (by simp; omega)⟩
    have ch3 := (ch2).trans' cc3 (fun z hz => .inr (by simp at hz; subst hz; omega))
    refine hK.out _ _ hS3 (fun hHeld => ?_)
    clear hK K
    try simp only [Act.put, List.setIfInBounds_toArray, List.set_cons_succ, List.set_cons_zero]
    refine wpAnyH_done (by kernel_rfl) ?_ _
    exact hQ _ _ e EOK3 Bg7_3 ch3 (by omega) _ _ _ _ _ _ _ _ _ _ _ _
  · skip
    have hS01 := hS
    have cc1 : Chg [] v0 (v0.alloc (.cells #[.int .i64 0, .int .u64 0, .int .u64 0, .bool false, .int .i64 0, .int .i64 0, .int .i64 0, .bool false, .int .u64 0, .int .u64 0, .int .i64 0] 51)) := (Chg.refl _ _).alloc _
    have Bg7 : Blk (v0.alloc (.cells #[.int .i64 0, .int .u64 0, .int .u64 0, .bool false, .int .i64 0, .int .i64 0, .int .i64 0, .bool false, .int .u64 0, .int .u64 0, .int .i64 0] 51)) v0.heap.size 51 [.int .i64 0, .int .u64 0, .int .u64 0, .bool false, .int .i64 0, .int .i64 0, .int .i64 0, .bool false, .int .u64 0, .int .u64 0, .int .i64 0] := Blk.new _ _ _
    have Lg7 := chW.size
    have sz_1 := cc1.size
    go_simp
    generalize hg7 : v0.heap.size = g7 at *
    generalize v0.alloc _ = v1 at *
    have LED1 := LED_0.to cc1
    have hS1 : v1.cell? ⟨b, off + j, none⟩ = some (.int .u64 na) ∧ v1.cell? ⟨b, off + (j + 1), none⟩ = some (.int .u64 nb) := ⟨cc1.cell hS.1 (by simp), cc1.cell hS.2 (by simp)⟩
    have ch1 := (chW).trans' cc1 (by simp)
    refine hK.out _ _ hS1 (fun hHeld => ?_)
    clear hK K
    try simp only [Act.put, List.setIfInBounds_toArray, List.set_cons_succ, List.set_cons_zero]
    refine wpAnyH_ready (rs := [11]) (by kernel_rfl) (by simp) (AllReadyH.cons rfl (fun K hK => ?_) (AllReadyH.nil))
    have hS02 := hS1
    go_simp
    refine (entry_any LED1 na nb HU1.out HU2.out).mono ?_
    rintro y v2 ⟨e, rfl, he, cc2⟩
    have LED2 := LED1.to cc2
    have g7_2 := Bg7.chg cc2 (by simp)
    have hS2 : v2.cell? ⟨b, off + j, none⟩ = some (.int .u64 na) ∧ v2.cell? ⟨b, off + (j + 1), none⟩ = some (.int .u64 nb) := ⟨cc2.cell hS1.1 (by simp), cc2.cell hS1.2 (by simp)⟩
    have ch2 := (ch1).trans' cc2 (by simp)
    go_wp2_with fail
    refine hK.out _ _ hS2 (fun hHeld => ?_)
    clear hK K
    try simp only [Act.put, List.setIfInBounds_toArray, List.set_cons_succ, List.set_cons_zero]
    refine wpAnyH_ready (rs := [13]) (by kernel_rfl) (by simp) (AllReadyH.cons rfl (fun K hK => ?_) (AllReadyH.nil))
    have hS03 := hS2
    have e3_0 := g7_2.at (i := 0) rfl
    have f3_0 := g7_2.free 0
    have e3_1 := g7_2.at (i := 1) rfl
    have f3_1 := g7_2.free 1
    have e3_2 := g7_2.at (i := 2) rfl
    have f3_2 := g7_2.free 2
    have e3_3 := g7_2.at (i := 3) rfl
    have f3_3 := g7_2.free 3
    have e3_4 := g7_2.at (i := 4) rfl
    have f3_4 := g7_2.free 4
    have e3_5 := g7_2.at (i := 5) rfl
    have f3_5 := g7_2.free 5
    have e3_6 := g7_2.at (i := 6) rfl
    have f3_6 := g7_2.free 6
    have e3_7 := g7_2.at (i := 7) rfl
    have f3_7 := g7_2.free 7
    have e3_8 := g7_2.at (i := 8) rfl
    have f3_8 := g7_2.free 8
    have e3_9 := g7_2.at (i := 9) rfl
    have f3_9 := g7_2.free 9
    have e3_10 := g7_2.at (i := 10) rfl
    have f3_10 := g7_2.free 10
    have cc3 : Chg [g7] v2 (((((((((((v2.setCell ⟨g7, 0, none⟩ (.int .i64 e.client)).setCell ⟨g7, 1, none⟩ (.int .u64 e.nonce)).setCell ⟨g7, 2, none⟩ (.int .u64 e.fee)).setCell ⟨g7, 3, none⟩ (.bool e.good)).setCell ⟨g7, 4, none⟩ (.int .i64 e.tx.kind)).setCell ⟨g7, 5, none⟩ (.int .i64 e.tx.asset)).setCell ⟨g7, 6, none⟩ (.int .i64 e.tx.dst)).setCell ⟨g7, 7, none⟩ (.bool e.tx.buy)).setCell ⟨g7, 8, none⟩ (.int .u64 e.tx.price)).setCell ⟨g7, 9, none⟩ (.int .u64 e.tx.qty)).setCell ⟨g7, 10, none⟩ (.int .i64 e.tx.id)) := ((((((((((((Chg.refl [g7] v2).setCell ⟨g7, 0, none⟩ (.int .i64 e.client) (.inl (by simp))).setCell ⟨g7, 1, none⟩ (.int .u64 e.nonce) (.inl (by simp))).setCell ⟨g7, 2, none⟩ (.int .u64 e.fee) (.inl (by simp))).setCell ⟨g7, 3, none⟩ (.bool e.good) (.inl (by simp))).setCell ⟨g7, 4, none⟩ (.int .i64 e.tx.kind) (.inl (by simp))).setCell ⟨g7, 5, none⟩ (.int .i64 e.tx.asset) (.inl (by simp))).setCell ⟨g7, 6, none⟩ (.int .i64 e.tx.dst) (.inl (by simp))).setCell ⟨g7, 7, none⟩ (.bool e.tx.buy) (.inl (by simp))).setCell ⟨g7, 8, none⟩ (.int .u64 e.tx.price) (.inl (by simp))).setCell ⟨g7, 9, none⟩ (.int .u64 e.tx.qty) (.inl (by simp))).setCell ⟨g7, 10, none⟩ (.int .i64 e.tx.id) (.inl (by simp)))
    have Bg7_3 : Blk (((((((((((v2.setCell ⟨g7, 0, none⟩ (.int .i64 e.client)).setCell ⟨g7, 1, none⟩ (.int .u64 e.nonce)).setCell ⟨g7, 2, none⟩ (.int .u64 e.fee)).setCell ⟨g7, 3, none⟩ (.bool e.good)).setCell ⟨g7, 4, none⟩ (.int .i64 e.tx.kind)).setCell ⟨g7, 5, none⟩ (.int .i64 e.tx.asset)).setCell ⟨g7, 6, none⟩ (.int .i64 e.tx.dst)).setCell ⟨g7, 7, none⟩ (.bool e.tx.buy)).setCell ⟨g7, 8, none⟩ (.int .u64 e.tx.price)).setCell ⟨g7, 9, none⟩ (.int .u64 e.tx.qty)).setCell ⟨g7, 10, none⟩ (.int .i64 e.tx.id)) g7 51 [.int .i64 e.client, .int .u64 e.nonce, .int .u64 e.fee, .bool e.good, .int .i64 e.tx.kind, .int .i64 e.tx.asset, .int .i64 e.tx.dst, .bool e.tx.buy, .int .u64 e.tx.price, .int .u64 e.tx.qty, .int .i64 e.tx.id] := (((((((((((g7_2.set 0 (.int .i64 e.client)).set 1 (.int .u64 e.nonce)).set 2 (.int .u64 e.fee)).set 3 (.bool e.good)).set 4 (.int .i64 e.tx.kind)).set 5 (.int .i64 e.tx.asset)).set 6 (.int .i64 e.tx.dst)).set 7 (.bool e.tx.buy)).set 8 (.int .u64 e.tx.price)).set 9 (.int .u64 e.tx.qty)).set 10 (.int .i64 e.tx.id))
    go_simp
    generalize (((((((((((v2.setCell ⟨g7, 0, none⟩ (.int .i64 e.client)).setCell ⟨g7, 1, none⟩ (.int .u64 e.nonce)).setCell ⟨g7, 2, none⟩ (.int .u64 e.fee)).setCell ⟨g7, 3, none⟩ (.bool e.good)).setCell ⟨g7, 4, none⟩ (.int .i64 e.tx.kind)).setCell ⟨g7, 5, none⟩ (.int .i64 e.tx.asset)).setCell ⟨g7, 6, none⟩ (.int .i64 e.tx.dst)).setCell ⟨g7, 7, none⟩ (.bool e.tx.buy)).setCell ⟨g7, 8, none⟩ (.int .u64 e.tx.price)).setCell ⟨g7, 9, none⟩ (.int .u64 e.tx.qty)).setCell ⟨g7, 10, none⟩ (.int .i64 e.tx.id)) = v3 at *
    clear e3_0 f3_0 e3_1 f3_1 e3_2 f3_2 e3_3 f3_3 e3_4 f3_4 e3_5 f3_5 e3_6 f3_6 e3_7 f3_7 e3_8 f3_8 e3_9 f3_9 e3_10 f3_10
    have EOK3 := he
    have hS3 : v3.cell? ⟨b, off + j, none⟩ = some (.int .u64 na) ∧ v3.cell? ⟨b, off + (j + 1), none⟩ = some (.int .u64 nb) := ⟨cc3.cell hS2.1 (by simp; omega), cc3.cell hS2.2 (by simp; omega)⟩
    have ch3 := (ch2).trans' cc3 (fun z hz => .inr (by simp at hz; subst hz; omega))
    refine hK.out _ _ hS3 (fun hHeld => ?_)
    clear hK K
    try simp only [Act.put, List.setIfInBounds_toArray, List.set_cons_succ, List.set_cons_zero]
    refine wpAnyH_done (by kernel_rfl) ?_ _
    exact hQ _ _ e EOK3 Bg7_3 ch3 (by omega) _ _ _ _ _ _ _ _ _ _ _ _
end Go.Proofs.YteabcpmpcbjicaaGreat
