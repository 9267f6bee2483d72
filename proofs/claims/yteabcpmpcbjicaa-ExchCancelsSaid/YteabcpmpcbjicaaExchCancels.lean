
import Derived.Test.YteabcpmpcbjicaaAwake10
import Derived.Test.YteabcpmpcbjicaaShell
import Derived.Deep.DrawnRows
import Derived.Deep.RegionHeld3
import Derived.StillTailTactics
import Derived.BigQuiet
namespace Go.Proofs.Yteabcpmpcbjicaa
set_option linter.unusedVariables false
open Go Go.Proofs Go.RowKit
attribute [local go_sem ↓] Go.wp_at_zero Go.wp_at_succ

set_option maxRecDepth 1000000 in
set_option maxHeartbeats 8000000 in
theorem canc_reg {Q : Exit → Act → World → Prop} {u0 u1 u2 u3 u4 u5 u6 u7 u8 u11 u12 u13 u15 u16 u17 u18 u19 u20 u21 u22 u23 u24 u25 u26 u27 u28 u29 u30 u31 u32 u33 u34 u35 u36 u37 u38 u39 u40 u41 u42 u43 u44 u45 u46 u47 u48 u49 u50 u51 u52 u53 u54 u55 u56 u57 u58 u59 u60 u61 u62 u63 u64 u65 u66 u67 u68 u69 u70 u71 u72 u73 u74 u75 u76 u77 u78 u79 u80 u81 u82 u83 u84 u85 u86 u87 u88 u89 u90 u91 u92 u93 u94 u95 u96 u97 u98 u99 u100 u101 u102 u103 u104 u105 u106 u107 u108 u109 u110 u111 u112 u113 u114 u115 u116 u117 u118 u119 u120 u121 u122 u123 u124 u125 u126 u127 u128 u129 u130 u131 u132 u133 u134 u135 u136 u137 u138 u139 u140 : Value} (hP : ∀ c a d v w, Q (.panic c) (Act.put a d v) w → Q (.panic c) a w) {w : World} {x ab s kb gw k : Nat} {FF : List Nat} {xs : List Int} {L M : List Ord} {v0 v1 : Int} {W : World} (h : Exc w W x ab s kb 2 FF xs L M k) (hk : k ≤ 1000000) (hl0 : lkd 0 0 L + lkd 0 0 M = v0) (hl1 : lkd 0 1 L + lkd 0 1 M = v1) (hf0 : aFree 2 xs 0 0 = 2048 - v0) (hf1 : aFree 2 xs 0 1 = 2097152 - v1) (w0 : IntKind.u64.wrap (2048 - v0) = 2048 - v0) (w1 : IntKind.u64.wrap (2097152 - v1) = 2097152 - v1) (z0 : W.cell? ⟨gw, 0, none⟩ = some (.int .u64 v0)) (z1 : W.cell? ⟨gw, 1, none⟩ = some (.int .u64 v1))
    (hQ : ∀ (w4 : World) (_ : Chg [] W w4) (x64 x65 x66 x67 x68 x69 x70 x71 x72 x73 x74 x75 x76 x77 x78 x79 x80 x81 x82 x83 x84 x85 x86 x87 x88 x89 x90 : Value), Q .normal ⟨#[u0, u1, u2, u3, u4, u5, u6, u7, u8, .pointer (some ⟨ab, 0, none⟩), .pointer (some ⟨x, 0, none⟩), u11, u12, u13, .pointer (some ⟨gw, 0, none⟩), u15, u16, u17, u18, u19, u20, u21, u22, u23, u24, u25, u26, u27, u28, u29, u30, u31, u32, u33, u34, u35, u36, u37, u38, u39, u40, u41, u42, u43, u44, u45, u46, u47, u48, u49, u50, u51, u52, u53, u54, u55, u56, u57, u58, u59, u60, u61, u62, u63, x64, x65, x66, x67, x68, x69, x70, x71, x72, x73, x74, x75, x76, x77, x78, x79, x80, x81, x82, x83, x84, x85, x86, x87, x88, x89, x90, .bool false, u92, u93, u94, u95, u96, u97, u98, u99, u100, u101, u102, u103, u104, u105, u106, u107, u108, u109, u110, u111, u112, u113, u114, u115, u116, u117, u118, u119, u120, u121, u122, u123, u124, u125, u126, u127, u128, u129, u130, u131, u132, u133, u134, u135, u136, u137, u138, u139, u140], []⟩ w4) :
    Code.wp Try.prog (regionOf Try.f7 16) Q ⟨#[u0, u1, u2, u3, u4, u5, u6, u7, u8, .pointer (some ⟨ab, 0, none⟩), .pointer (some ⟨x, 0, none⟩), u11, u12, u13, .pointer (some ⟨gw, 0, none⟩), u15, u16, u17, u18, u19, u20, u21, u22, u23, u24, u25, u26, u27, u28, u29, u30, u31, u32, u33, u34, u35, u36, u37, u38, u39, u40, u41, u42, u43, u44, u45, u46, u47, u48, u49, u50, u51, u52, u53, u54, u55, u56, u57, u58, u59, u60, u61, u62, u63, u64, u65, u66, u67, u68, u69, u70, u71, u72, u73, u74, u75, u76, u77, u78, u79, u80, u81, u82, u83, u84, u85, u86, u87, u88, u89, u90, u91, u92, u93, u94, u95, u96, u97, u98, u99, u100, u101, u102, u103, u104, u105, u106, u107, u108, u109, u110, u111, u112, u113, u114, u115, u116, u117, u118, u119, u120, u121, u122, u123, u124, u125, u126, u127, u128, u129, u130, u131, u132, u133, u134, u135, u136, u137, u138, u139, u140], []⟩ W := by
  conv => arg 2; whnf
  refine wp_region_held_drew (S := (fun w' => w'.cell? ⟨gw, 0, none⟩ = some (.int .u64 v0) ∧ w'.cell? ⟨gw, 1, none⟩ = some (.int .u64 v1))) (by kernel_rfl) ⟨z0, z1⟩ (fun _ => ?_)
  refine wpAnyH_take (i := 0) (v := ?_) rfl (by kernel_rfl) (by kernel_rfl) (by kernel_rfl) (fun c a w h => hP c a _ _ w h) (Or.inl ⟨by rfl, ?_⟩) ⟨z0, z1⟩ ?_
  rotate_left
  · (intro w hSw; (try dsimp only at hSw); go_simp; (try (with_reducible rfl)))
  change wpAnyH _ _ _ _ _ _ _ (Act.put _ (some 64) _) _
  simp only [Act.put, List.setIfInBounds_toArray, List.set_cons_succ, List.set_cons_zero]
  refine wpAnyH_take (i := 2) (v := ?_) rfl (by kernel_rfl) (by kernel_rfl) (by kernel_rfl) (fun c a w h => hP c a _ _ w h) (Or.inl ⟨by rfl, ?_⟩) ⟨z0, z1⟩ ?_
  rotate_left
  · (intro w hSw; (try dsimp only at hSw); go_simp; (try (with_reducible rfl)))
  change wpAnyH _ _ _ _ _ _ _ (Act.put _ (some 66) _) _
  simp only [Act.put, List.setIfInBounds_toArray, List.set_cons_succ, List.set_cons_zero]
  refine wpAnyH_take (i := 3) (v := ?_) rfl (by kernel_rfl) (by kernel_rfl) (by kernel_rfl) (fun c a w h => hP c a _ _ w h) (Or.inl ⟨by rfl, ?_⟩) ⟨z0, z1⟩ ?_
  rotate_left
  · (intro w hSw; (try dsimp only at hSw); go_simp; (try (with_reducible rfl)))
  change wpAnyH _ _ _ _ _ _ _ (Act.put _ (some 67) _) _
  simp only [Act.put, List.setIfInBounds_toArray, List.set_cons_succ, List.set_cons_zero]
  refine wpAnyH_ready (rs := [1]) (by kernel_rfl) (by simp) (AllReadyH.cons rfl (fun K hK => ?_) AllReadyH.nil)
  go_simp
  refine (locked_any (h.to (Chg.refl [] W).drew) (by omega) 0 0 v0 hl0).mono ?_
  rintro e w3 ⟨rfl, c3⟩
  have hz3 : w3.cell? ⟨gw, 0, none⟩ = some (.int .u64 v0) ∧ w3.cell? ⟨gw, 1, none⟩ = some (.int .u64 v1) := ⟨(((Chg.refl [] W).drew).trans c3).cell z0 (by simp), (((Chg.refl [] W).drew).trans c3).cell z1 (by simp)⟩
  go_wp2_with fail
  refine hK.out _ _ hz3 (fun hHeld => ?_)
  clear hK K
  refine wpAnyH_take (i := 4) (v := ?_) rfl (by kernel_rfl) (by kernel_rfl) (by kernel_rfl) (fun c a w h => hP c a _ _ w h) (Or.inl ⟨by rfl, ?_⟩) hz3 ?_
  rotate_left
  · (intro w hSw; (try dsimp only at hSw); go_simp; (try (with_reducible rfl)))
  change wpAnyH _ _ _ _ _ _ _ (Act.put _ (some 68) _) _
  simp only [Act.put, List.setIfInBounds_toArray, List.set_cons_succ, List.set_cons_zero]
  refine wpAnyH_take (i := 5) (v := ?_) rfl (by kernel_rfl) (by kernel_rfl) (by kernel_rfl) (fun c a w h => hP c a _ _ w h) (Or.inl ⟨by rfl, ?_⟩) hz3 ?_
  rotate_left
  · (intro w hSw; (try dsimp only at hSw); go_simp; (try (with_reducible rfl)))
  change wpAnyH _ _ _ _ _ _ _ (Act.put _ (some 69) _) _
  simp only [Act.put, List.setIfInBounds_toArray, List.set_cons_succ, List.set_cons_zero]
  refine wpAnyH_take (i := 6) (v := ?_) rfl (by kernel_rfl) (by kernel_rfl) (by kernel_rfl) (fun c a w h => hP c a _ _ w h) (Or.inl ⟨by rfl, ?_⟩) hz3 ?_
  rotate_left
  · (intro w hSw; (try dsimp only at hSw); go_simp; (try (with_reducible rfl)))
  change wpAnyH _ _ _ _ _ _ _ (Act.put _ (some 70) _) _
  simp only [Act.put, List.setIfInBounds_toArray, List.set_cons_succ, List.set_cons_zero]
  refine wpAnyH_take (i := 8) (v := ?_) rfl (by kernel_rfl) (by kernel_rfl) (by kernel_rfl) (fun c a w h => hP c a _ _ w h) (Or.inl ⟨by rfl, ?_⟩) hz3 ?_
  rotate_left
  · (intro w hSw; (try dsimp only at hSw); go_simp; (try (with_reducible rfl)))
  change wpAnyH _ _ _ _ _ _ _ (Act.put _ (some 72) _) _
  simp only [Act.put, List.setIfInBounds_toArray, List.set_cons_succ, List.set_cons_zero]
  refine wpAnyH_take (i := 9) (v := ?_) rfl (by kernel_rfl) (by kernel_rfl) (by kernel_rfl) (fun c a w h => hP c a _ _ w h) (Or.inl ⟨by rfl, ?_⟩) hz3 ?_
  rotate_left
  · (intro w hSw; (try dsimp only at hSw); go_simp; (try (with_reducible rfl)))
  change wpAnyH _ _ _ _ _ _ _ (Act.put _ (some 73) _) _
  simp only [Act.put, List.setIfInBounds_toArray, List.set_cons_succ, List.set_cons_zero]
  refine wpAnyH_ready (rs := [7]) (by kernel_rfl) (by simp) (AllReadyH.cons rfl (fun K hK => ?_) AllReadyH.nil)
  go_simp
  refine (locked_any (h.to (((Chg.refl [] W).drew).trans c3)) (by omega) 0 1 v1 hl1).mono ?_
  rintro e w4 ⟨rfl, c4⟩
  have hz4 : w4.cell? ⟨gw, 0, none⟩ = some (.int .u64 v0) ∧ w4.cell? ⟨gw, 1, none⟩ = some (.int .u64 v1) := ⟨((((Chg.refl [] W).drew).trans c3).trans c4).cell z0 (by simp), ((((Chg.refl [] W).drew).trans c3).trans c4).cell z1 (by simp)⟩
  have h4 := h.to ((((Chg.refl [] W).drew).trans c3).trans c4)
  go_wp2_with fail
  refine hK.out _ _ hz4 (fun hHeld => ?_)
  clear hK K
  refine wpAnyH_take (i := 10) (v := ?_) rfl (by kernel_rfl) (by kernel_rfl) (by kernel_rfl) (fun c a w h => hP c a _ _ w h) (Or.inl ⟨by rfl, ?_⟩) hz4 ?_
  rotate_left
  · (intro w hSw; (try dsimp only at hSw); go_simp; (try (with_reducible rfl)))
  change wpAnyH _ _ _ _ _ _ _ (Act.put _ (some 74) _) _
  simp only [Act.put, List.setIfInBounds_toArray, List.set_cons_succ, List.set_cons_zero]
  refine wpAnyH_take (i := 11) (v := ?_) rfl (by kernel_rfl) (by kernel_rfl) (by kernel_rfl) (fun c a w h => hP c a _ _ w h) (Or.inl ⟨by rfl, ?_⟩) hz4 ?_
  rotate_left
  · (intro w hSw; (try dsimp only at hSw); go_simp; (try (with_reducible rfl)))
  change wpAnyH _ _ _ _ _ _ _ (Act.put _ (some 75) _) _
  simp only [Act.put, List.setIfInBounds_toArray, List.set_cons_succ, List.set_cons_zero]
  refine wpAnyH_take (i := 12) (v := ?_) rfl (by kernel_rfl) (by kernel_rfl) (by kernel_rfl) (fun c a w h => hP c a _ _ w h) (Or.inl ⟨by rfl, ?_⟩) hz4 ?_
  rotate_left
  · (intro w hSw; (try dsimp only at hSw); go_simp; (try (with_reducible rfl)))
  change wpAnyH _ _ _ _ _ _ _ (Act.put _ (some 76) _) _
  simp only [Act.put, List.setIfInBounds_toArray, List.set_cons_succ, List.set_cons_zero]
  refine wpAnyH_take (i := 13) (v := ?_) rfl (by kernel_rfl) (by kernel_rfl) (by kernel_rfl) (fun c a w h => hP c a _ _ w h) (Or.inl ⟨by rfl, ?_⟩) hz4 ?_
  rotate_left
  · (intro w hSw; (try dsimp only at hSw); go_simp; (try (with_reducible rfl)))
  change wpAnyH _ _ _ _ _ _ _ (Act.put _ (some 77) _) _
  simp only [Act.put, List.setIfInBounds_toArray, List.set_cons_succ, List.set_cons_zero]
  refine wpAnyH_take (i := 15) (v := ?_) rfl (by kernel_rfl) (by kernel_rfl) (by kernel_rfl) (fun c a w h => hP c a _ _ w h) (Or.inl ⟨by rfl, ?_⟩) hz4 ?_
  rotate_left
  · (intro w hSw; (try dsimp only at hSw); go_simp; (try (with_reducible rfl)))
  change wpAnyH _ _ _ _ _ _ _ (Act.put _ (some 79) _) _
  simp only [Act.put, List.setIfInBounds_toArray, List.set_cons_succ, List.set_cons_zero]
  refine wpAnyH_take (i := 16) (v := ?_) rfl (by kernel_rfl) (by kernel_rfl) (by kernel_rfl) (fun c a w h => hP c a _ _ w h) (Or.inl ⟨by rfl, ?_⟩) hz4 ?_
  rotate_left
  · (intro w hSw; (try dsimp only at hSw); go_simp; (try (with_reducible rfl)))
  change wpAnyH _ _ _ _ _ _ _ (Act.put _ (some 80) _) _
  simp only [Act.put, List.setIfInBounds_toArray, List.set_cons_succ, List.set_cons_zero]
  refine wpAnyH_take (i := 17) (v := ?_) rfl (by kernel_rfl) (by kernel_rfl) (by kernel_rfl) (fun c a w h => hP c a _ _ w h) (Or.inl ⟨by rfl, ?_⟩) hz4 ?_
  rotate_left
  · (intro w hSw; (try dsimp only at hSw); go_simp; (try (with_reducible rfl)))
  change wpAnyH _ _ _ _ _ _ _ (Act.put _ (some 81) _) _
  simp only [Act.put, List.setIfInBounds_toArray, List.set_cons_succ, List.set_cons_zero]
  refine wpAnyH_ready (rs := [14]) (by kernel_rfl) (by simp) (AllReadyH.cons rfl (fun K hK => ?_) AllReadyH.nil)
  go_simp
  refine (free_is h4.a 0 0 _ hf0).mono ?_
  rintro e w6 ⟨rfl, rfl⟩
  go_wp2_with fail
  refine hK.out _ _ hz4 (fun hHeld => ?_)
  clear hK K
  refine wpAnyH_take (i := 18) (v := ?_) rfl (by kernel_rfl) (by kernel_rfl) (by kernel_rfl) (fun c a w h => hP c a _ _ w h) (Or.inl ⟨by rfl, ?_⟩) hz4 ?_
  rotate_left
  · (intro w hSw; (try dsimp only at hSw); go_simp; (try (with_reducible rfl)))
  change wpAnyH _ _ _ _ _ _ _ (Act.put _ (some 82) _) _
  simp only [Act.put, List.setIfInBounds_toArray, List.set_cons_succ, List.set_cons_zero]
  refine wpAnyH_take (i := 19) (v := ?_) rfl (by kernel_rfl) (by kernel_rfl) (by kernel_rfl) (fun c a w h => hP c a _ _ w h) (Or.inl ⟨by rfl, ?_⟩) hz4 ?_
  rotate_left
  · (intro w hSw; (try dsimp only at hSw); go_simp; (try (with_reducible rfl)))
  change wpAnyH _ _ _ _ _ _ _ (Act.put _ (some 83) _) _
  simp only [Act.put, List.setIfInBounds_toArray, List.set_cons_succ, List.set_cons_zero]
  refine wpAnyH_take (i := 20) (v := ?_) rfl (by kernel_rfl) (by kernel_rfl) (by kernel_rfl) (fun c a w h => hP c a _ _ w h) (Or.inl ⟨by rfl, ?_⟩) hz4 ?_
  rotate_left
  · (intro w hSw; (try dsimp only at hSw); go_simp; (try (with_reducible rfl)))
  change wpAnyH _ _ _ _ _ _ _ (Act.put _ (some 84) _) _
  simp only [Act.put, List.setIfInBounds_toArray, List.set_cons_succ, List.set_cons_zero]
  refine wpAnyH_take (i := 21) (v := ?_) rfl (by kernel_rfl) (by kernel_rfl) (by kernel_rfl) (fun c a w h => hP c a _ _ w h) (Or.inl ⟨by rfl, ?_⟩) hz4 ?_
  rotate_left
  · (intro w hSw; (try dsimp only at hSw); go_simp; (try (with_reducible rfl)))
  change wpAnyH _ _ _ _ _ _ _ (Act.put _ (some 85) _) _
  simp only [Act.put, List.setIfInBounds_toArray, List.set_cons_succ, List.set_cons_zero]
  refine wpAnyH_take (i := 23) (v := ?_) rfl (by kernel_rfl) (by kernel_rfl) (by kernel_rfl) (fun c a w h => hP c a _ _ w h) (Or.inl ⟨by rfl, ?_⟩) hz4 ?_
  rotate_left
  · (intro w hSw; (try dsimp only at hSw); go_simp; (try (with_reducible rfl)))
  change wpAnyH _ _ _ _ _ _ _ (Act.put _ (some 87) _) _
  simp only [Act.put, List.setIfInBounds_toArray, List.set_cons_succ, List.set_cons_zero]
  refine wpAnyH_take (i := 24) (v := ?_) rfl (by kernel_rfl) (by kernel_rfl) (by kernel_rfl) (fun c a w h => hP c a _ _ w h) (Or.inl ⟨by rfl, ?_⟩) hz4 ?_
  rotate_left
  · (intro w hSw; (try dsimp only at hSw); go_simp; (try (with_reducible rfl)))
  change wpAnyH _ _ _ _ _ _ _ (Act.put _ (some 88) _) _
  simp only [Act.put, List.setIfInBounds_toArray, List.set_cons_succ, List.set_cons_zero]
  refine wpAnyH_take (i := 25) (v := ?_) rfl (by kernel_rfl) (by kernel_rfl) (by kernel_rfl) (fun c a w h => hP c a _ _ w h) (Or.inl ⟨by rfl, ?_⟩) hz4 ?_
  rotate_left
  · (intro w hSw; (try dsimp only at hSw); go_simp; (try (with_reducible rfl)))
  change wpAnyH _ _ _ _ _ _ _ (Act.put _ (some 89) _) _
  simp only [Act.put, List.setIfInBounds_toArray, List.set_cons_succ, List.set_cons_zero]
  refine wpAnyH_ready (rs := [22]) (by kernel_rfl) (by simp) (AllReadyH.cons rfl (fun K hK => ?_) AllReadyH.nil)
  go_simp
  refine (free_is h4.a 0 1 _ hf1).mono ?_
  rintro e w6 ⟨rfl, rfl⟩
  go_wp2_with fail
  refine hK.out _ _ hz4 (fun hHeld => ?_)
  clear hK K
  refine wpAnyH_take (i := 26) (v := ?_) rfl (by kernel_rfl) (by kernel_rfl) (by kernel_rfl) (fun c a w h => hP c a _ _ w h) (Or.inl ⟨by rfl, ?_⟩) hz4 ?_
  rotate_left
  · (intro w hSw; (try dsimp only at hSw); go_simp; (try (with_reducible rfl)))
  change wpAnyH _ _ _ _ _ _ _ (Act.put _ (some 90) _) _
  simp only [Act.put, List.setIfInBounds_toArray, List.set_cons_succ, List.set_cons_zero]
  refine wpAnyH_take (i := 27) (v := ?_) rfl (by kernel_rfl) (by kernel_rfl) (by kernel_rfl) (fun c a w h => hP c a _ _ w h) (Or.inl ⟨by rfl, ?_⟩) hz4 ?_
  rotate_left
  · (intro w hSw; (try dsimp only at hSw); go_simp; (try (with_reducible rfl)))
  change wpAnyH _ _ _ _ _ _ _ (Act.put _ (some 91) _) _
  simp only [Act.put, List.setIfInBounds_toArray, List.set_cons_succ, List.set_cons_zero]
  refine wpAnyH_done (by kernel_rfl) ?_ _
  exact hQ _ ((((Chg.refl [] W).drew).trans c3).trans c4) _ _ _ _ _ _ _ _ _ _ _ _ _ _ _ _ _ _ _ _ _ _ _ _ _ _ _
theorem canc_b1 {p q : Int} (hp : 1 ≤ p ∧ p ≤ 1024) (hq : 1 ≤ q ∧ q ≤ 1024) (hm : 0 ≤ p * q ∧ p * q ≤ 1048576) : mtE 2 [2048, 2097152, 0, 0] 0 true p q = 0 := by
  have h1 : wIn p = true := by simp [wIn]; omega
  have h2 : wIn q = true := by simp [wIn]; omega
  unfold mtE
  rw [h1, h2]
  have h3 : ¬ (2097152 : Int) < p * q := by omega
  have h4 : ¬ (2048 : Int) < q := by omega
  simp [aHas, aTakeE, aErr, aAsset, aGet, aAt, cSubB, lockA, lockN] <;> omega
theorem canc_b2 {p q : Int} (hq : 1 ≤ q ∧ q ≤ 1024) (hm : 0 ≤ p * q ∧ p * q ≤ 1048576) : aTake 2 [2048, 2097152, 0, 0] 0 (lockA ⟨((0 : Nat) : Int) + 1, 0, true, p, q⟩) (lockN ⟨((0 : Nat) : Int) + 1, 0, true, p, q⟩) = [2048, 2097152 - p * q, 0, 0] := by
  have h3 : (p * q) ≤ 2097152 := by omega
  simp [aTake, aHas, aTakeE, aErr, aAsset, aGet, aAt, cSubB, cSubN, lockA, lockN, h3] <;> omega
theorem canc_b3 {p q : Int} (hq : 1 ≤ q ∧ q ≤ 1024) : (restL ⟨((0 : Nat) : Int) + 1, 0, true, p, q⟩ [], restM ⟨((0 : Nat) : Int) + 1, 0, true, p, q⟩ []) = ([(⟨1, 0, true, p, q⟩ : Ord)], ([] : List Ord)) := by
  have h : q ≠ 0 := by omega
  simp [restL, restM, ins, h]
theorem canc_b4 {p q : Int} (hq : 1 ≤ q ∧ q ≤ 1024) (hm : 0 ≤ p * q ∧ p * q ≤ 1048576) : aPut 2 [2048, 2097152 - p * q, 0, 0] 0 (lockA ⟨1, 0, true, p, q⟩) (lockN ⟨1, 0, true, p, q⟩) = [2048, 2097152, 0, 0] := by
  simp [aPut, aHas, aPutE, aErr, aAsset, aGet, aAt, cAddB, cAddN, lockA, lockN] <;> omega
theorem canc_b5 (p q : Int) : pickB 1 [(⟨1, 0, true, p, q⟩ : Ord)] ([] : List Ord) = ((⟨1, 0, true, p, q⟩ : Ord), true) := by simp [pickB, pickQ]
theorem canc_b6 (p q : Int) : sans 1 [(⟨1, 0, true, p, q⟩ : Ord)] = [] ∧ remM 1 [(⟨1, 0, true, p, q⟩ : Ord)] ([] : List Ord) = [] := by simp [sans, remM, pickQ]
theorem canc_b7 (p q : Int) : lkd 0 0 [(⟨1, 0, true, p, q⟩ : Ord)] + lkd 0 0 ([] : List Ord) = 0 ∧ lkd 0 1 [(⟨1, 0, true, p, q⟩ : Ord)] + lkd 0 1 ([] : List Ord) = p * q := by simp [lkd, lk1, lockA, lockN, isum]
theorem canc_b8 (p q : Int) : aFree 2 [2048, 2097152 - p * q, 0, 0] 0 0 = 2048 ∧ aFree 2 [2048, 2097152 - p * q, 0, 0] 0 1 = 2097152 - p * q := by simp [aFree, aErr, aHas, aAsset, aGet, aAt]
theorem canc_s1 {p q : Int} (hp : 1 ≤ p ∧ p ≤ 1024) (hq : 1 ≤ q ∧ q ≤ 1024) (hm : 0 ≤ p * q ∧ p * q ≤ 1048576) : mtE 2 [2048, 2097152, 0, 0] 0 false p q = 0 := by
  have h1 : wIn p = true := by simp [wIn]; omega
  have h2 : wIn q = true := by simp [wIn]; omega
  unfold mtE
  rw [h1, h2]
  have h3 : ¬ (2097152 : Int) < p * q := by omega
  have h4 : ¬ (2048 : Int) < q := by omega
  simp [aHas, aTakeE, aErr, aAsset, aGet, aAt, cSubB, lockA, lockN] <;> omega
theorem canc_s2 {p q : Int} (hq : 1 ≤ q ∧ q ≤ 1024) (hm : 0 ≤ p * q ∧ p * q ≤ 1048576) : aTake 2 [2048, 2097152, 0, 0] 0 (lockA ⟨((0 : Nat) : Int) + 1, 0, false, p, q⟩) (lockN ⟨((0 : Nat) : Int) + 1, 0, false, p, q⟩) = [2048 - q, 2097152, 0, 0] := by
  have h3 : q ≤ 2048 := by omega
  simp [aTake, aHas, aTakeE, aErr, aAsset, aGet, aAt, cSubB, cSubN, lockA, lockN, h3] <;> omega
theorem canc_s3 {p q : Int} (hq : 1 ≤ q ∧ q ≤ 1024) : (restL ⟨((0 : Nat) : Int) + 1, 0, false, p, q⟩ [], restM ⟨((0 : Nat) : Int) + 1, 0, false, p, q⟩ []) = (([] : List Ord), [(⟨1, 0, false, p, q⟩ : Ord)]) := by
  have h : q ≠ 0 := by omega
  simp [restL, restM, ins, h]
theorem canc_s4 {p q : Int} (hq : 1 ≤ q ∧ q ≤ 1024) (hm : 0 ≤ p * q ∧ p * q ≤ 1048576) : aPut 2 [2048 - q, 2097152, 0, 0] 0 (lockA ⟨1, 0, false, p, q⟩) (lockN ⟨1, 0, false, p, q⟩) = [2048, 2097152, 0, 0] := by
  simp [aPut, aHas, aPutE, aErr, aAsset, aGet, aAt, cAddB, cAddN, lockA, lockN] <;> omega
theorem canc_s5 (p q : Int) : pickB 1 ([] : List Ord) [(⟨1, 0, false, p, q⟩ : Ord)] = ((⟨1, 0, false, p, q⟩ : Ord), true) := by simp [pickB, pickQ]
theorem canc_s6 (p q : Int) : sans 1 ([] : List Ord) = [] ∧ remM 1 ([] : List Ord) [(⟨1, 0, false, p, q⟩ : Ord)] = [] := by simp [sans, remM, pickQ]
theorem canc_s7 (p q : Int) : lkd 0 0 ([] : List Ord) + lkd 0 0 [(⟨1, 0, false, p, q⟩ : Ord)] = q ∧ lkd 0 1 ([] : List Ord) + lkd 0 1 [(⟨1, 0, false, p, q⟩ : Ord)] = 0 := by simp [lkd, lk1, lockA, lockN, isum]
theorem canc_s8 (p q : Int) : aFree 2 [2048 - q, 2097152, 0, 0] 0 0 = 2048 - q ∧ aFree 2 [2048 - q, 2097152, 0, 0] 0 1 = 2097152 := by simp [aFree, aErr, aHas, aAsset, aGet, aAt]
set_option maxRecDepth 100000 in
set_option maxHeartbeats 8000000 in
theorem cancels_walk (buy : Bool) (p0 q0 who : Int) (w : World) :
    Calls Try.prog 7 #[.bool buy, .int .u64 p0, .int .u64 q0, .int .i64 who] w fun e w' => e = .returned (.bool true) ∧ Below w.heap.size w w' := by
  obtain ⟨f1, e1, l1⟩ : ∃ f : Nat, bits BinOp.and .u64 p0 1023 = f ∧ f < 1024 := low_u64 p0 10 (by omega)
  obtain ⟨f2, e2, l2⟩ : ∃ f : Nat, bits BinOp.and .u64 q0 1023 = f ∧ f < 1024 := low_u64 q0 10 (by omega)
  obtain ⟨f3, e3, l3⟩ : ∃ f : Nat, bits BinOp.and .i64 who 1 = f ∧ f < 2 := low_i64 who 1 (by omega)
  have w1 : IntKind.u64.wrap ((f1 : Int) + 1) = (f1 : Int) + 1 := by simp [IntKind.wrap, IntKind.bits, IntKind.signed]; omega
  have w2 : IntKind.u64.wrap ((f2 : Int) + 1) = (f2 : Int) + 1 := by simp [IntKind.wrap, IntKind.bits, IntKind.signed]; omega
  go_enter Try.func7, Try.ntmps7
  go_wp2_with fail
  refine (new_is 2 2 [0, 0, 0, 0] w (by decide) (by decide)).mono ?_
  rintro e wa ⟨ab, s, rfl, ha1, c1, ls, lb⟩
  go_upto_region 5 with (fail)
  clear e1 e2 e3 w1 w2
  obtain ⟨p, hp⟩ : ∃ p : Int, (f1 : Int) + 1 = p := ⟨_, rfl⟩
  obtain ⟨q, hq⟩ : ∃ q : Int, (f2 : Int) + 1 = q := ⟨_, rfl⟩
  rw [hp, hq]
  have HP : Hid (1 ≤ p ∧ p ≤ 1024) := ⟨by omega, by omega⟩
  have HQ : Hid (1 ≤ q ∧ q ≤ 1024) := ⟨by omega, by omega⟩
  have HM : Hid (0 ≤ p * q ∧ p * q ≤ 1048576) := by
    have h1 := HP.out
    have h2 := HQ.out
    exact ⟨Int.mul_nonneg (by omega) (by omega), by
      calc p * q ≤ 1024 * q := Int.mul_le_mul_of_nonneg_right h1.2 (by omega)
        _ ≤ 1024 * 1024 := Int.mul_le_mul_of_nonneg_left h2.2 (by omega)
        _ = 1048576 := by rfl⟩
  have p1 : 1 ≤ p := HP.out.1
  have p2 : p ≤ 1024 := HP.out.2
  have q1 : 1 ≤ q := HQ.out.1
  have q2 : q ≤ 1024 := HQ.out.2
  clear hp hq
  go_wp2_with fail
  refine (put_is ha1 0 1 2097152 0 [0, 2097152, 0, 0] ⟨by omega, by omega⟩ (by decide) (by decide)).mono ?_
  rintro e wb ⟨rfl, ha2, c2⟩
  go_wp2_with fail
  refine (put_is ha2 0 0 2048 0 [2048, 2097152, 0, 0] ⟨by omega, by omega⟩ (by decide) (by decide)).mono ?_
  rintro e wc ⟨rfl, ha3, c3⟩
  have hc3 : Chg [] w wc := (c1.trans' c2 (fun z hz => .inr (by simp at hz; omega))).trans' c3 (fun z hz => .inr (by simp at hz; omega))
  clear ha1 ha2 c1 c2 c3
  go_wp2_with fail
  refine (exNew ha3 hc3 lb ls).mono ?_
  rintro e w4 ⟨x, kb, FF, rfl, h4⟩
  clear ha3 hc3
  cases buy
  · go_wp2_with fail
    refine (limit_yes h4 (by omega) 0 false p q ⟨by omega, by omega⟩ ⟨by omega, by omega⟩ ⟨by omega, by omega⟩ (canc_s1 HP.out HQ.out HM.out) [2048 - q, 2097152, 0, 0] [2048 - q, 2097152, 0, 0] [] q [] [] (canc_s2 HQ.out HM.out) ⟨rfl, rfl⟩ rfl rfl rfl).mono ?_
    rintro e w5 ⟨a5, d5, rfl, -, F5, h5, -, -, -⟩
    obtain ⟨e51, e52⟩ := Prod.mk.inj (canc_s3 (p := p) HQ.out)
    rw [e51, e52] at h5
    simp only [List.length_nil]
    clear h4 e51 e52
    have hb : Blk (w5.alloc (.cells #[.int .u64 q, .int .u64 0] 61)) w5.heap.size 61 [.int .u64 q, .int .u64 0] := Blk.new w5 _ _
    have h6 := h5.to ((Chg.refl [] w5).alloc (.cells #[.int .u64 q, .int .u64 0] 61))
    obtain ⟨z1, z2, z3, z4, z5⟩ := h5.lt
    clear h5
    go_upto_region 16 with (fail)
    generalize w5.heap.size = gw at *
    generalize w5.alloc _ = W7 at *
    have h7 := h6
    have hb7 := hb
    clear h6 hb
    have y0 := hb7.at (i := 0) rfl
    have y1 := hb7.at (i := 1) rfl
    refine canc_reg (by intro c a d v w h; cases d <;> exact h) h7 (by omega) (v0 := q) (v1 := 0) (canc_s7 p q).1 (canc_s7 p q).2 (by rw [(canc_s8 p q).1]) (by rw [(canc_s8 p q).2]; rfl) (by have := HQ.out; simp [IntKind.wrap, IntKind.bits, IntKind.signed]; omega) (by have := HM.out; simp [IntKind.wrap, IntKind.bits, IntKind.signed]) y0 y1 ?_
    intro w8 c8
    intros
    have h8 := h7.to c8
    clear h7 hb7 y0 y1 c8
    rcases (by omega : f3 = 0 ∨ f3 = 1) with rfl | rfl
    · go_wp2_with fail
      refine (cancel_yes h8 (by omega) 1 ⟨1, 0, false, p, q⟩ (canc_s5 p q) 0 rfl).mono ?_
      rintro e w9 ⟨rfl, h9, -⟩
      rw [canc_s4 HQ.out HM.out, (canc_s6 p q).1, (canc_s6 p q).2] at h9
      clear h8
      go_wp2_with fail
      refine (cancel_no h9 (by omega) 1 Ord.zero false (by decide) 0 (.inl rfl)).mono ?_
      rintro e w10 ⟨rfl, h10', -⟩
      clear h9
      go_wp2_with fail
      refine (cancel_no h10' (by omega) 1 Ord.zero false (by decide) 0 (.inl rfl)).mono ?_
      rintro e w11 ⟨rfl, h10, -⟩
      clear h10'
      go_wp2_with fail
      refine (locked_any h10 (by omega) 0 0 0 (by decide)).mono ?_
      rintro e w12 ⟨rfl, c12⟩
      have h12 := h10.to c12
      clear h10 c12
      go_wp2_with fail
      refine (locked_any h12 (by omega) 0 1 0 (by decide)).mono ?_
      rintro e w13 ⟨rfl, c13⟩
      have h13 := h12.to c13
      clear h12 c13
      go_wp2_with fail
      refine (free_is h13.a 0 0 2048 (by decide)).mono ?_
      rintro e w14 ⟨rfl, rfl⟩
      go_wp2_with fail
      refine (free_is h13.a 0 1 2097152 (by decide)).mono ?_
      rintro e w14 ⟨rfl, rfl⟩
      go_wp2_with fail
      refine (awake10 _).mono ?_
      rintro e w15 ⟨rfl, c15⟩
      go_wp2_with fail
      go_ret
      exact ⟨rfl, (h13.b.c.trans c15).below⟩
    · go_wp2_with fail
      refine (cancel_no h8 (by omega) 1 ⟨1, 0, false, p, q⟩ true (canc_s5 p q) 1 (.inr (by show (0 : Int) ≠ 1; decide))).mono ?_
      rintro e w9 ⟨rfl, h9, -⟩
      clear h8
      go_wp2_with fail
      refine (cancel_yes h9 (by omega) 1 ⟨1, 0, false, p, q⟩ (canc_s5 p q) 0 rfl).mono ?_
      rintro e w10 ⟨rfl, h10', -⟩
      rw [canc_s4 HQ.out HM.out, (canc_s6 p q).1, (canc_s6 p q).2] at h10'
      clear h9
      go_wp2_with fail
      refine (cancel_no h10' (by omega) 1 Ord.zero false (by decide) 0 (.inl rfl)).mono ?_
      rintro e w11 ⟨rfl, h10, -⟩
      clear h10'
      go_wp2_with fail
      refine (locked_any h10 (by omega) 0 0 0 (by decide)).mono ?_
      rintro e w12 ⟨rfl, c12⟩
      have h12 := h10.to c12
      clear h10 c12
      go_wp2_with fail
      refine (locked_any h12 (by omega) 0 1 0 (by decide)).mono ?_
      rintro e w13 ⟨rfl, c13⟩
      have h13 := h12.to c13
      clear h12 c13
      go_wp2_with fail
      refine (free_is h13.a 0 0 2048 (by decide)).mono ?_
      rintro e w14 ⟨rfl, rfl⟩
      go_wp2_with fail
      refine (free_is h13.a 0 1 2097152 (by decide)).mono ?_
      rintro e w14 ⟨rfl, rfl⟩
      go_wp2_with fail
      refine (awake10 _).mono ?_
      rintro e w15 ⟨rfl, c15⟩
      go_wp2_with fail
      go_ret
      exact ⟨rfl, (h13.b.c.trans c15).below⟩
  · go_wp2_with fail
    refine (limit_yes h4 (by omega) 0 true p q ⟨by omega, by omega⟩ ⟨by omega, by omega⟩ ⟨by omega, by omega⟩ (canc_b1 HP.out HQ.out HM.out) [2048, 2097152 - p * q, 0, 0] [2048, 2097152 - p * q, 0, 0] [] q [] [] (canc_b2 HQ.out HM.out) ⟨rfl, rfl⟩ rfl rfl rfl).mono ?_
    rintro e w5 ⟨a5, d5, rfl, -, F5, h5, -, -, -⟩
    obtain ⟨e51, e52⟩ := Prod.mk.inj (canc_b3 (p := p) HQ.out)
    rw [e51, e52] at h5
    simp only [List.length_nil]
    clear h4 e51 e52
    have hb : Blk (w5.alloc (.cells #[.int .u64 q, .int .u64 0] 61)) w5.heap.size 61 [.int .u64 q, .int .u64 0] := Blk.new w5 _ _
    have h6 := h5.to ((Chg.refl [] w5).alloc (.cells #[.int .u64 q, .int .u64 0] 61))
    obtain ⟨z1, z2, z3, z4, z5⟩ := h5.lt
    clear h5
    have y0 := hb.at (i := 0) rfl
    have y1 := hb.at (i := 1) rfl
    have f0 := hb.free 0
    have f1 := hb.free 1
    go_upto_region 15 with (fail)
    generalize w5.heap.size = gw at *
    generalize w5.alloc _ = W6 at *
    have wm : IntKind.u64.wrap (p * q) = p * q := by have := HM.out; simp [IntKind.wrap, IntKind.bits, IntKind.signed]; omega
    have c7 : Chg [gw] W6 ((W6.setCell ⟨gw, 0, none⟩ (.int .u64 0)).setCell ⟨gw, 1, none⟩ (.int .u64 (p * q))) := ((Chg.refl _ _).setCell _ _ (by simp)).setCell _ _ (by simp)
    have h7 := h6.fresh c7 ⟨by omega, by omega, by omega, fun hm => by have := z5 _ hm; omega⟩ (by omega)
    have hb7 : Blk ((W6.setCell ⟨gw, 0, none⟩ (.int .u64 0)).setCell ⟨gw, 1, none⟩ (.int .u64 (p * q))) gw 61 [.int .u64 0, .int .u64 (p * q)] := (hb.set 0 _).set 1 _
    clear h6 hb c7
    go_upto_region 16 with (fail)
    clear y0 y1 f0 f1
    generalize (W6.setCell _ _).setCell _ _ = W7 at *
    have y0 := hb7.at (i := 0) rfl
    have y1 := hb7.at (i := 1) rfl
    refine canc_reg (by intro c a d v w h; cases d <;> exact h) h7 (by omega) (v0 := 0) (v1 := (p * q)) (canc_b7 p q).1 (canc_b7 p q).2 (by rw [(canc_b8 p q).1]; rfl) (by rw [(canc_b8 p q).2]) (by have := HQ.out; simp [IntKind.wrap, IntKind.bits, IntKind.signed]) (by have := HM.out; simp [IntKind.wrap, IntKind.bits, IntKind.signed]; omega) y0 y1 ?_
    intro w8 c8
    intros
    have h8 := h7.to c8
    clear h7 hb7 y0 y1 c8
    rcases (by omega : f3 = 0 ∨ f3 = 1) with rfl | rfl
    · go_wp2_with fail
      refine (cancel_yes h8 (by omega) 1 ⟨1, 0, true, p, q⟩ (canc_b5 p q) 0 rfl).mono ?_
      rintro e w9 ⟨rfl, h9, -⟩
      rw [canc_b4 HQ.out HM.out, (canc_b6 p q).1, (canc_b6 p q).2] at h9
      clear h8
      go_wp2_with fail
      refine (cancel_no h9 (by omega) 1 Ord.zero false (by decide) 0 (.inl rfl)).mono ?_
      rintro e w10 ⟨rfl, h10', -⟩
      clear h9
      go_wp2_with fail
      refine (cancel_no h10' (by omega) 1 Ord.zero false (by decide) 0 (.inl rfl)).mono ?_
      rintro e w11 ⟨rfl, h10, -⟩
      clear h10'
      go_wp2_with fail
      refine (locked_any h10 (by omega) 0 0 0 (by decide)).mono ?_
      rintro e w12 ⟨rfl, c12⟩
      have h12 := h10.to c12
      clear h10 c12
      go_wp2_with fail
      refine (locked_any h12 (by omega) 0 1 0 (by decide)).mono ?_
      rintro e w13 ⟨rfl, c13⟩
      have h13 := h12.to c13
      clear h12 c13
      go_wp2_with fail
      refine (free_is h13.a 0 0 2048 (by decide)).mono ?_
      rintro e w14 ⟨rfl, rfl⟩
      go_wp2_with fail
      refine (free_is h13.a 0 1 2097152 (by decide)).mono ?_
      rintro e w14 ⟨rfl, rfl⟩
      go_wp2_with fail
      refine (awake10 _).mono ?_
      rintro e w15 ⟨rfl, c15⟩
      go_wp2_with fail
      go_ret
      exact ⟨rfl, (h13.b.c.trans c15).below⟩
    · go_wp2_with fail
      refine (cancel_no h8 (by omega) 1 ⟨1, 0, true, p, q⟩ true (canc_b5 p q) 1 (.inr (by show (0 : Int) ≠ 1; decide))).mono ?_
      rintro e w9 ⟨rfl, h9, -⟩
      clear h8
      go_wp2_with fail
      refine (cancel_yes h9 (by omega) 1 ⟨1, 0, true, p, q⟩ (canc_b5 p q) 0 rfl).mono ?_
      rintro e w10 ⟨rfl, h10', -⟩
      rw [canc_b4 HQ.out HM.out, (canc_b6 p q).1, (canc_b6 p q).2] at h10'
      clear h9
      go_wp2_with fail
      refine (cancel_no h10' (by omega) 1 Ord.zero false (by decide) 0 (.inl rfl)).mono ?_
      rintro e w11 ⟨rfl, h10, -⟩
      clear h10'
      go_wp2_with fail
      refine (locked_any h10 (by omega) 0 0 0 (by decide)).mono ?_
      rintro e w12 ⟨rfl, c12⟩
      have h12 := h10.to c12
      clear h10 c12
      go_wp2_with fail
      refine (locked_any h12 (by omega) 0 1 0 (by decide)).mono ?_
      rintro e w13 ⟨rfl, c13⟩
      have h13 := h12.to c13
      clear h12 c13
      go_wp2_with fail
      refine (free_is h13.a 0 0 2048 (by decide)).mono ?_
      rintro e w14 ⟨rfl, rfl⟩
      go_wp2_with fail
      refine (free_is h13.a 0 1 2097152 (by decide)).mono ?_
      rintro e w14 ⟨rfl, rfl⟩
      go_wp2_with fail
      refine (awake10 _).mono ?_
      rintro e w15 ⟨rfl, c15⟩
      go_wp2_with fail
      go_ret
      exact ⟨rfl, (h13.b.c.trans c15).below⟩
end Go.Proofs.Yteabcpmpcbjicaa
