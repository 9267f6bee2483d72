
import Derived.Test.YteabcpmpcbjicaaGreatTwo
import Derived.Test.YteabcpmpcbjicaaGreatLsT
import Derived.Test.YteabcpmpcbjicaaGreatAwake12
import Derived.Deep.DrawnRows
import Derived.Deep.RegionHeld3
namespace Go.Proofs.YteabcpmpcbjicaaGreat
set_option linter.unusedVariables false
set_option linter.unusedSimpArgs false
open Go Go.Proofs Go.RowKit
attribute [local go_sem ↓] Go.wp_at_zero Go.wp_at_succ

set_option maxRecDepth 1000000 in
set_option maxHeartbeats 8000000 in
theorem two_ent {Q : Exit → Act → World → Prop} {u0 u1 u2 u3 u4 u5 u6 u7 u8 u9 u13 u14 u15 u16 u17 u18 u19 u20 u21 u22 u23 u24 u25 u26 u27 u28 u29 u30 u31 u32 u33 u34 u35 u36 u37 u38 u39 u40 u41 u42 u43 u44 u45 u46 u47 u48 u49 u50 u51 u52 u53 u54 u55 u56 u57 u58 u59 u60 u61 u62 u63 u64 u65 u66 u67 u68 u69 u70 u71 u72 u73 u74 u75 u76 u77 u78 u79 u80 u81 u82 u83 u84 u85 u86 u87 u88 u89 u90 u91 u92 u93 u94 u95 u96 u97 u98 u99 u100 u101 u102 u103 u104 u105 u106 u107 u108 u109 u110 u111 u112 u113 u114 u115 u116 u117 u118 u119 u120 u121 u122 u123 u124 u125 u126 u127 u128 u129 u130 u131 u132 u133 u134 u135 u136 u137 u138 u139 u140 u141 u142 u143 u144 u145 u146 u147 u148 u149 u150 u151 u152 u153 u154 u155 u156 u157 u158 u159 u160 u161 u162 u163 u164 u165 u166 u167 u168 u169 u170 u171 u172 u173 u174 u175 u176 u177 u178 u179 u180 u181 u182 u183 u184 u185 u186 u187 u188 u189 : Value} (hP : ∀ c a d v w, Q (.panic c) (Act.put a d v) w → Q (.panic c) a w) {W : World} {b off i n cap : Nat} {s kc : Int} {f a3 a4 q : Nat} (lb : b < W.heap.size) (s1 : W.cell? ⟨b, off + i, none⟩ = some (.int .u64 s)) (i0 : (0 : Int) ≤ (i : Int)) (i2 : (i : Int) < (n : Int)) (wj : IntKind.u64.wrap (i : Int) = i) (hf : bits BinOp.and .u64 s 7 = f) (h3 : bits BinOp.and .u64 (s / 8) 1 = a3) (w3 : IntKind.i64.wrap (a3 : Int) = a3) (w3b : IntKind.i64.wrap ((a3 : Int) + 1) = (a3 : Int) + 1) (h4 : bits BinOp.and .u64 (s / 16) 1 = a4) (w4 : IntKind.i64.wrap (a4 : Int) = a4) (hq : bits BinOp.and .u64 (s / 32) 2047 = q)
    (hQ : ∀ (v : World) (gE : Nat) (_ : Blk v gE 51 [.int .i64 kc, .int .u64 i, .int .u64 f, .bool true, .int .i64 ((a3 : Int) + 1), .int .i64 a4, .int .i64 0, .bool false, .int .u64 0, .int .u64 q, .int .i64 0]) (_ : Chg [] W v) (_ : W.heap.size ≤ gE) (x43 x44 x45 x46 x47 x48 x49 x50 x51 x52 x53 x54 x55 x56 x57 x58 x59 x60 x61 x62 x63 x64 x65 x66 x67 x68 x69 x70 x71 x72 x73 : Value), Q .normal ⟨#[u0, u1, u2, u3, u4, u5, u6, u7, u8, u9, .int .i64 kc, .slice (some ⟨b, off, none⟩) n cap, .int .i64 i, .pointer (some ⟨gE, 0, none⟩), u14, u15, u16, u17, u18, u19, u20, u21, u22, u23, u24, u25, u26, u27, u28, u29, u30, u31, u32, u33, u34, u35, u36, u37, u38, u39, u40, u41, u42, x43, x44, x45, x46, x47, x48, x49, x50, x51, x52, x53, x54, x55, x56, x57, x58, x59, x60, x61, x62, x63, x64, x65, x66, x67, x68, x69, x70, x71, x72, x73, u74, u75, u76, u77, u78, u79, u80, u81, u82, u83, u84, u85, u86, u87, u88, u89, u90, u91, u92, u93, u94, u95, u96, u97, u98, u99, u100, u101, u102, u103, u104, u105, u106, u107, u108, u109, u110, u111, u112, u113, u114, u115, u116, u117, u118, u119, u120, u121, u122, u123, u124, u125, u126, u127, u128, u129, u130, u131, u132, u133, u134, u135, u136, u137, u138, u139, u140, u141, u142, u143, u144, u145, u146, u147, u148, u149, u150, u151, u152, u153, u154, u155, u156, u157, u158, u159, u160, u161, u162, u163, u164, u165, u166, u167, u168, u169, u170, u171, u172, u173, u174, u175, u176, u177, u178, u179, u180, u181, u182, u183, u184, u185, u186, u187, u188, u189], []⟩ v) :
    Code.wp Tryz.prog (regionOf Tryz.f9 11) Q ⟨#[u0, u1, u2, u3, u4, u5, u6, u7, u8, u9, .int .i64 kc, .slice (some ⟨b, off, none⟩) n cap, .int .i64 i, u13, u14, u15, u16, u17, u18, u19, u20, u21, u22, u23, u24, u25, u26, u27, u28, u29, u30, u31, u32, u33, u34, u35, u36, u37, u38, u39, u40, u41, u42, u43, u44, u45, u46, u47, u48, u49, u50, u51, u52, u53, u54, u55, u56, u57, u58, u59, u60, u61, u62, u63, u64, u65, u66, u67, u68, u69, u70, u71, u72, u73, u74, u75, u76, u77, u78, u79, u80, u81, u82, u83, u84, u85, u86, u87, u88, u89, u90, u91, u92, u93, u94, u95, u96, u97, u98, u99, u100, u101, u102, u103, u104, u105, u106, u107, u108, u109, u110, u111, u112, u113, u114, u115, u116, u117, u118, u119, u120, u121, u122, u123, u124, u125, u126, u127, u128, u129, u130, u131, u132, u133, u134, u135, u136, u137, u138, u139, u140, u141, u142, u143, u144, u145, u146, u147, u148, u149, u150, u151, u152, u153, u154, u155, u156, u157, u158, u159, u160, u161, u162, u163, u164, u165, u166, u167, u168, u169, u170, u171, u172, u173, u174, u175, u176, u177, u178, u179, u180, u181, u182, u183, u184, u185, u186, u187, u188, u189], []⟩ W := by
  conv => arg 2; whnf
  refine wp_region_held_drew (S := (fun w' => w'.cell? ⟨b, off + i, none⟩ = some (.int .u64 s))) (by kernel_rfl) s1 (fun _ => ?_)
  have hS : W.drew.cell? ⟨b, off + i, none⟩ = some (.int .u64 s) := s1
  have chW : Chg [] W W.drew := (Chg.refl _ W).drew
  generalize hWD : W.drew = v0 at *
  refine wpAnyH_take (i := 0) (v := ?_) rfl (by kernel_rfl) (by kernel_rfl) (by kernel_rfl) (fun c a w h => hP c a _ _ w h) (Or.inl ⟨by rfl, ?_⟩) hS ?_
  rotate_left
  · (intro w hSw; (try dsimp only at hSw); go_simp; (try (with_reducible rfl)))
  change wpAnyH _ _ _ _ _ _ _ (Act.put _ (some 43) _) _
  simp only [Act.put, List.setIfInBounds_toArray, List.set_cons_succ, List.set_cons_zero]
  refine wpAnyH_take (i := 1) (v := ?_) rfl (by kernel_rfl) (by kernel_rfl) (by kernel_rfl) (fun c a w h => hP c a _ _ w h) (Or.inl ⟨by rfl, ?_⟩) hS ?_
  rotate_left
  · (intro w hSw; (try dsimp only at hSw); go_simp; (try (with_reducible rfl)))
  change wpAnyH _ _ _ _ _ _ _ (Act.put _ (some 44) _) _
  simp only [Act.put, List.setIfInBounds_toArray, List.set_cons_succ, List.set_cons_zero]
  refine wpAnyH_take (i := 2) (v := ?_) rfl (by kernel_rfl) (by kernel_rfl) (by kernel_rfl) (fun c a w h => hP c a _ _ w h) (Or.inl ⟨by rfl, ?_⟩) hS ?_
  rotate_left
  · (intro w hSw; (try dsimp only at hSw); go_simp; (try (with_reducible rfl)))
  change wpAnyH _ _ _ _ _ _ _ (Act.put _ (some 45) _) _
  simp only [Act.put, List.setIfInBounds_toArray, List.set_cons_succ, List.set_cons_zero]
  refine wpAnyH_take (i := 3) (v := ?_) rfl (by kernel_rfl) (by kernel_rfl) (by kernel_rfl) (fun c a w h => hP c a _ _ w h) (Or.inl ⟨by rfl, ?_⟩) hS ?_
  rotate_left
  · (intro w hSw; (try dsimp only at hSw); go_simp; (try (with_reducible rfl)))
  change wpAnyH _ _ _ _ _ _ _ (Act.put _ (some 46) _) _
  simp only [Act.put, List.setIfInBounds_toArray, List.set_cons_succ, List.set_cons_zero]
  refine wpAnyH_take (i := 4) (v := ?_) rfl (by kernel_rfl) (by kernel_rfl) (by kernel_rfl) (fun c a w h => hP c a _ _ w h) (Or.inl ⟨by rfl, ?_⟩) hS ?_
  rotate_left
  · (intro w hSw; (try dsimp only at hSw); go_simp; (try (with_reducible rfl)))
  change wpAnyH _ _ _ _ _ _ _ (Act.put _ (some 47) _) _
  simp only [Act.put, List.setIfInBounds_toArray, List.set_cons_succ, List.set_cons_zero]
  refine wpAnyH_take (i := 5) (v := ?_) rfl (by kernel_rfl) (by kernel_rfl) (by kernel_rfl) (fun c a w h => hP c a _ _ w h) (Or.inl ⟨by rfl, ?_⟩) hS ?_
  rotate_left
  · (intro w hSw; (try dsimp only at hSw); go_simp; (try (with_reducible rfl)))
  change wpAnyH _ _ _ _ _ _ _ (Act.put _ (some 48) _) _
  simp only [Act.put, List.setIfInBounds_toArray, List.set_cons_succ, List.set_cons_zero]
  refine wpAnyH_take (i := 6) (v := ?_) rfl (by kernel_rfl) (by kernel_rfl) (by kernel_rfl) (fun c a w h => hP c a _ _ w h) (Or.inl ⟨by rfl, ?_⟩) hS ?_
  rotate_left
  · (intro w hSw; (try dsimp only at hSw); go_simp; (try (with_reducible rfl)))
  change wpAnyH _ _ _ _ _ _ _ (Act.put _ (some 49) _) _
  simp only [Act.put, List.setIfInBounds_toArray, List.set_cons_succ, List.set_cons_zero]
  refine wpAnyH_take (i := 7) (v := ?_) rfl (by kernel_rfl) (by kernel_rfl) (by kernel_rfl) (fun c a w h => hP c a _ _ w h) (Or.inl ⟨by rfl, ?_⟩) hS ?_
  rotate_left
  · (intro w hSw; (try dsimp only at hSw); go_simp; (try (with_reducible rfl)))
  change wpAnyH _ _ _ _ _ _ _ (Act.put _ (some 50) _) _
  simp only [Act.put, List.setIfInBounds_toArray, List.set_cons_succ, List.set_cons_zero]
  refine wpAnyH_take (i := 8) (v := ?_) rfl (by kernel_rfl) (by kernel_rfl) (by kernel_rfl) (fun c a w h => hP c a _ _ w h) (Or.inl ⟨by rfl, ?_⟩) hS ?_
  rotate_left
  · (intro w hSw; (try dsimp only at hSw); go_simp; (try (with_reducible rfl)))
  change wpAnyH _ _ _ _ _ _ _ (Act.put _ (some 51) _) _
  simp only [Act.put, List.setIfInBounds_toArray, List.set_cons_succ, List.set_cons_zero]
  refine wpAnyH_take (i := 9) (v := ?_) rfl (by kernel_rfl) (by kernel_rfl) (by kernel_rfl) (fun c a w h => hP c a _ _ w h) (Or.inl ⟨by rfl, ?_⟩) hS ?_
  rotate_left
  · (intro w hSw; (try dsimp only at hSw); go_simp; (try (with_reducible rfl)))
  change wpAnyH _ _ _ _ _ _ _ (Act.put _ (some 52) _) _
  simp only [Act.put, List.setIfInBounds_toArray, List.set_cons_succ, List.set_cons_zero]
  refine wpAnyH_take (i := 10) (v := ?_) rfl (by kernel_rfl) (by kernel_rfl) (by kernel_rfl) (fun c a w h => hP c a _ _ w h) (Or.inl ⟨by rfl, ?_⟩) hS ?_
  rotate_left
  · (intro w hSw; (try dsimp only at hSw); go_simp; (try (with_reducible rfl)))
  change wpAnyH _ _ _ _ _ _ _ (Act.put _ (some 53) _) _
  simp only [Act.put, List.setIfInBounds_toArray, List.set_cons_succ, List.set_cons_zero]
  refine wpAnyH_take (i := 11) (v := ?_) rfl (by kernel_rfl) (by kernel_rfl) (by kernel_rfl) (fun c a w h => hP c a _ _ w h) (Or.inl ⟨by rfl, ?_⟩) hS ?_
  rotate_left
  · (intro w hSw; (try dsimp only at hSw); go_simp; (try (with_reducible rfl)))
  change wpAnyH _ _ _ _ _ _ _ (Act.put _ (some 54) _) _
  simp only [Act.put, List.setIfInBounds_toArray, List.set_cons_succ, List.set_cons_zero]
  refine wpAnyH_take (i := 12) (v := ?_) rfl (by kernel_rfl) (by kernel_rfl) (by kernel_rfl) (fun c a w h => hP c a _ _ w h) (Or.inl ⟨by rfl, ?_⟩) hS ?_
  rotate_left
  · (intro w hSw; (try dsimp only at hSw); go_simp; (try (with_reducible rfl)))
  change wpAnyH _ _ _ _ _ _ _ (Act.put _ (some 55) _) _
  simp only [Act.put, List.setIfInBounds_toArray, List.set_cons_succ, List.set_cons_zero]
  refine wpAnyH_take (i := 13) (v := ?_) rfl (by kernel_rfl) (by kernel_rfl) (by kernel_rfl) (fun c a w h => hP c a _ _ w h) (Or.inl ⟨by rfl, ?_⟩) hS ?_
  rotate_left
  · (intro w hSw; (try dsimp only at hSw); go_simp; (try (with_reducible rfl)))
  change wpAnyH _ _ _ _ _ _ _ (Act.put _ (some 56) _) _
  simp only [Act.put, List.setIfInBounds_toArray, List.set_cons_succ, List.set_cons_zero]
  refine wpAnyH_take (i := 14) (v := ?_) rfl (by kernel_rfl) (by kernel_rfl) (by kernel_rfl) (fun c a w h => hP c a _ _ w h) (Or.inl ⟨by rfl, ?_⟩) hS ?_
  rotate_left
  · (intro w hSw; (try dsimp only at hSw); go_simp; (try (with_reducible rfl)))
  change wpAnyH _ _ _ _ _ _ _ (Act.put _ (some 57) _) _
  simp only [Act.put, List.setIfInBounds_toArray, List.set_cons_succ, List.set_cons_zero]
  refine wpAnyH_take (i := 15) (v := ?_) rfl (by kernel_rfl) (by kernel_rfl) (by kernel_rfl) (fun c a w h => hP c a _ _ w h) (Or.inl ⟨by rfl, ?_⟩) hS ?_
  rotate_left
  · (intro w hSw; (try dsimp only at hSw); go_simp; (try (with_reducible rfl)))
  change wpAnyH _ _ _ _ _ _ _ (Act.put _ (some 58) _) _
  simp only [Act.put, List.setIfInBounds_toArray, List.set_cons_succ, List.set_cons_zero]
  refine wpAnyH_take (i := 16) (v := ?_) rfl (by kernel_rfl) (by kernel_rfl) (by kernel_rfl) (fun c a w h => hP c a _ _ w h) (Or.inl ⟨by rfl, ?_⟩) hS ?_
  rotate_left
  · (intro w hSw; (try dsimp only at hSw); go_simp; (try (with_reducible rfl)))
  change wpAnyH _ _ _ _ _ _ _ (Act.put _ (some 59) _) _
  simp only [Act.put, List.setIfInBounds_toArray, List.set_cons_succ, List.set_cons_zero]
  refine wpAnyH_take (i := 17) (v := ?_) rfl (by kernel_rfl) (by kernel_rfl) (by kernel_rfl) (fun c a w h => hP c a _ _ w h) (Or.inl ⟨by rfl, ?_⟩) hS ?_
  rotate_left
  · (intro w hSw; (try dsimp only at hSw); go_simp; (try (with_reducible rfl)))
  change wpAnyH _ _ _ _ _ _ _ (Act.put _ (some 60) _) _
  simp only [Act.put, List.setIfInBounds_toArray, List.set_cons_succ, List.set_cons_zero]
  refine wpAnyH_take (i := 18) (v := ?_) rfl (by kernel_rfl) (by kernel_rfl) (by kernel_rfl) (fun c a w h => hP c a _ _ w h) (Or.inl ⟨by rfl, ?_⟩) hS ?_
  rotate_left
  · (intro w hSw; (try dsimp only at hSw); go_simp; (try (with_reducible rfl)))
  change wpAnyH _ _ _ _ _ _ _ (Act.put _ (some 61) _) _
  simp only [Act.put, List.setIfInBounds_toArray, List.set_cons_succ, List.set_cons_zero]
  refine wpAnyH_take (i := 19) (v := ?_) rfl (by kernel_rfl) (by kernel_rfl) (by kernel_rfl) (fun c a w h => hP c a _ _ w h) (Or.inl ⟨by rfl, ?_⟩) hS ?_
  rotate_left
  · (intro w hSw; (try dsimp only at hSw); go_simp; (try (with_reducible rfl)))
  change wpAnyH _ _ _ _ _ _ _ (Act.put _ (some 62) _) _
  simp only [Act.put, List.setIfInBounds_toArray, List.set_cons_succ, List.set_cons_zero]
  refine wpAnyH_take (i := 20) (v := ?_) rfl (by kernel_rfl) (by kernel_rfl) (by kernel_rfl) (fun c a w h => hP c a _ _ w h) (Or.inl ⟨by rfl, ?_⟩) hS ?_
  rotate_left
  · (intro w hSw; (try dsimp only at hSw); go_simp; (try (with_reducible rfl)))
  change wpAnyH _ _ _ _ _ _ _ (Act.put _ (some 63) _) _
  simp only [Act.put, List.setIfInBounds_toArray, List.set_cons_succ, List.set_cons_zero]
  refine wpAnyH_take (i := 21) (v := ?_) rfl (by kernel_rfl) (by kernel_rfl) (by kernel_rfl) (fun c a w h => hP c a _ _ w h) (Or.inl ⟨by rfl, ?_⟩) hS ?_
  rotate_left
  · (intro w hSw; (try dsimp only at hSw); go_simp; (try (with_reducible rfl)))
  change wpAnyH _ _ _ _ _ _ _ (Act.put _ (some 64) _) _
  simp only [Act.put, List.setIfInBounds_toArray, List.set_cons_succ, List.set_cons_zero]
  refine wpAnyH_take (i := 22) (v := ?_) rfl (by kernel_rfl) (by kernel_rfl) (by kernel_rfl) (fun c a w h => hP c a _ _ w h) (Or.inl ⟨by rfl, ?_⟩) hS ?_
  rotate_left
  · (intro w hSw; (try dsimp only at hSw); go_simp; (try (with_reducible rfl)))
  change wpAnyH _ _ _ _ _ _ _ (Act.put _ (some 65) _) _
  simp only [Act.put, List.setIfInBounds_toArray, List.set_cons_succ, List.set_cons_zero]
  refine wpAnyH_take (i := 23) (v := ?_) rfl (by kernel_rfl) (by kernel_rfl) (by kernel_rfl) (fun c a w h => hP c a _ _ w h) (Or.inl ⟨by rfl, ?_⟩) hS ?_
  rotate_left
  · (intro w hSw; (try dsimp only at hSw); go_simp; (try (with_reducible rfl)))
  change wpAnyH _ _ _ _ _ _ _ (Act.put _ (some 66) _) _
  simp only [Act.put, List.setIfInBounds_toArray, List.set_cons_succ, List.set_cons_zero]
  refine wpAnyH_take (i := 24) (v := ?_) rfl (by kernel_rfl) (by kernel_rfl) (by kernel_rfl) (fun c a w h => hP c a _ _ w h) (Or.inl ⟨by rfl, ?_⟩) hS ?_
  rotate_left
  · (intro w hSw; (try dsimp only at hSw); go_simp; (try (with_reducible rfl)))
  change wpAnyH _ _ _ _ _ _ _ (Act.put _ (some 67) _) _
  simp only [Act.put, List.setIfInBounds_toArray, List.set_cons_succ, List.set_cons_zero]
  refine wpAnyH_take (i := 25) (v := ?_) rfl (by kernel_rfl) (by kernel_rfl) (by kernel_rfl) (fun c a w h => hP c a _ _ w h) (Or.inl ⟨by rfl, ?_⟩) hS ?_
  rotate_left
  · (intro w hSw; (try dsimp only at hSw); go_simp; (try (with_reducible rfl)))
  change wpAnyH _ _ _ _ _ _ _ (Act.put _ (some 68) _) _
  simp only [Act.put, List.setIfInBounds_toArray, List.set_cons_succ, List.set_cons_zero]
  refine wpAnyH_take (i := 26) (v := ?_) rfl (by kernel_rfl) (by kernel_rfl) (by kernel_rfl) (fun c a w h => hP c a _ _ w h) (Or.inl ⟨by rfl, ?_⟩) hS ?_
  rotate_left
  · (intro w hSw; (try dsimp only at hSw); go_simp; (try (with_reducible rfl)))
  change wpAnyH _ _ _ _ _ _ _ (Act.put _ (some 69) _) _
  simp only [Act.put, List.setIfInBounds_toArray, List.set_cons_succ, List.set_cons_zero]
  refine wpAnyH_take (i := 27) (v := ?_) rfl (by kernel_rfl) (by kernel_rfl) (by kernel_rfl) (fun c a w h => hP c a _ _ w h) (Or.inl ⟨by rfl, ?_⟩) hS ?_
  rotate_left
  · (intro w hSw; (try dsimp only at hSw); go_simp; (try (with_reducible rfl)))
  change wpAnyH _ _ _ _ _ _ _ (Act.put _ (some 70) _) _
  simp only [Act.put, List.setIfInBounds_toArray, List.set_cons_succ, List.set_cons_zero]
  refine wpAnyH_take (i := 28) (v := ?_) rfl (by kernel_rfl) (by kernel_rfl) (by kernel_rfl) (fun c a w h => hP c a _ _ w h) (Or.inl ⟨by rfl, ?_⟩) hS ?_
  rotate_left
  · (intro w hSw; (try dsimp only at hSw); go_simp; (try (with_reducible rfl)))
  change wpAnyH _ _ _ _ _ _ _ (Act.put _ (some 71) _) _
  simp only [Act.put, List.setIfInBounds_toArray, List.set_cons_succ, List.set_cons_zero]
  refine wpAnyH_take (i := 29) (v := ?_) rfl (by kernel_rfl) (by kernel_rfl) (by kernel_rfl) (fun c a w h => hP c a _ _ w h) (Or.inl ⟨by rfl, ?_⟩) hS ?_
  rotate_left
  · (intro w hSw; (try dsimp only at hSw); go_simp; (try (with_reducible rfl)))
  change wpAnyH _ _ _ _ _ _ _ (Act.put _ (some 72) _) _
  simp only [Act.put, List.setIfInBounds_toArray, List.set_cons_succ, List.set_cons_zero]
  refine wpAnyH_take (i := 30) (v := ?_) rfl (by kernel_rfl) (by kernel_rfl) (by kernel_rfl) (fun c a w h => hP c a _ _ w h) (Or.inl ⟨by rfl, ?_⟩) hS ?_
  rotate_left
  · (intro w hSw; (try dsimp only at hSw); go_simp; (try (with_reducible rfl)))
  change wpAnyH _ _ _ _ _ _ _ (Act.put _ (some 73) _) _
  simp only [Act.put, List.setIfInBounds_toArray, List.set_cons_succ, List.set_cons_zero]
  refine wpAnyH_ready (rs := [31]) (by kernel_rfl) (by simp) (AllReadyH.cons rfl (fun K hK => ?_) (AllReadyH.nil))
  have hS01 := hS
  have cc1 : Chg [] v0 (v0.alloc (.cells #[.int .i64 0, .int .u64 0, .int .u64 0, .bool false, .int .i64 0, .int .i64 0, .int .i64 0, .bool false, .int .u64 0, .int .u64 0, .int .i64 0] 51)) := (Chg.refl _ _).alloc _
  have Bg13 : Blk (v0.alloc (.cells #[.int .i64 0, .int .u64 0, .int .u64 0, .bool false, .int .i64 0, .int .i64 0, .int .i64 0, .bool false, .int .u64 0, .int .u64 0, .int .i64 0] 51)) v0.heap.size 51 [.int .i64 0, .int .u64 0, .int .u64 0, .bool false, .int .i64 0, .int .i64 0, .int .i64 0, .bool false, .int .u64 0, .int .u64 0, .int .i64 0] := Blk.new _ _ _
  have Lg13 := chW.size
  have sz_1 := cc1.size
  go_simp
  generalize hg13 : v0.heap.size = g13 at *
  generalize v0.alloc _ = v1 at *
  have hS1 : v1.cell? ⟨b, off + i, none⟩ = some (.int .u64 s) := cc1.cell hS (by simp)
  have ch1 := (chW).trans' cc1 (by simp)
  refine hK.out _ _ hS1 (fun hHeld => ?_)
  clear hK K
  try simp only [Act.put, List.setIfInBounds_toArray, List.set_cons_succ, List.set_cons_zero]
  refine wpAnyH_ready (rs := [32]) (by kernel_rfl) (by simp) (AllReadyH.cons rfl (fun K hK => ?_) (AllReadyH.nil))
  have hS02 := hS1
  have e2_0 := Bg13.at (i := 0) rfl
  have f2_0 := Bg13.free 0
  have e2_1 := Bg13.at (i := 1) rfl
  have f2_1 := Bg13.free 1
  have e2_2 := Bg13.at (i := 2) rfl
  have f2_2 := Bg13.free 2
  have e2_3 := Bg13.at (i := 3) rfl
  have f2_3 := Bg13.free 3
  have e2_4 := Bg13.at (i := 4) rfl
  have f2_4 := Bg13.free 4
  have e2_5 := Bg13.at (i := 5) rfl
  have f2_5 := Bg13.free 5
  have e2_6 := Bg13.at (i := 6) rfl
  have f2_6 := Bg13.free 6
  have e2_7 := Bg13.at (i := 7) rfl
  have f2_7 := Bg13.free 7
  have e2_8 := Bg13.at (i := 8) rfl
  have f2_8 := Bg13.free 8
  have e2_9 := Bg13.at (i := 9) rfl
  have f2_9 := Bg13.free 9
  have e2_10 := Bg13.at (i := 10) rfl
  have f2_10 := Bg13.free 10
  have cc2 : Chg [g13] v1 (((((((((((v1.setCell ⟨g13, 0, none⟩ (.int .i64 kc)).setCell ⟨g13, 1, none⟩ (.int .u64 i)).setCell ⟨g13, 2, none⟩ (.int .u64 f)).setCell ⟨g13, 3, none⟩ (.bool true)).setCell ⟨g13, 4, none⟩ (.int .i64 ((a3 : Int) + 1))).setCell ⟨g13, 5, none⟩ (.int .i64 a4)).setCell ⟨g13, 6, none⟩ (.int .i64 0)).setCell ⟨g13, 7, none⟩ (.bool false)).setCell ⟨g13, 8, none⟩ (.int .u64 0)).setCell ⟨g13, 9, none⟩ (.int .u64 q)).setCell ⟨g13, 10, none⟩ (.int .i64 0)) := ((((((((((((Chg.refl [g13] v1).setCell ⟨g13, 0, none⟩ (.int .i64 kc) (.inl (by simp))).setCell ⟨g13, 1, none⟩ (.int .u64 i) (.inl (by simp))).setCell ⟨g13, 2, none⟩ (.int .u64 f) (.inl (by simp))).setCell ⟨g13, 3, none⟩ (.bool true) (.inl (by simp))).setCell ⟨g13, 4, none⟩ (.int .i64 ((a3 : Int) + 1)) (.inl (by simp))).setCell ⟨g13, 5, none⟩ (.int .i64 a4) (.inl (by simp))).setCell ⟨g13, 6, none⟩ (.int .i64 0) (.inl (by simp))).setCell ⟨g13, 7, none⟩ (.bool false) (.inl (by simp))).setCell ⟨g13, 8, none⟩ (.int .u64 0) (.inl (by simp))).setCell ⟨g13, 9, none⟩ (.int .u64 q) (.inl (by simp))).setCell ⟨g13, 10, none⟩ (.int .i64 0) (.inl (by simp)))
  have Bg13_2 : Blk (((((((((((v1.setCell ⟨g13, 0, none⟩ (.int .i64 kc)).setCell ⟨g13, 1, none⟩ (.int .u64 i)).setCell ⟨g13, 2, none⟩ (.int .u64 f)).setCell ⟨g13, 3, none⟩ (.bool true)).setCell ⟨g13, 4, none⟩ (.int .i64 ((a3 : Int) + 1))).setCell ⟨g13, 5, none⟩ (.int .i64 a4)).setCell ⟨g13, 6, none⟩ (.int .i64 0)).setCell ⟨g13, 7, none⟩ (.bool false)).setCell ⟨g13, 8, none⟩ (.int .u64 0)).setCell ⟨g13, 9, none⟩ (.int .u64 q)).setCell ⟨g13, 10, none⟩ (.int .i64 0)) g13 51 [.int .i64 kc, .int .u64 i, .int .u64 f, .bool true, .int .i64 ((a3 : Int) + 1), .int .i64 a4, .int .i64 0, .bool false, .int .u64 0, .int .u64 q, .int .i64 0] := (((((((((((Bg13.set 0 (.int .i64 kc)).set 1 (.int .u64 i)).set 2 (.int .u64 f)).set 3 (.bool true)).set 4 (.int .i64 ((a3 : Int) + 1))).set 5 (.int .i64 a4)).set 6 (.int .i64 0)).set 7 (.bool false)).set 8 (.int .u64 0)).set 9 (.int .u64 q)).set 10 (.int .i64 0))
  go_simp
  generalize (((((((((((v1.setCell ⟨g13, 0, none⟩ (.int .i64 kc)).setCell ⟨g13, 1, none⟩ (.int .u64 i)).setCell ⟨g13, 2, none⟩ (.int .u64 f)).setCell ⟨g13, 3, none⟩ (.bool true)).setCell ⟨g13, 4, none⟩ (.int .i64 ((a3 : Int) + 1))).setCell ⟨g13, 5, none⟩ (.int .i64 a4)).setCell ⟨g13, 6, none⟩ (.int .i64 0)).setCell ⟨g13, 7, none⟩ (.bool false)).setCell ⟨g13, 8, none⟩ (.int .u64 0)).setCell ⟨g13, 9, none⟩ (.int .u64 q)).setCell ⟨g13, 10, none⟩ (.int .i64 0)) = v2 at *
  clear e2_0 f2_0 e2_1 f2_1 e2_2 f2_2 e2_3 f2_3 e2_4 f2_4 e2_5 f2_5 e2_6 f2_6 e2_7 f2_7 e2_8 f2_8 e2_9 f2_9 e2_10 f2_10
  have hS2 : v2.cell? ⟨b, off + i, none⟩ = some (.int .u64 s) := cc2.cell hS1 (by simp; omega)
  have ch2 := (ch1).trans' cc2 (fun z hz => .inr (by simp at hz; subst hz; omega))
  refine hK.out _ _ hS2 (fun hHeld => ?_)
  clear hK K
  try simp only [Act.put, List.setIfInBounds_toArray, List.set_cons_succ, List.set_cons_zero]
  refine wpAnyH_done (by kernel_rfl) ?_ _
  exact hQ _ _ Bg13_2 ch2 (by omega) _ _ _ _ _ _ _ _ _ _ _ _ _ _ _ _ _ _ _ _ _ _ _ _ _ _ _ _ _ _ _
set_option maxRecDepth 1000000 in
set_option maxHeartbeats 8000000 in
theorem two_lay0 {Q : Exit → Act → World → Prop} {u0 u1 u2 u3 u4 u5 u6 u7 u8 u11 u12 u14 u15 u16 u17 u18 u19 u20 u21 u22 u23 u24 u25 u26 u27 u28 u29 u30 u31 u32 u33 u34 u35 u36 u37 u38 u39 u40 u41 u42 u43 u44 u45 u46 u47 u48 u49 u50 u51 u52 u53 u54 u55 u56 u57 u58 u59 u60 u61 u62 u63 u64 u65 u66 u67 u68 u69 u70 u71 u72 u73 u74 u75 u76 u77 u78 u79 u80 u81 u82 u83 u84 u85 u86 u87 u88 u89 u90 u91 u92 u93 u94 u95 u96 u97 u98 u99 u100 u101 u102 u103 u104 u105 u106 u107 u108 u109 u110 u111 u112 u113 u114 u115 u116 u117 u118 u119 u120 u121 u122 u123 u124 u125 u126 u127 u128 u129 u130 u131 u132 u133 u134 u135 u136 u137 u138 u139 u140 u141 u142 u143 u144 u145 u146 u147 u148 u149 u150 u151 u152 u153 u154 u155 u156 u157 u158 u159 u160 u161 u162 u163 u164 u165 u166 u167 u168 u169 u170 u171 u172 u173 u174 u175 u176 u177 u178 u179 u180 u181 u182 u183 u184 u185 u186 u187 u188 u189 : Value} (hP : ∀ c a d v w, Q (.panic c) (Act.put a d v) w → Q (.panic c) a w) {W : World} {gA gE : Nat} {va vb : Value} {e : Ent} {M : List Ent} (HA : Hid (Blk W gA 93 [va, vb])) (HE : Hid (Blk W gE 51 (ec e))) (HR : Hid (Rw W va M)) (hM : M.length ≤ 1000) (nA : gA ∉ ob1 va) (nE : gE ∉ ob1 va) (nAE : gA ≠ gE)
    (hQ : ∀ (v : World) (v3 : Value) (_ : Rw v v3 (M ++ [e])) (_ : Blk v gA 93 [v3, vb]) (_ : Chg (gA :: ob1 va) W v) (_ : ∀ z ∈ ob1 v3, z ∈ ob1 va ∨ W.heap.size ≤ z) (x90 x91 x92 x93 x94 x95 x96 x97 : Value), Q .normal ⟨#[u0, u1, u2, u3, u4, u5, u6, u7, u8, .pointer (some ⟨gA, 0, none⟩), .int .i64 0, u11, u12, .pointer (some ⟨gE, 0, none⟩), u14, u15, u16, u17, u18, u19, u20, u21, u22, u23, u24, u25, u26, u27, u28, u29, u30, u31, u32, u33, u34, u35, u36, u37, u38, u39, u40, u41, u42, u43, u44, u45, u46, u47, u48, u49, u50, u51, u52, u53, u54, u55, u56, u57, u58, u59, u60, u61, u62, u63, u64, u65, u66, u67, u68, u69, u70, u71, u72, u73, u74, u75, u76, u77, u78, u79, u80, u81, u82, u83, u84, u85, u86, u87, u88, u89, x90, x91, x92, x93, x94, x95, x96, x97, u98, u99, u100, u101, u102, u103, u104, u105, u106, u107, u108, u109, u110, u111, u112, u113, u114, u115, u116, u117, u118, u119, u120, u121, u122, u123, u124, u125, u126, u127, u128, u129, u130, u131, u132, u133, u134, u135, u136, u137, u138, u139, u140, u141, u142, u143, u144, u145, u146, u147, u148, u149, u150, u151, u152, u153, u154, u155, u156, u157, u158, u159, u160, u161, u162, u163, u164, u165, u166, u167, u168, u169, u170, u171, u172, u173, u174, u175, u176, u177, u178, u179, u180, u181, u182, u183, u184, u185, u186, u187, u188, u189], []⟩ v) :
    Code.wp Tryz.prog (regionOf Tryz.f9 14) Q ⟨#[u0, u1, u2, u3, u4, u5, u6, u7, u8, .pointer (some ⟨gA, 0, none⟩), .int .i64 0, u11, u12, .pointer (some ⟨gE, 0, none⟩), u14, u15, u16, u17, u18, u19, u20, u21, u22, u23, u24, u25, u26, u27, u28, u29, u30, u31, u32, u33, u34, u35, u36, u37, u38, u39, u40, u41, u42, u43, u44, u45, u46, u47, u48, u49, u50, u51, u52, u53, u54, u55, u56, u57, u58, u59, u60, u61, u62, u63, u64, u65, u66, u67, u68, u69, u70, u71, u72, u73, u74, u75, u76, u77, u78, u79, u80, u81, u82, u83, u84, u85, u86, u87, u88, u89, u90, u91, u92, u93, u94, u95, u96, u97, u98, u99, u100, u101, u102, u103, u104, u105, u106, u107, u108, u109, u110, u111, u112, u113, u114, u115, u116, u117, u118, u119, u120, u121, u122, u123, u124, u125, u126, u127, u128, u129, u130, u131, u132, u133, u134, u135, u136, u137, u138, u139, u140, u141, u142, u143, u144, u145, u146, u147, u148, u149, u150, u151, u152, u153, u154, u155, u156, u157, u158, u159, u160, u161, u162, u163, u164, u165, u166, u167, u168, u169, u170, u171, u172, u173, u174, u175, u176, u177, u178, u179, u180, u181, u182, u183, u184, u185, u186, u187, u188, u189], []⟩ W := by
  conv => arg 2; whnf
  have hlt := HR.out.lt
  have hlA := HA.out.lt
  have hlE := HE.out.lt
  refine wp_region_held_drew (S := (fun w' => w'.cell? ⟨gE, 0, none⟩ = some (.int .i64 e.client) ∧ w'.cell? ⟨gE, 1, none⟩ = some (.int .u64 e.nonce) ∧ w'.cell? ⟨gE, 2, none⟩ = some (.int .u64 e.fee) ∧ w'.cell? ⟨gE, 3, none⟩ = some (.bool e.good) ∧ w'.cell? ⟨gE, 4, none⟩ = some (.int .i64 e.tx.kind) ∧ w'.cell? ⟨gE, 5, none⟩ = some (.int .i64 e.tx.asset) ∧ w'.cell? ⟨gE, 6, none⟩ = some (.int .i64 e.tx.dst) ∧ w'.cell? ⟨gE, 7, none⟩ = some (.bool e.tx.buy) ∧ w'.cell? ⟨gE, 8, none⟩ = some (.int .u64 e.tx.price) ∧ w'.cell? ⟨gE, 9, none⟩ = some (.int .u64 e.tx.qty) ∧ w'.cell? ⟨gE, 10, none⟩ = some (.int .i64 e.tx.id))) (by kernel_rfl) ⟨HE.out.at (i := 0) rfl, HE.out.at (i := 1) rfl, HE.out.at (i := 2) rfl, HE.out.at (i := 3) rfl, HE.out.at (i := 4) rfl, HE.out.at (i := 5) rfl, HE.out.at (i := 6) rfl, HE.out.at (i := 7) rfl, HE.out.at (i := 8) rfl, HE.out.at (i := 9) rfl, HE.out.at (i := 10) rfl⟩ (fun _ => ?_)
  have hS : W.drew.cell? ⟨gE, 0, none⟩ = some (.int .i64 e.client) ∧ W.drew.cell? ⟨gE, 1, none⟩ = some (.int .u64 e.nonce) ∧ W.drew.cell? ⟨gE, 2, none⟩ = some (.int .u64 e.fee) ∧ W.drew.cell? ⟨gE, 3, none⟩ = some (.bool e.good) ∧ W.drew.cell? ⟨gE, 4, none⟩ = some (.int .i64 e.tx.kind) ∧ W.drew.cell? ⟨gE, 5, none⟩ = some (.int .i64 e.tx.asset) ∧ W.drew.cell? ⟨gE, 6, none⟩ = some (.int .i64 e.tx.dst) ∧ W.drew.cell? ⟨gE, 7, none⟩ = some (.bool e.tx.buy) ∧ W.drew.cell? ⟨gE, 8, none⟩ = some (.int .u64 e.tx.price) ∧ W.drew.cell? ⟨gE, 9, none⟩ = some (.int .u64 e.tx.qty) ∧ W.drew.cell? ⟨gE, 10, none⟩ = some (.int .i64 e.tx.id) := ⟨HE.out.at (i := 0) rfl, HE.out.at (i := 1) rfl, HE.out.at (i := 2) rfl, HE.out.at (i := 3) rfl, HE.out.at (i := 4) rfl, HE.out.at (i := 5) rfl, HE.out.at (i := 6) rfl, HE.out.at (i := 7) rfl, HE.out.at (i := 8) rfl, HE.out.at (i := 9) rfl, HE.out.at (i := 10) rfl⟩
  have chW : Chg (gA :: ob1 va) W W.drew := (Chg.refl _ W).drew
  have ARR_0 := (HA.out.chg ((Chg.refl [] W).drew) (by simp))
  have ROW_0 := (HR.out.chg ((Chg.refl [] W).drew) (by simp))
  generalize hWD : W.drew = v0 at *
  refine wpAnyH_take (i := 0) (v := ?_) rfl (by kernel_rfl) (by kernel_rfl) (by kernel_rfl) (fun c a w h => hP c a _ _ w h) (Or.inl ⟨by rfl, ?_⟩) hS ?_
  rotate_left
  · (intro w hSw; (try dsimp only at hSw); go_simp; (try (with_reducible rfl)))
  change wpAnyH _ _ _ _ _ _ _ (Act.put _ (some 90) _) _
  simp only [Act.put, List.setIfInBounds_toArray, List.set_cons_succ, List.set_cons_zero]
  refine wpAnyH_take (i := 1) (v := ?_) rfl (by kernel_rfl) (by kernel_rfl) (by kernel_rfl) (fun c a w h => hP c a _ _ w h) (Or.inl ⟨by rfl, ?_⟩) hS ?_
  rotate_left
  · (intro w hSw; (try dsimp only at hSw); go_simp; (try (with_reducible rfl)))
  change wpAnyH _ _ _ _ _ _ _ (Act.put _ (some 91) _) _
  simp only [Act.put, List.setIfInBounds_toArray, List.set_cons_succ, List.set_cons_zero]
  refine wpAnyH_take (i := 2) (v := ?_) rfl (by kernel_rfl) (by kernel_rfl) (by kernel_rfl) (fun c a w h => hP c a _ _ w h) (Or.inl ⟨by rfl, ?_⟩) hS ?_
  rotate_left
  · (intro w hSw; (try dsimp only at hSw); go_simp; (try (with_reducible rfl)))
  change wpAnyH _ _ _ _ _ _ _ (Act.put _ (some 92) _) _
  simp only [Act.put, List.setIfInBounds_toArray, List.set_cons_succ, List.set_cons_zero]
  refine wpAnyH_take (i := 4) (v := ?_) rfl (by kernel_rfl) (by kernel_rfl) (by kernel_rfl) (fun c a w h => hP c a _ _ w h) (Or.inl ⟨by rfl, ?_⟩) hS ?_
  rotate_left
  · (intro w hSw; (try dsimp only at hSw); go_simp; (try (with_reducible rfl)))
  change wpAnyH _ _ _ _ _ _ _ (Act.put _ (some 94) _) _
  simp only [Act.put, List.setIfInBounds_toArray, List.set_cons_succ, List.set_cons_zero]
  refine wpAnyH_ready (rs := [3, 5]) (by kernel_rfl) (by simp) (AllReadyH.cons rfl (fun K hK => ?_) (AllReadyH.cons rfl (fun K hK => ?_) (AllReadyH.nil)))
  · skip
    have kc3 := ARR_0.at (i := 0) rfl
    go_simp
    refine hK.out _ _ hS (fun hHeld => ?_)
    clear hK K
    try simp only [Act.put, List.setIfInBounds_toArray, List.set_cons_succ, List.set_cons_zero]
    refine wpAnyH_ready (rs := [5]) (by kernel_rfl) (by simp) (AllReadyH.cons rfl (fun K hK => ?_) (AllReadyH.nil))
    have hS01 := hS
    have cc1 : Chg [] v0 (v0.alloc (.cells #[.int .i64 e.client, .int .u64 e.nonce, .int .u64 e.fee, .bool e.good, .int .i64 e.tx.kind, .int .i64 e.tx.asset, .int .i64 e.tx.dst, .bool e.tx.buy, .int .u64 e.tx.price, .int .u64 e.tx.qty, .int .i64 e.tx.id] 51)) := (Chg.refl _ _).alloc _
    have Bg95 : Blk (v0.alloc (.cells #[.int .i64 e.client, .int .u64 e.nonce, .int .u64 e.fee, .bool e.good, .int .i64 e.tx.kind, .int .i64 e.tx.asset, .int .i64 e.tx.dst, .bool e.tx.buy, .int .u64 e.tx.price, .int .u64 e.tx.qty, .int .i64 e.tx.id] 51)) v0.heap.size 51 [.int .i64 e.client, .int .u64 e.nonce, .int .u64 e.fee, .bool e.good, .int .i64 e.tx.kind, .int .i64 e.tx.asset, .int .i64 e.tx.dst, .bool e.tx.buy, .int .u64 e.tx.price, .int .u64 e.tx.qty, .int .i64 e.tx.id] := Blk.new _ _ _
    have Lg95 := chW.size
    have sz_1 := cc1.size
    go_simp
    generalize hg95 : v0.heap.size = g95 at *
    generalize v0.alloc _ = v1 at *
    have ARR1 := ARR_0.chg cc1 (by simp)
    have ROW1 := ROW_0.chg cc1 (by simp)
    have hS1 : v1.cell? ⟨gE, 0, none⟩ = some (.int .i64 e.client) ∧ v1.cell? ⟨gE, 1, none⟩ = some (.int .u64 e.nonce) ∧ v1.cell? ⟨gE, 2, none⟩ = some (.int .u64 e.fee) ∧ v1.cell? ⟨gE, 3, none⟩ = some (.bool e.good) ∧ v1.cell? ⟨gE, 4, none⟩ = some (.int .i64 e.tx.kind) ∧ v1.cell? ⟨gE, 5, none⟩ = some (.int .i64 e.tx.asset) ∧ v1.cell? ⟨gE, 6, none⟩ = some (.int .i64 e.tx.dst) ∧ v1.cell? ⟨gE, 7, none⟩ = some (.bool e.tx.buy) ∧ v1.cell? ⟨gE, 8, none⟩ = some (.int .u64 e.tx.price) ∧ v1.cell? ⟨gE, 9, none⟩ = some (.int .u64 e.tx.qty) ∧ v1.cell? ⟨gE, 10, none⟩ = some (.int .i64 e.tx.id) := ⟨cc1.cell hS.1 (by simp), cc1.cell hS.2.1 (by simp), cc1.cell hS.2.2.1 (by simp), cc1.cell hS.2.2.2.1 (by simp), cc1.cell hS.2.2.2.2.1 (by simp), cc1.cell hS.2.2.2.2.2.1 (by simp), cc1.cell hS.2.2.2.2.2.2.1 (by simp), cc1.cell hS.2.2.2.2.2.2.2.1 (by simp), cc1.cell hS.2.2.2.2.2.2.2.2.1 (by simp), cc1.cell hS.2.2.2.2.2.2.2.2.2.1 (by simp), cc1.cell hS.2.2.2.2.2.2.2.2.2.2 (by simp)⟩
    have ch1 := (chW).trans' cc1 (by simp)
    refine hK.out _ _ hS1 (fun hHeld => ?_)
    clear hK K
    try simp only [Act.put, List.setIfInBounds_toArray, List.set_cons_succ, List.set_cons_zero]
    refine wpAnyH_ready (rs := [6]) (by kernel_rfl) (by simp) (AllReadyH.cons rfl (fun K hK => ?_) (AllReadyH.nil))
    have hS02 := hS1
    have szc := ch1.size
    refine wp_app_ent (.tmp 93) (.tmp 95) rfl rfl ROW1 g95 _ e rfl Bg95 (by omega) ?_
    intro v3 v2 hR3 cc2 hat
    have hat2 : ∀ z ∈ ob1 v3, z ∈ ob1 va ∨ W.heap.size ≤ z := fun z hz => (hat z hz).imp id (fun q => by omega)
    obtain ⟨a3, d3, e3⟩ := hR3.sl
    obtain ⟨k3, hk3⟩ : ∃ k, (M ++ [e]).length = k := ⟨_, rfl⟩
    rw [hk3] at e3
    subst e3
    have ARR2 := ARR1.chg cc2 nA
    have g95_2 := Bg95.chg cc2 (fun hm => by have := hlt _ hm; omega)
    have hS2 : v2.cell? ⟨gE, 0, none⟩ = some (.int .i64 e.client) ∧ v2.cell? ⟨gE, 1, none⟩ = some (.int .u64 e.nonce) ∧ v2.cell? ⟨gE, 2, none⟩ = some (.int .u64 e.fee) ∧ v2.cell? ⟨gE, 3, none⟩ = some (.bool e.good) ∧ v2.cell? ⟨gE, 4, none⟩ = some (.int .i64 e.tx.kind) ∧ v2.cell? ⟨gE, 5, none⟩ = some (.int .i64 e.tx.asset) ∧ v2.cell? ⟨gE, 6, none⟩ = some (.int .i64 e.tx.dst) ∧ v2.cell? ⟨gE, 7, none⟩ = some (.bool e.tx.buy) ∧ v2.cell? ⟨gE, 8, none⟩ = some (.int .u64 e.tx.price) ∧ v2.cell? ⟨gE, 9, none⟩ = some (.int .u64 e.tx.qty) ∧ v2.cell? ⟨gE, 10, none⟩ = some (.int .i64 e.tx.id) := ⟨cc2.cell hS1.1 (nE), cc2.cell hS1.2.1 (nE), cc2.cell hS1.2.2.1 (nE), cc2.cell hS1.2.2.2.1 (nE), cc2.cell hS1.2.2.2.2.1 (nE), cc2.cell hS1.2.2.2.2.2.1 (nE), cc2.cell hS1.2.2.2.2.2.2.1 (nE), cc2.cell hS1.2.2.2.2.2.2.2.1 (nE), cc2.cell hS1.2.2.2.2.2.2.2.2.1 (nE), cc2.cell hS1.2.2.2.2.2.2.2.2.2.1 (nE), cc2.cell hS1.2.2.2.2.2.2.2.2.2.2 (nE)⟩
    have ch2 := (ch1).trans' cc2 (fun z hz => .inl (List.mem_cons_of_mem _ hz))
    refine hK.out _ _ hS2 (fun hHeld => ?_)
    clear hK K
    try simp only [Act.put, List.setIfInBounds_toArray, List.set_cons_succ, List.set_cons_zero]
    refine wpAnyH_take (i := 7) (v := ?_) rfl (by kernel_rfl) (by kernel_rfl) (by kernel_rfl) (fun c a w h => hP c a _ _ w h) (Or.inl ⟨by rfl, ?_⟩) hS2 ?_
    rotate_left
    · (intro w hSw; (try dsimp only at hSw); go_simp; (try (with_reducible rfl)))
    change wpAnyH _ _ _ _ _ _ _ (Act.put _ (some 97) _) _
    simp only [Act.put, List.setIfInBounds_toArray, List.set_cons_succ, List.set_cons_zero]
    refine wpAnyH_ready (rs := [8]) (by kernel_rfl) (by simp) (AllReadyH.cons rfl (fun K hK => ?_) (AllReadyH.nil))
    have hS03 := hS2
    have yA := ARR2.at (i := 0) rfl
    have fA := ARR2.free 0
    have cc30 : Chg [gA] v2 (v2.setCell ⟨gA, 0, none⟩ (.slice a3 k3 d3)) := (Chg.refl [gA] v2).setCell _ _ (.inl (by simp))
    have BA2 := ARR2.set 0 (.slice a3 k3 d3)
    have RS := hR3.chg cc30 (fun z hz hm => by simp at hm; subst hm; exact (hat2 _ hz).elim nA (fun q => by omega))
    go_simp
    generalize v2.setCell ⟨gA, 0, none⟩ (.slice a3 k3 d3) = v3 at *
    have cc3 := cc30
    have g95_3 := g95_2.chg cc3 (by simp; omega)
    have hS3 : v3.cell? ⟨gE, 0, none⟩ = some (.int .i64 e.client) ∧ v3.cell? ⟨gE, 1, none⟩ = some (.int .u64 e.nonce) ∧ v3.cell? ⟨gE, 2, none⟩ = some (.int .u64 e.fee) ∧ v3.cell? ⟨gE, 3, none⟩ = some (.bool e.good) ∧ v3.cell? ⟨gE, 4, none⟩ = some (.int .i64 e.tx.kind) ∧ v3.cell? ⟨gE, 5, none⟩ = some (.int .i64 e.tx.asset) ∧ v3.cell? ⟨gE, 6, none⟩ = some (.int .i64 e.tx.dst) ∧ v3.cell? ⟨gE, 7, none⟩ = some (.bool e.tx.buy) ∧ v3.cell? ⟨gE, 8, none⟩ = some (.int .u64 e.tx.price) ∧ v3.cell? ⟨gE, 9, none⟩ = some (.int .u64 e.tx.qty) ∧ v3.cell? ⟨gE, 10, none⟩ = some (.int .i64 e.tx.id) := ⟨cc3.cell hS2.1 (by simp; omega), cc3.cell hS2.2.1 (by simp; omega), cc3.cell hS2.2.2.1 (by simp; omega), cc3.cell hS2.2.2.2.1 (by simp; omega), cc3.cell hS2.2.2.2.2.1 (by simp; omega), cc3.cell hS2.2.2.2.2.2.1 (by simp; omega), cc3.cell hS2.2.2.2.2.2.2.1 (by simp; omega), cc3.cell hS2.2.2.2.2.2.2.2.1 (by simp; omega), cc3.cell hS2.2.2.2.2.2.2.2.2.1 (by simp; omega), cc3.cell hS2.2.2.2.2.2.2.2.2.2.1 (by simp; omega), cc3.cell hS2.2.2.2.2.2.2.2.2.2.2 (by simp; omega)⟩
    have ch3 := (ch2).trans' cc3 (fun z hz => .inl (by simp at hz; simp [hz]))
    refine hK.out _ _ hS3 (fun hHeld => ?_)
    clear hK K
    try simp only [Act.put, List.setIfInBounds_toArray, List.set_cons_succ, List.set_cons_zero]
    refine wpAnyH_done (by kernel_rfl) ?_ _
    exact hQ _ _ RS BA2 ch3 hat2 _ _ _ _ _ _ _ _
  · skip
    have hS01 := hS
    have cc1 : Chg [] v0 (v0.alloc (.cells #[.int .i64 e.client, .int .u64 e.nonce, .int .u64 e.fee, .bool e.good, .int .i64 e.tx.kind, .int .i64 e.tx.asset, .int .i64 e.tx.dst, .bool e.tx.buy, .int .u64 e.tx.price, .int .u64 e.tx.qty, .int .i64 e.tx.id] 51)) := (Chg.refl _ _).alloc _
    have Bg95 : Blk (v0.alloc (.cells #[.int .i64 e.client, .int .u64 e.nonce, .int .u64 e.fee, .bool e.good, .int .i64 e.tx.kind, .int .i64 e.tx.asset, .int .i64 e.tx.dst, .bool e.tx.buy, .int .u64 e.tx.price, .int .u64 e.tx.qty, .int .i64 e.tx.id] 51)) v0.heap.size 51 [.int .i64 e.client, .int .u64 e.nonce, .int .u64 e.fee, .bool e.good, .int .i64 e.tx.kind, .int .i64 e.tx.asset, .int .i64 e.tx.dst, .bool e.tx.buy, .int .u64 e.tx.price, .int .u64 e.tx.qty, .int .i64 e.tx.id] := Blk.new _ _ _
    have Lg95 := chW.size
    have sz_1 := cc1.size
    go_simp
    generalize hg95 : v0.heap.size = g95 at *
    generalize v0.alloc _ = v1 at *
    have ARR1 := ARR_0.chg cc1 (by simp)
    have ROW1 := ROW_0.chg cc1 (by simp)
    have hS1 : v1.cell? ⟨gE, 0, none⟩ = some (.int .i64 e.client) ∧ v1.cell? ⟨gE, 1, none⟩ = some (.int .u64 e.nonce) ∧ v1.cell? ⟨gE, 2, none⟩ = some (.int .u64 e.fee) ∧ v1.cell? ⟨gE, 3, none⟩ = some (.bool e.good) ∧ v1.cell? ⟨gE, 4, none⟩ = some (.int .i64 e.tx.kind) ∧ v1.cell? ⟨gE, 5, none⟩ = some (.int .i64 e.tx.asset) ∧ v1.cell? ⟨gE, 6, none⟩ = some (.int .i64 e.tx.dst) ∧ v1.cell? ⟨gE, 7, none⟩ = some (.bool e.tx.buy) ∧ v1.cell? ⟨gE, 8, none⟩ = some (.int .u64 e.tx.price) ∧ v1.cell? ⟨gE, 9, none⟩ = some (.int .u64 e.tx.qty) ∧ v1.cell? ⟨gE, 10, none⟩ = some (.int .i64 e.tx.id) := ⟨cc1.cell hS.1 (by simp), cc1.cell hS.2.1 (by simp), cc1.cell hS.2.2.1 (by simp), cc1.cell hS.2.2.2.1 (by simp), cc1.cell hS.2.2.2.2.1 (by simp), cc1.cell hS.2.2.2.2.2.1 (by simp), cc1.cell hS.2.2.2.2.2.2.1 (by simp), cc1.cell hS.2.2.2.2.2.2.2.1 (by simp), cc1.cell hS.2.2.2.2.2.2.2.2.1 (by simp), cc1.cell hS.2.2.2.2.2.2.2.2.2.1 (by simp), cc1.cell hS.2.2.2.2.2.2.2.2.2.2 (by simp)⟩
    have ch1 := (chW).trans' cc1 (by simp)
    refine hK.out _ _ hS1 (fun hHeld => ?_)
    clear hK K
    try simp only [Act.put, List.setIfInBounds_toArray, List.set_cons_succ, List.set_cons_zero]
    refine wpAnyH_ready (rs := [3]) (by kernel_rfl) (by simp) (AllReadyH.cons rfl (fun K hK => ?_) (AllReadyH.nil))
    have kc3 := ARR1.at (i := 0) rfl
    go_simp
    refine hK.out _ _ hS1 (fun hHeld => ?_)
    clear hK K
    try simp only [Act.put, List.setIfInBounds_toArray, List.set_cons_succ, List.set_cons_zero]
    refine wpAnyH_ready (rs := [6]) (by kernel_rfl) (by simp) (AllReadyH.cons rfl (fun K hK => ?_) (AllReadyH.nil))
    have hS02 := hS1
    have szc := ch1.size
    refine wp_app_ent (.tmp 93) (.tmp 95) rfl rfl ROW1 g95 _ e rfl Bg95 (by omega) ?_
    intro v3 v2 hR3 cc2 hat
    have hat2 : ∀ z ∈ ob1 v3, z ∈ ob1 va ∨ W.heap.size ≤ z := fun z hz => (hat z hz).imp id (fun q => by omega)
    obtain ⟨a3, d3, e3⟩ := hR3.sl
    obtain ⟨k3, hk3⟩ : ∃ k, (M ++ [e]).length = k := ⟨_, rfl⟩
    rw [hk3] at e3
    subst e3
    have ARR2 := ARR1.chg cc2 nA
    have g95_2 := Bg95.chg cc2 (fun hm => by have := hlt _ hm; omega)
    have hS2 : v2.cell? ⟨gE, 0, none⟩ = some (.int .i64 e.client) ∧ v2.cell? ⟨gE, 1, none⟩ = some (.int .u64 e.nonce) ∧ v2.cell? ⟨gE, 2, none⟩ = some (.int .u64 e.fee) ∧ v2.cell? ⟨gE, 3, none⟩ = some (.bool e.good) ∧ v2.cell? ⟨gE, 4, none⟩ = some (.int .i64 e.tx.kind) ∧ v2.cell? ⟨gE, 5, none⟩ = some (.int .i64 e.tx.asset) ∧ v2.cell? ⟨gE, 6, none⟩ = some (.int .i64 e.tx.dst) ∧ v2.cell? ⟨gE, 7, none⟩ = some (.bool e.tx.buy) ∧ v2.cell? ⟨gE, 8, none⟩ = some (.int .u64 e.tx.price) ∧ v2.cell? ⟨gE, 9, none⟩ = some (.int .u64 e.tx.qty) ∧ v2.cell? ⟨gE, 10, none⟩ = some (.int .i64 e.tx.id) := ⟨cc2.cell hS1.1 (nE), cc2.cell hS1.2.1 (nE), cc2.cell hS1.2.2.1 (nE), cc2.cell hS1.2.2.2.1 (nE), cc2.cell hS1.2.2.2.2.1 (nE), cc2.cell hS1.2.2.2.2.2.1 (nE), cc2.cell hS1.2.2.2.2.2.2.1 (nE), cc2.cell hS1.2.2.2.2.2.2.2.1 (nE), cc2.cell hS1.2.2.2.2.2.2.2.2.1 (nE), cc2.cell hS1.2.2.2.2.2.2.2.2.2.1 (nE), cc2.cell hS1.2.2.2.2.2.2.2.2.2.2 (nE)⟩
    have ch2 := (ch1).trans' cc2 (fun z hz => .inl (List.mem_cons_of_mem _ hz))
    refine hK.out _ _ hS2 (fun hHeld => ?_)
    clear hK K
    try simp only [Act.put, List.setIfInBounds_toArray, List.set_cons_succ, List.set_cons_zero]
    refine wpAnyH_take (i := 7) (v := ?_) rfl (by kernel_rfl) (by kernel_rfl) (by kernel_rfl) (fun c a w h => hP c a _ _ w h) (Or.inl ⟨by rfl, ?_⟩) hS2 ?_
    rotate_left
    · (intro w hSw; (try dsimp only at hSw); go_simp; (try (with_reducible rfl)))
    change wpAnyH _ _ _ _ _ _ _ (Act.put _ (some 97) _) _
    simp only [Act.put, List.setIfInBounds_toArray, List.set_cons_succ, List.set_cons_zero]
    refine wpAnyH_ready (rs := [8]) (by kernel_rfl) (by simp) (AllReadyH.cons rfl (fun K hK => ?_) (AllReadyH.nil))
    have hS03 := hS2
    have yA := ARR2.at (i := 0) rfl
    have fA := ARR2.free 0
    have cc30 : Chg [gA] v2 (v2.setCell ⟨gA, 0, none⟩ (.slice a3 k3 d3)) := (Chg.refl [gA] v2).setCell _ _ (.inl (by simp))
    have BA2 := ARR2.set 0 (.slice a3 k3 d3)
    have RS := hR3.chg cc30 (fun z hz hm => by simp at hm; subst hm; exact (hat2 _ hz).elim nA (fun q => by omega))
    go_simp
    generalize v2.setCell ⟨gA, 0, none⟩ (.slice a3 k3 d3) = v3 at *
    have cc3 := cc30
    have g95_3 := g95_2.chg cc3 (by simp; omega)
    have hS3 : v3.cell? ⟨gE, 0, none⟩ = some (.int .i64 e.client) ∧ v3.cell? ⟨gE, 1, none⟩ = some (.int .u64 e.nonce) ∧ v3.cell? ⟨gE, 2, none⟩ = some (.int .u64 e.fee) ∧ v3.cell? ⟨gE, 3, none⟩ = some (.bool e.good) ∧ v3.cell? ⟨gE, 4, none⟩ = some (.int .i64 e.tx.kind) ∧ v3.cell? ⟨gE, 5, none⟩ = some (.int .i64 e.tx.asset) ∧ v3.cell? ⟨gE, 6, none⟩ = some (.int .i64 e.tx.dst) ∧ v3.cell? ⟨gE, 7, none⟩ = some (.bool e.tx.buy) ∧ v3.cell? ⟨gE, 8, none⟩ = some (.int .u64 e.tx.price) ∧ v3.cell? ⟨gE, 9, none⟩ = some (.int .u64 e.tx.qty) ∧ v3.cell? ⟨gE, 10, none⟩ = some (.int .i64 e.tx.id) := ⟨cc3.cell hS2.1 (by simp; omega), cc3.cell hS2.2.1 (by simp; omega), cc3.cell hS2.2.2.1 (by simp; omega), cc3.cell hS2.2.2.2.1 (by simp; omega), cc3.cell hS2.2.2.2.2.1 (by simp; omega), cc3.cell hS2.2.2.2.2.2.1 (by simp; omega), cc3.cell hS2.2.2.2.2.2.2.1 (by simp; omega), cc3.cell hS2.2.2.2.2.2.2.2.1 (by simp; omega), cc3.cell hS2.2.2.2.2.2.2.2.2.1 (by simp; omega), cc3.cell hS2.2.2.2.2.2.2.2.2.2.1 (by simp; omega), cc3.cell hS2.2.2.2.2.2.2.2.2.2.2 (by simp; omega)⟩
    have ch3 := (ch2).trans' cc3 (fun z hz => .inl (by simp at hz; simp [hz]))
    refine hK.out _ _ hS3 (fun hHeld => ?_)
    clear hK K
    try simp only [Act.put, List.setIfInBounds_toArray, List.set_cons_succ, List.set_cons_zero]
    refine wpAnyH_done (by kernel_rfl) ?_ _
    exact hQ _ _ RS BA2 ch3 hat2 _ _ _ _ _ _ _ _
set_option maxRecDepth 1000000 in
set_option maxHeartbeats 8000000 in
theorem two_lay1 {Q : Exit → Act → World → Prop} {u0 u1 u2 u3 u4 u5 u6 u7 u8 u11 u12 u14 u15 u16 u17 u18 u19 u20 u21 u22 u23 u24 u25 u26 u27 u28 u29 u30 u31 u32 u33 u34 u35 u36 u37 u38 u39 u40 u41 u42 u43 u44 u45 u46 u47 u48 u49 u50 u51 u52 u53 u54 u55 u56 u57 u58 u59 u60 u61 u62 u63 u64 u65 u66 u67 u68 u69 u70 u71 u72 u73 u74 u75 u76 u77 u78 u79 u80 u81 u82 u83 u84 u85 u86 u87 u88 u89 u90 u91 u92 u93 u94 u95 u96 u97 u98 u99 u100 u101 u102 u103 u104 u105 u106 u107 u108 u109 u110 u111 u112 u113 u114 u115 u116 u117 u118 u119 u120 u121 u122 u123 u124 u125 u126 u127 u128 u129 u130 u131 u132 u133 u134 u135 u136 u137 u138 u139 u140 u141 u142 u143 u144 u145 u146 u147 u148 u149 u150 u151 u152 u153 u154 u155 u156 u157 u158 u159 u160 u161 u162 u163 u164 u165 u166 u167 u168 u169 u170 u171 u172 u173 u174 u175 u176 u177 u178 u179 u180 u181 u182 u183 u184 u185 u186 u187 u188 u189 : Value} (hP : ∀ c a d v w, Q (.panic c) (Act.put a d v) w → Q (.panic c) a w) {W : World} {gA gE : Nat} {va vb : Value} {e : Ent} {M : List Ent} (HA : Hid (Blk W gA 93 [va, vb])) (HE : Hid (Blk W gE 51 (ec e))) (HR : Hid (Rw W vb M)) (hM : M.length ≤ 1000) (nA : gA ∉ ob1 vb) (nE : gE ∉ ob1 vb) (nAE : gA ≠ gE)
    (hQ : ∀ (v : World) (v3 : Value) (_ : Rw v v3 (M ++ [e])) (_ : Blk v gA 93 [va, v3]) (_ : Chg (gA :: ob1 vb) W v) (_ : ∀ z ∈ ob1 v3, z ∈ ob1 vb ∨ W.heap.size ≤ z) (x90 x91 x92 x93 x94 x95 x96 x97 : Value), Q .normal ⟨#[u0, u1, u2, u3, u4, u5, u6, u7, u8, .pointer (some ⟨gA, 0, none⟩), .int .i64 1, u11, u12, .pointer (some ⟨gE, 0, none⟩), u14, u15, u16, u17, u18, u19, u20, u21, u22, u23, u24, u25, u26, u27, u28, u29, u30, u31, u32, u33, u34, u35, u36, u37, u38, u39, u40, u41, u42, u43, u44, u45, u46, u47, u48, u49, u50, u51, u52, u53, u54, u55, u56, u57, u58, u59, u60, u61, u62, u63, u64, u65, u66, u67, u68, u69, u70, u71, u72, u73, u74, u75, u76, u77, u78, u79, u80, u81, u82, u83, u84, u85, u86, u87, u88, u89, x90, x91, x92, x93, x94, x95, x96, x97, u98, u99, u100, u101, u102, u103, u104, u105, u106, u107, u108, u109, u110, u111, u112, u113, u114, u115, u116, u117, u118, u119, u120, u121, u122, u123, u124, u125, u126, u127, u128, u129, u130, u131, u132, u133, u134, u135, u136, u137, u138, u139, u140, u141, u142, u143, u144, u145, u146, u147, u148, u149, u150, u151, u152, u153, u154, u155, u156, u157, u158, u159, u160, u161, u162, u163, u164, u165, u166, u167, u168, u169, u170, u171, u172, u173, u174, u175, u176, u177, u178, u179, u180, u181, u182, u183, u184, u185, u186, u187, u188, u189], []⟩ v) :
    Code.wp Tryz.prog (regionOf Tryz.f9 14) Q ⟨#[u0, u1, u2, u3, u4, u5, u6, u7, u8, .pointer (some ⟨gA, 0, none⟩), .int .i64 1, u11, u12, .pointer (some ⟨gE, 0, none⟩), u14, u15, u16, u17, u18, u19, u20, u21, u22, u23, u24, u25, u26, u27, u28, u29, u30, u31, u32, u33, u34, u35, u36, u37, u38, u39, u40, u41, u42, u43, u44, u45, u46, u47, u48, u49, u50, u51, u52, u53, u54, u55, u56, u57, u58, u59, u60, u61, u62, u63, u64, u65, u66, u67, u68, u69, u70, u71, u72, u73, u74, u75, u76, u77, u78, u79, u80, u81, u82, u83, u84, u85, u86, u87, u88, u89, u90, u91, u92, u93, u94, u95, u96, u97, u98, u99, u100, u101, u102, u103, u104, u105, u106, u107, u108, u109, u110, u111, u112, u113, u114, u115, u116, u117, u118, u119, u120, u121, u122, u123, u124, u125, u126, u127, u128, u129, u130, u131, u132, u133, u134, u135, u136, u137, u138, u139, u140, u141, u142, u143, u144, u145, u146, u147, u148, u149, u150, u151, u152, u153, u154, u155, u156, u157, u158, u159, u160, u161, u162, u163, u164, u165, u166, u167, u168, u169, u170, u171, u172, u173, u174, u175, u176, u177, u178, u179, u180, u181, u182, u183, u184, u185, u186, u187, u188, u189], []⟩ W := by
  conv => arg 2; whnf
  have hlt := HR.out.lt
  have hlA := HA.out.lt
  have hlE := HE.out.lt
  refine wp_region_held_drew (S := (fun w' => w'.cell? ⟨gE, 0, none⟩ = some (.int .i64 e.client) ∧ w'.cell? ⟨gE, 1, none⟩ = some (.int .u64 e.nonce) ∧ w'.cell? ⟨gE, 2, none⟩ = some (.int .u64 e.fee) ∧ w'.cell? ⟨gE, 3, none⟩ = some (.bool e.good) ∧ w'.cell? ⟨gE, 4, none⟩ = some (.int .i64 e.tx.kind) ∧ w'.cell? ⟨gE, 5, none⟩ = some (.int .i64 e.tx.asset) ∧ w'.cell? ⟨gE, 6, none⟩ = some (.int .i64 e.tx.dst) ∧ w'.cell? ⟨gE, 7, none⟩ = some (.bool e.tx.buy) ∧ w'.cell? ⟨gE, 8, none⟩ = some (.int .u64 e.tx.price) ∧ w'.cell? ⟨gE, 9, none⟩ = some (.int .u64 e.tx.qty) ∧ w'.cell? ⟨gE, 10, none⟩ = some (.int .i64 e.tx.id))) (by kernel_rfl) ⟨HE.out.at (i := 0) rfl, HE.out.at (i := 1) rfl, HE.out.at (i := 2) rfl, HE.out.at (i := 3) rfl, HE.out.at (i := 4) rfl, HE.out.at (i := 5) rfl, HE.out.at (i := 6) rfl, HE.out.at (i := 7) rfl, HE.out.at (i := 8) rfl, HE.out.at (i := 9) rfl, HE.out.at (i := 10) rfl⟩ (fun _ => ?_)
  have hS : W.drew.cell? ⟨gE, 0, none⟩ = some (.int .i64 e.client) ∧ W.drew.cell? ⟨gE, 1, none⟩ = some (.int .u64 e.nonce) ∧ W.drew.cell? ⟨gE, 2, none⟩ = some (.int .u64 e.fee) ∧ W.drew.cell? ⟨gE, 3, none⟩ = some (.bool e.good) ∧ W.drew.cell? ⟨gE, 4, none⟩ = some (.int .i64 e.tx.kind) ∧ W.drew.cell? ⟨gE, 5, none⟩ = some (.int .i64 e.tx.asset) ∧ W.drew.cell? ⟨gE, 6, none⟩ = some (.int .i64 e.tx.dst) ∧ W.drew.cell? ⟨gE, 7, none⟩ = some (.bool e.tx.buy) ∧ W.drew.cell? ⟨gE, 8, none⟩ = some (.int .u64 e.tx.price) ∧ W.drew.cell? ⟨gE, 9, none⟩ = some (.int .u64 e.tx.qty) ∧ W.drew.cell? ⟨gE, 10, none⟩ = some (.int .i64 e.tx.id) := ⟨HE.out.at (i := 0) rfl, HE.out.at (i := 1) rfl, HE.out.at (i := 2) rfl, HE.out.at (i := 3) rfl, HE.out.at (i := 4) rfl, HE.out.at (i := 5) rfl, HE.out.at (i := 6) rfl, HE.out.at (i := 7) rfl, HE.out.at (i := 8) rfl, HE.out.at (i := 9) rfl, HE.out.at (i := 10) rfl⟩
  have chW : Chg (gA :: ob1 vb) W W.drew := (Chg.refl _ W).drew
  have ARR_0 := (HA.out.chg ((Chg.refl [] W).drew) (by simp))
  have ROW_0 := (HR.out.chg ((Chg.refl [] W).drew) (by simp))
  generalize hWD : W.drew = v0 at *
  refine wpAnyH_take (i := 0) (v := ?_) rfl (by kernel_rfl) (by kernel_rfl) (by kernel_rfl) (fun c a w h => hP c a _ _ w h) (Or.inl ⟨by rfl, ?_⟩) hS ?_
  rotate_left
  · (intro w hSw; (try dsimp only at hSw); go_simp; (try (with_reducible rfl)))
  change wpAnyH _ _ _ _ _ _ _ (Act.put _ (some 90) _) _
  simp only [Act.put, List.setIfInBounds_toArray, List.set_cons_succ, List.set_cons_zero]
  refine wpAnyH_take (i := 1) (v := ?_) rfl (by kernel_rfl) (by kernel_rfl) (by kernel_rfl) (fun c a w h => hP c a _ _ w h) (Or.inl ⟨by rfl, ?_⟩) hS ?_
  rotate_left
  · (intro w hSw; (try dsimp only at hSw); go_simp; (try (with_reducible rfl)))
  change wpAnyH _ _ _ _ _ _ _ (Act.put _ (some 91) _) _
  simp only [Act.put, List.setIfInBounds_toArray, List.set_cons_succ, List.set_cons_zero]
  refine wpAnyH_take (i := 2) (v := ?_) rfl (by kernel_rfl) (by kernel_rfl) (by kernel_rfl) (fun c a w h => hP c a _ _ w h) (Or.inl ⟨by rfl, ?_⟩) hS ?_
  rotate_left
  · (intro w hSw; (try dsimp only at hSw); go_simp; (try (with_reducible rfl)))
  change wpAnyH _ _ _ _ _ _ _ (Act.put _ (some 92) _) _
  simp only [Act.put, List.setIfInBounds_toArray, List.set_cons_succ, List.set_cons_zero]
  refine wpAnyH_take (i := 4) (v := ?_) rfl (by kernel_rfl) (by kernel_rfl) (by kernel_rfl) (fun c a w h => hP c a _ _ w h) (Or.inl ⟨by rfl, ?_⟩) hS ?_
  rotate_left
  · (intro w hSw; (try dsimp only at hSw); go_simp; (try (with_reducible rfl)))
  change wpAnyH _ _ _ _ _ _ _ (Act.put _ (some 94) _) _
  simp only [Act.put, List.setIfInBounds_toArray, List.set_cons_succ, List.set_cons_zero]
  refine wpAnyH_ready (rs := [3, 5]) (by kernel_rfl) (by simp) (AllReadyH.cons rfl (fun K hK => ?_) (AllReadyH.cons rfl (fun K hK => ?_) (AllReadyH.nil)))
  · skip
    have kc3 := ARR_0.at (i := 1) rfl
    go_simp
    refine hK.out _ _ hS (fun hHeld => ?_)
    clear hK K
    try simp only [Act.put, List.setIfInBounds_toArray, List.set_cons_succ, List.set_cons_zero]
    refine wpAnyH_ready (rs := [5]) (by kernel_rfl) (by simp) (AllReadyH.cons rfl (fun K hK => ?_) (AllReadyH.nil))
    have hS01 := hS
    have cc1 : Chg [] v0 (v0.alloc (.cells #[.int .i64 e.client, .int .u64 e.nonce, .int .u64 e.fee, .bool e.good, .int .i64 e.tx.kind, .int .i64 e.tx.asset, .int .i64 e.tx.dst, .bool e.tx.buy, .int .u64 e.tx.price, .int .u64 e.tx.qty, .int .i64 e.tx.id] 51)) := (Chg.refl _ _).alloc _
    have Bg95 : Blk (v0.alloc (.cells #[.int .i64 e.client, .int .u64 e.nonce, .int .u64 e.fee, .bool e.good, .int .i64 e.tx.kind, .int .i64 e.tx.asset, .int .i64 e.tx.dst, .bool e.tx.buy, .int .u64 e.tx.price, .int .u64 e.tx.qty, .int .i64 e.tx.id] 51)) v0.heap.size 51 [.int .i64 e.client, .int .u64 e.nonce, .int .u64 e.fee, .bool e.good, .int .i64 e.tx.kind, .int .i64 e.tx.asset, .int .i64 e.tx.dst, .bool e.tx.buy, .int .u64 e.tx.price, .int .u64 e.tx.qty, .int .i64 e.tx.id] := Blk.new _ _ _
    have Lg95 := chW.size
    have sz_1 := cc1.size
    go_simp
    generalize hg95 : v0.heap.size = g95 at *
    generalize v0.alloc _ = v1 at *
    have ARR1 := ARR_0.chg cc1 (by simp)
    have ROW1 := ROW_0.chg cc1 (by simp)
    have hS1 : v1.cell? ⟨gE, 0, none⟩ = some (.int .i64 e.client) ∧ v1.cell? ⟨gE, 1, none⟩ = some (.int .u64 e.nonce) ∧ v1.cell? ⟨gE, 2, none⟩ = some (.int .u64 e.fee) ∧ v1.cell? ⟨gE, 3, none⟩ = some (.bool e.good) ∧ v1.cell? ⟨gE, 4, none⟩ = some (.int .i64 e.tx.kind) ∧ v1.cell? ⟨gE, 5, none⟩ = some (.int .i64 e.tx.asset) ∧ v1.cell? ⟨gE, 6, none⟩ = some (.int .i64 e.tx.dst) ∧ v1.cell? ⟨gE, 7, none⟩ = some (.bool e.tx.buy) ∧ v1.cell? ⟨gE, 8, none⟩ = some (.int .u64 e.tx.price) ∧ v1.cell? ⟨gE, 9, none⟩ = some (.int .u64 e.tx.qty) ∧ v1.cell? ⟨gE, 10, none⟩ = some (.int .i64 e.tx.id) := ⟨cc1.cell hS.1 (by simp), cc1.cell hS.2.1 (by simp), cc1.cell hS.2.2.1 (by simp), cc1.cell hS.2.2.2.1 (by simp), cc1.cell hS.2.2.2.2.1 (by simp), cc1.cell hS.2.2.2.2.2.1 (by simp), cc1.cell hS.2.2.2.2.2.2.1 (by simp), cc1.cell hS.2.2.2.2.2.2.2.1 (by simp), cc1.cell hS.2.2.2.2.2.2.2.2.1 (by simp), cc1.cell hS.2.2.2.2.2.2.2.2.2.1 (by simp), cc1.cell hS.2.2.2.2.2.2.2.2.2.2 (by simp)⟩
    have ch1 := (chW).trans' cc1 (by simp)
    refine hK.out _ _ hS1 (fun hHeld => ?_)
    clear hK K
    try simp only [Act.put, List.setIfInBounds_toArray, List.set_cons_succ, List.set_cons_zero]
    refine wpAnyH_ready (rs := [6]) (by kernel_rfl) (by simp) (AllReadyH.cons rfl (fun K hK => ?_) (AllReadyH.nil))
    have hS02 := hS1
    have szc := ch1.size
    refine wp_app_ent (.tmp 93) (.tmp 95) rfl rfl ROW1 g95 _ e rfl Bg95 (by omega) ?_
    intro v3 v2 hR3 cc2 hat
    have hat2 : ∀ z ∈ ob1 v3, z ∈ ob1 vb ∨ W.heap.size ≤ z := fun z hz => (hat z hz).imp id (fun q => by omega)
    obtain ⟨a3, d3, e3⟩ := hR3.sl
    obtain ⟨k3, hk3⟩ : ∃ k, (M ++ [e]).length = k := ⟨_, rfl⟩
    rw [hk3] at e3
    subst e3
    have ARR2 := ARR1.chg cc2 nA
    have g95_2 := Bg95.chg cc2 (fun hm => by have := hlt _ hm; omega)
    have hS2 : v2.cell? ⟨gE, 0, none⟩ = some (.int .i64 e.client) ∧ v2.cell? ⟨gE, 1, none⟩ = some (.int .u64 e.nonce) ∧ v2.cell? ⟨gE, 2, none⟩ = some (.int .u64 e.fee) ∧ v2.cell? ⟨gE, 3, none⟩ = some (.bool e.good) ∧ v2.cell? ⟨gE, 4, none⟩ = some (.int .i64 e.tx.kind) ∧ v2.cell? ⟨gE, 5, none⟩ = some (.int .i64 e.tx.asset) ∧ v2.cell? ⟨gE, 6, none⟩ = some (.int .i64 e.tx.dst) ∧ v2.cell? ⟨gE, 7, none⟩ = some (.bool e.tx.buy) ∧ v2.cell? ⟨gE, 8, none⟩ = some (.int .u64 e.tx.price) ∧ v2.cell? ⟨gE, 9, none⟩ = some (.int .u64 e.tx.qty) ∧ v2.cell? ⟨gE, 10, none⟩ = some (.int .i64 e.tx.id) := ⟨cc2.cell hS1.1 (nE), cc2.cell hS1.2.1 (nE), cc2.cell hS1.2.2.1 (nE), cc2.cell hS1.2.2.2.1 (nE), cc2.cell hS1.2.2.2.2.1 (nE), cc2.cell hS1.2.2.2.2.2.1 (nE), cc2.cell hS1.2.2.2.2.2.2.1 (nE), cc2.cell hS1.2.2.2.2.2.2.2.1 (nE), cc2.cell hS1.2.2.2.2.2.2.2.2.1 (nE), cc2.cell hS1.2.2.2.2.2.2.2.2.2.1 (nE), cc2.cell hS1.2.2.2.2.2.2.2.2.2.2 (nE)⟩
    have ch2 := (ch1).trans' cc2 (fun z hz => .inl (List.mem_cons_of_mem _ hz))
    refine hK.out _ _ hS2 (fun hHeld => ?_)
    clear hK K
    try simp only [Act.put, List.setIfInBounds_toArray, List.set_cons_succ, List.set_cons_zero]
    refine wpAnyH_take (i := 7) (v := ?_) rfl (by kernel_rfl) (by kernel_rfl) (by kernel_rfl) (fun c a w h => hP c a _ _ w h) (Or.inl ⟨by rfl, ?_⟩) hS2 ?_
    rotate_left
    · (intro w hSw; (try dsimp only at hSw); go_simp; (try (with_reducible rfl)))
    change wpAnyH _ _ _ _ _ _ _ (Act.put _ (some 97) _) _
    simp only [Act.put, List.setIfInBounds_toArray, List.set_cons_succ, List.set_cons_zero]
    refine wpAnyH_ready (rs := [8]) (by kernel_rfl) (by simp) (AllReadyH.cons rfl (fun K hK => ?_) (AllReadyH.nil))
    have hS03 := hS2
    have yA := ARR2.at (i := 1) rfl
    have fA := ARR2.free 1
    have cc30 : Chg [gA] v2 (v2.setCell ⟨gA, 1, none⟩ (.slice a3 k3 d3)) := (Chg.refl [gA] v2).setCell _ _ (.inl (by simp))
    have BA2 := ARR2.set 1 (.slice a3 k3 d3)
    have RS := hR3.chg cc30 (fun z hz hm => by simp at hm; subst hm; exact (hat2 _ hz).elim nA (fun q => by omega))
    go_simp
    generalize v2.setCell ⟨gA, 1, none⟩ (.slice a3 k3 d3) = v3 at *
    have cc3 := cc30
    have g95_3 := g95_2.chg cc3 (by simp; omega)
    have hS3 : v3.cell? ⟨gE, 0, none⟩ = some (.int .i64 e.client) ∧ v3.cell? ⟨gE, 1, none⟩ = some (.int .u64 e.nonce) ∧ v3.cell? ⟨gE, 2, none⟩ = some (.int .u64 e.fee) ∧ v3.cell? ⟨gE, 3, none⟩ = some (.bool e.good) ∧ v3.cell? ⟨gE, 4, none⟩ = some (.int .i64 e.tx.kind) ∧ v3.cell? ⟨gE, 5, none⟩ = some (.int .i64 e.tx.asset) ∧ v3.cell? ⟨gE, 6, none⟩ = some (.int .i64 e.tx.dst) ∧ v3.cell? ⟨gE, 7, none⟩ = some (.bool e.tx.buy) ∧ v3.cell? ⟨gE, 8, none⟩ = some (.int .u64 e.tx.price) ∧ v3.cell? ⟨gE, 9, none⟩ = some (.int .u64 e.tx.qty) ∧ v3.cell? ⟨gE, 10, none⟩ = some (.int .i64 e.tx.id) := ⟨cc3.cell hS2.1 (by simp; omega), cc3.cell hS2.2.1 (by simp; omega), cc3.cell hS2.2.2.1 (by simp; omega), cc3.cell hS2.2.2.2.1 (by simp; omega), cc3.cell hS2.2.2.2.2.1 (by simp; omega), cc3.cell hS2.2.2.2.2.2.1 (by simp; omega), cc3.cell hS2.2.2.2.2.2.2.1 (by simp; omega), cc3.cell hS2.2.2.2.2.2.2.2.1 (by simp; omega), cc3.cell hS2.2.2.2.2.2.2.2.2.1 (by simp; omega), cc3.cell hS2.2.2.2.2.2.2.2.2.2.1 (by simp; omega), cc3.cell hS2.2.2.2.2.2.2.2.2.2.2 (by simp; omega)⟩
    have ch3 := (ch2).trans' cc3 (fun z hz => .inl (by simp at hz; simp [hz]))
    refine hK.out _ _ hS3 (fun hHeld => ?_)
    clear hK K
    try simp only [Act.put, List.setIfInBounds_toArray, List.set_cons_succ, List.set_cons_zero]
    refine wpAnyH_done (by kernel_rfl) ?_ _
    exact hQ _ _ RS BA2 ch3 hat2 _ _ _ _ _ _ _ _
  · skip
    have hS01 := hS
    have cc1 : Chg [] v0 (v0.alloc (.cells #[.int .i64 e.client, .int .u64 e.nonce, .int .u64 e.fee, .bool e.good, .int .i64 e.tx.kind, .int .i64 e.tx.asset, .int .i64 e.tx.dst, .bool e.tx.buy, .int .u64 e.tx.price, .int .u64 e.tx.qty, .int .i64 e.tx.id] 51)) := (Chg.refl _ _).alloc _
    have Bg95 : Blk (v0.alloc (.cells #[.int .i64 e.client, .int .u64 e.nonce, .int .u64 e.fee, .bool e.good, .int .i64 e.tx.kind, .int .i64 e.tx.asset, .int .i64 e.tx.dst, .bool e.tx.buy, .int .u64 e.tx.price, .int .u64 e.tx.qty, .int .i64 e.tx.id] 51)) v0.heap.size 51 [.int .i64 e.client, .int .u64 e.nonce, .int .u64 e.fee, .bool e.good, .int .i64 e.tx.kind, .int .i64 e.tx.asset, .int .i64 e.tx.dst, .bool e.tx.buy, .int .u64 e.tx.price, .int .u64 e.tx.qty, .int .i64 e.tx.id] := Blk.new _ _ _
    have Lg95 := chW.size
    have sz_1 := cc1.size
    go_simp
    generalize hg95 : v0.heap.size = g95 at *
    generalize v0.alloc _ = v1 at *
    have ARR1 := ARR_0.chg cc1 (by simp)
    have ROW1 := ROW_0.chg cc1 (by simp)
    have hS1 : v1.cell? ⟨gE, 0, none⟩ = some (.int .i64 e.client) ∧ v1.cell? ⟨gE, 1, none⟩ = some (.int .u64 e.nonce) ∧ v1.cell? ⟨gE, 2, none⟩ = some (.int .u64 e.fee) ∧ v1.cell? ⟨gE, 3, none⟩ = some (.bool e.good) ∧ v1.cell? ⟨gE, 4, none⟩ = some (.int .i64 e.tx.kind) ∧ v1.cell? ⟨gE, 5, none⟩ = some (.int .i64 e.tx.asset) ∧ v1.cell? ⟨gE, 6, none⟩ = some (.int .i64 e.tx.dst) ∧ v1.cell? ⟨gE, 7, none⟩ = some (.bool e.tx.buy) ∧ v1.cell? ⟨gE, 8, none⟩ = some (.int .u64 e.tx.price) ∧ v1.cell? ⟨gE, 9, none⟩ = some (.int .u64 e.tx.qty) ∧ v1.cell? ⟨gE, 10, none⟩ = some (.int .i64 e.tx.id) := ⟨cc1.cell hS.1 (by simp), cc1.cell hS.2.1 (by simp), cc1.cell hS.2.2.1 (by simp), cc1.cell hS.2.2.2.1 (by simp), cc1.cell hS.2.2.2.2.1 (by simp), cc1.cell hS.2.2.2.2.2.1 (by simp), cc1.cell hS.2.2.2.2.2.2.1 (by simp), cc1.cell hS.2.2.2.2.2.2.2.1 (by simp), cc1.cell hS.2.2.2.2.2.2.2.2.1 (by simp), cc1.cell hS.2.2.2.2.2.2.2.2.2.1 (by simp), cc1.cell hS.2.2.2.2.2.2.2.2.2.2 (by simp)⟩
    have ch1 := (chW).trans' cc1 (by simp)
    refine hK.out _ _ hS1 (fun hHeld => ?_)
    clear hK K
    try simp only [Act.put, List.setIfInBounds_toArray, List.set_cons_succ, List.set_cons_zero]
    refine wpAnyH_ready (rs := [3]) (by kernel_rfl) (by simp) (AllReadyH.cons rfl (fun K hK => ?_) (AllReadyH.nil))
    have kc3 := ARR1.at (i := 1) rfl
    go_simp
    refine hK.out _ _ hS1 (fun hHeld => ?_)
    clear hK K
    try simp only [Act.put, List.setIfInBounds_toArray, List.set_cons_succ, List.set_cons_zero]
    refine wpAnyH_ready (rs := [6]) (by kernel_rfl) (by simp) (AllReadyH.cons rfl (fun K hK => ?_) (AllReadyH.nil))
    have hS02 := hS1
    have szc := ch1.size
    refine wp_app_ent (.tmp 93) (.tmp 95) rfl rfl ROW1 g95 _ e rfl Bg95 (by omega) ?_
    intro v3 v2 hR3 cc2 hat
    have hat2 : ∀ z ∈ ob1 v3, z ∈ ob1 vb ∨ W.heap.size ≤ z := fun z hz => (hat z hz).imp id (fun q => by omega)
    obtain ⟨a3, d3, e3⟩ := hR3.sl
    obtain ⟨k3, hk3⟩ : ∃ k, (M ++ [e]).length = k := ⟨_, rfl⟩
    rw [hk3] at e3
    subst e3
    have ARR2 := ARR1.chg cc2 nA
    have g95_2 := Bg95.chg cc2 (fun hm => by have := hlt _ hm; omega)
    have hS2 : v2.cell? ⟨gE, 0, none⟩ = some (.int .i64 e.client) ∧ v2.cell? ⟨gE, 1, none⟩ = some (.int .u64 e.nonce) ∧ v2.cell? ⟨gE, 2, none⟩ = some (.int .u64 e.fee) ∧ v2.cell? ⟨gE, 3, none⟩ = some (.bool e.good) ∧ v2.cell? ⟨gE, 4, none⟩ = some (.int .i64 e.tx.kind) ∧ v2.cell? ⟨gE, 5, none⟩ = some (.int .i64 e.tx.asset) ∧ v2.cell? ⟨gE, 6, none⟩ = some (.int .i64 e.tx.dst) ∧ v2.cell? ⟨gE, 7, none⟩ = some (.bool e.tx.buy) ∧ v2.cell? ⟨gE, 8, none⟩ = some (.int .u64 e.tx.price) ∧ v2.cell? ⟨gE, 9, none⟩ = some (.int .u64 e.tx.qty) ∧ v2.cell? ⟨gE, 10, none⟩ = some (.int .i64 e.tx.id) := ⟨cc2.cell hS1.1 (nE), cc2.cell hS1.2.1 (nE), cc2.cell hS1.2.2.1 (nE), cc2.cell hS1.2.2.2.1 (nE), cc2.cell hS1.2.2.2.2.1 (nE), cc2.cell hS1.2.2.2.2.2.1 (nE), cc2.cell hS1.2.2.2.2.2.2.1 (nE), cc2.cell hS1.2.2.2.2.2.2.2.1 (nE), cc2.cell hS1.2.2.2.2.2.2.2.2.1 (nE), cc2.cell hS1.2.2.2.2.2.2.2.2.2.1 (nE), cc2.cell hS1.2.2.2.2.2.2.2.2.2.2 (nE)⟩
    have ch2 := (ch1).trans' cc2 (fun z hz => .inl (List.mem_cons_of_mem _ hz))
    refine hK.out _ _ hS2 (fun hHeld => ?_)
    clear hK K
    try simp only [Act.put, List.setIfInBounds_toArray, List.set_cons_succ, List.set_cons_zero]
    refine wpAnyH_take (i := 7) (v := ?_) rfl (by kernel_rfl) (by kernel_rfl) (by kernel_rfl) (fun c a w h => hP c a _ _ w h) (Or.inl ⟨by rfl, ?_⟩) hS2 ?_
    rotate_left
    · (intro w hSw; (try dsimp only at hSw); go_simp; (try (with_reducible rfl)))
    change wpAnyH _ _ _ _ _ _ _ (Act.put _ (some 97) _) _
    simp only [Act.put, List.setIfInBounds_toArray, List.set_cons_succ, List.set_cons_zero]
    refine wpAnyH_ready (rs := [8]) (by kernel_rfl) (by simp) (AllReadyH.cons rfl (fun K hK => ?_) (AllReadyH.nil))
    have hS03 := hS2
    have yA := ARR2.at (i := 1) rfl
    have fA := ARR2.free 1
    have cc30 : Chg [gA] v2 (v2.setCell ⟨gA, 1, none⟩ (.slice a3 k3 d3)) := (Chg.refl [gA] v2).setCell _ _ (.inl (by simp))
    have BA2 := ARR2.set 1 (.slice a3 k3 d3)
    have RS := hR3.chg cc30 (fun z hz hm => by simp at hm; subst hm; exact (hat2 _ hz).elim nA (fun q => by omega))
    go_simp
    generalize v2.setCell ⟨gA, 1, none⟩ (.slice a3 k3 d3) = v3 at *
    have cc3 := cc30
    have g95_3 := g95_2.chg cc3 (by simp; omega)
    have hS3 : v3.cell? ⟨gE, 0, none⟩ = some (.int .i64 e.client) ∧ v3.cell? ⟨gE, 1, none⟩ = some (.int .u64 e.nonce) ∧ v3.cell? ⟨gE, 2, none⟩ = some (.int .u64 e.fee) ∧ v3.cell? ⟨gE, 3, none⟩ = some (.bool e.good) ∧ v3.cell? ⟨gE, 4, none⟩ = some (.int .i64 e.tx.kind) ∧ v3.cell? ⟨gE, 5, none⟩ = some (.int .i64 e.tx.asset) ∧ v3.cell? ⟨gE, 6, none⟩ = some (.int .i64 e.tx.dst) ∧ v3.cell? ⟨gE, 7, none⟩ = some (.bool e.tx.buy) ∧ v3.cell? ⟨gE, 8, none⟩ = some (.int .u64 e.tx.price) ∧ v3.cell? ⟨gE, 9, none⟩ = some (.int .u64 e.tx.qty) ∧ v3.cell? ⟨gE, 10, none⟩ = some (.int .i64 e.tx.id) := ⟨cc3.cell hS2.1 (by simp; omega), cc3.cell hS2.2.1 (by simp; omega), cc3.cell hS2.2.2.1 (by simp; omega), cc3.cell hS2.2.2.2.1 (by simp; omega), cc3.cell hS2.2.2.2.2.1 (by simp; omega), cc3.cell hS2.2.2.2.2.2.1 (by simp; omega), cc3.cell hS2.2.2.2.2.2.2.1 (by simp; omega), cc3.cell hS2.2.2.2.2.2.2.2.1 (by simp; omega), cc3.cell hS2.2.2.2.2.2.2.2.2.1 (by simp; omega), cc3.cell hS2.2.2.2.2.2.2.2.2.2.1 (by simp; omega), cc3.cell hS2.2.2.2.2.2.2.2.2.2.2 (by simp; omega)⟩
    have ch3 := (ch2).trans' cc3 (fun z hz => .inl (by simp at hz; simp [hz]))
    refine hK.out _ _ hS3 (fun hHeld => ?_)
    clear hK K
    try simp only [Act.put, List.setIfInBounds_toArray, List.set_cons_succ, List.set_cons_zero]
    refine wpAnyH_done (by kernel_rfl) ?_ _
    exact hQ _ _ RS BA2 ch3 hat2 _ _ _ _ _ _ _ _
set_option maxRecDepth 1000000 in
set_option maxHeartbeats 8000000 in
theorem two_end {Q : Exit → Act → World → Prop} {u0 u1 u2 u3 u4 u5 u6 u10 u11 u12 u13 u14 u15 u16 u17 u18 u19 u20 u21 u22 u23 u24 u25 u26 u27 u28 u29 u30 u31 u32 u33 u34 u35 u36 u37 u38 u39 u40 u41 u42 u43 u44 u45 u46 u47 u48 u49 u50 u51 u52 u53 u54 u55 u56 u57 u58 u59 u60 u61 u62 u63 u64 u65 u66 u67 u68 u69 u70 u71 u72 u73 u74 u75 u76 u77 u78 u79 u80 u81 u82 u83 u84 u85 u86 u87 u88 u89 u90 u91 u92 u93 u94 u95 u96 u97 u98 u99 u100 u101 u102 u103 u104 u105 u106 u107 u108 u109 u110 u111 u112 u113 u114 u115 u116 u117 u118 u119 u120 u121 u122 u123 u124 u125 u126 u127 u128 u129 u130 u131 u132 u133 u134 u135 u136 u137 u138 u139 u140 u141 u142 u143 u144 u145 u146 u147 u148 u149 u150 u151 u152 u153 u154 u155 u156 u157 u158 u159 u160 u161 u162 u163 u164 u165 u166 u167 u168 u169 u170 u171 u172 u173 u174 u175 u176 u177 u178 u179 u180 u181 u182 u183 u184 u185 u186 u187 u188 u189 : Value} (hP : ∀ c a d v w, Q (.panic c) (Act.put a d v) w → Q (.panic c) a w) {w W : World} {x y t1 t2 gA n0 n1 d0 d1 : Nat} {p0 p1 : Option Addr} {FX FY : List Nat} {S : LS} {s : ByteArray} {gt : Int} (HX : Hid (LedX w W x 2 FX S t1)) (HY : Hid (LedX w W y 2 FY S t2)) (HA : Hid (Blk W gA 93 [.slice p0 n0 d0, .slice p1 n1 d1])) (ht1 : t1 ≤ 100000) (ht2 : t2 ≤ 100000) (HSS : Hid (bstr (stB 2 S) = s)) (HG : Hid (S.got = gt)) (HN0 : Hid (lNextV 2 S 0 = (n0 : Int))) (HN1 : Hid (lNextV 2 S 1 = (n1 : Int))) (wn0 : IntKind.u64.wrap (n0 : Int) = n0) (wn1 : IntKind.u64.wrap (n1 : Int) = n1)
    (hQ : ∀ (v : World) (_ : Chg [] W v) (x155 x156 x157 x158 x159 x160 x161 x162 x163 x164 x165 x166 x167 x168 x169 x170 x171 x172 x173 x174 x175 x176 x177 x178 x179 x180 x181 x182 x183 x184 x185 x186 x187 x188 x189 : Value), Q .normal ⟨#[u0, u1, u2, u3, u4, u5, .bool true, .pointer (some ⟨x, 0, none⟩), .pointer (some ⟨y, 0, none⟩), .pointer (some ⟨gA, 0, none⟩), u10, u11, u12, u13, u14, u15, u16, u17, u18, u19, u20, u21, u22, u23, u24, u25, u26, u27, u28, u29, u30, u31, u32, u33, u34, u35, u36, u37, u38, u39, u40, u41, u42, u43, u44, u45, u46, u47, u48, u49, u50, u51, u52, u53, u54, u55, u56, u57, u58, u59, u60, u61, u62, u63, u64, u65, u66, u67, u68, u69, u70, u71, u72, u73, u74, u75, u76, u77, u78, u79, u80, u81, u82, u83, u84, u85, u86, u87, u88, u89, u90, u91, u92, u93, u94, u95, u96, u97, u98, u99, u100, u101, u102, u103, u104, u105, u106, u107, u108, u109, u110, u111, u112, u113, u114, u115, u116, u117, u118, u119, u120, u121, u122, u123, u124, u125, u126, u127, u128, u129, u130, u131, u132, u133, u134, u135, u136, u137, u138, u139, u140, u141, u142, u143, u144, u145, u146, u147, u148, u149, u150, u151, u152, u153, u154, x155, x156, x157, x158, x159, x160, x161, x162, x163, x164, x165, x166, x167, x168, x169, x170, x171, x172, x173, x174, x175, x176, x177, x178, x179, x180, x181, x182, x183, x184, x185, x186, x187, x188, x189], []⟩ v) :
    Code.wp Tryz.prog (regionOf Tryz.f9 24) Q ⟨#[u0, u1, u2, u3, u4, u5, u6, .pointer (some ⟨x, 0, none⟩), .pointer (some ⟨y, 0, none⟩), .pointer (some ⟨gA, 0, none⟩), u10, u11, u12, u13, u14, u15, u16, u17, u18, u19, u20, u21, u22, u23, u24, u25, u26, u27, u28, u29, u30, u31, u32, u33, u34, u35, u36, u37, u38, u39, u40, u41, u42, u43, u44, u45, u46, u47, u48, u49, u50, u51, u52, u53, u54, u55, u56, u57, u58, u59, u60, u61, u62, u63, u64, u65, u66, u67, u68, u69, u70, u71, u72, u73, u74, u75, u76, u77, u78, u79, u80, u81, u82, u83, u84, u85, u86, u87, u88, u89, u90, u91, u92, u93, u94, u95, u96, u97, u98, u99, u100, u101, u102, u103, u104, u105, u106, u107, u108, u109, u110, u111, u112, u113, u114, u115, u116, u117, u118, u119, u120, u121, u122, u123, u124, u125, u126, u127, u128, u129, u130, u131, u132, u133, u134, u135, u136, u137, u138, u139, u140, u141, u142, u143, u144, u145, u146, u147, u148, u149, u150, u151, u152, u153, u154, u155, u156, u157, u158, u159, u160, u161, u162, u163, u164, u165, u166, u167, u168, u169, u170, u171, u172, u173, u174, u175, u176, u177, u178, u179, u180, u181, u182, u183, u184, u185, u186, u187, u188, u189], []⟩ W := by
  conv => arg 2; whnf
  refine wp_region_held_drew (S := (fun w' => w'.cell? ⟨gA, 0, none⟩ = some (.slice p0 n0 d0) ∧ w'.cell? ⟨gA, 1, none⟩ = some (.slice p1 n1 d1))) (by kernel_rfl) ⟨HA.out.at (i := 0) rfl, HA.out.at (i := 1) rfl⟩ (fun _ => ?_)
  have hS : W.drew.cell? ⟨gA, 0, none⟩ = some (.slice p0 n0 d0) ∧ W.drew.cell? ⟨gA, 1, none⟩ = some (.slice p1 n1 d1) := ⟨HA.out.at (i := 0) rfl, HA.out.at (i := 1) rfl⟩
  have chW : Chg [] W W.drew := (Chg.refl _ W).drew
  have LX_0 := (HX.out.to (Chg.refl [] W).drew)
  have LY_0 := (HY.out.to (Chg.refl [] W).drew)
  generalize hWD : W.drew = v0 at *
  refine wpAnyH_take (i := 0) (v := ?_) rfl (by kernel_rfl) (by kernel_rfl) (by kernel_rfl) (fun c a w h => hP c a _ _ w h) (Or.inl ⟨by rfl, ?_⟩) hS ?_
  rotate_left
  · (intro w hSw; (try dsimp only at hSw); go_simp; (try (with_reducible rfl)))
  change wpAnyH _ _ _ _ _ _ _ (Act.put _ (some 155) _) _
  simp only [Act.put, List.setIfInBounds_toArray, List.set_cons_succ, List.set_cons_zero]
  refine wpAnyH_take (i := 3) (v := ?_) rfl (by kernel_rfl) (by kernel_rfl) (by kernel_rfl) (fun c a w h => hP c a _ _ w h) (Or.inl ⟨by rfl, ?_⟩) hS ?_
  rotate_left
  · (intro w hSw; (try dsimp only at hSw); go_simp; (try (with_reducible rfl)))
  change wpAnyH _ _ _ _ _ _ _ (Act.put _ (some 158) _) _
  simp only [Act.put, List.setIfInBounds_toArray, List.set_cons_succ, List.set_cons_zero]
  refine wpAnyH_ready (rs := [1]) (by kernel_rfl) (by simp) (AllReadyH.cons rfl (fun K hK => ?_) (AllReadyH.nil))
  have hS01 := hS
  go_simp
  refine (lxState LX_0 ht1).mono ?_
  rintro y v1 ⟨gp, cp, rfl, hgp, hbx, cc1⟩
  have LX1 := LX_0.to cc1
  have LY1 := LY_0.to cc1
  have hS1 : v1.cell? ⟨gA, 0, none⟩ = some (.slice p0 n0 d0) ∧ v1.cell? ⟨gA, 1, none⟩ = some (.slice p1 n1 d1) := ⟨cc1.cell hS.1 (by simp), cc1.cell hS.2 (by simp)⟩
  have ch1 := (chW).trans' cc1 (by simp)
  go_wp2_with fail
  refine hK.out _ _ hS1 (fun hHeld => ?_)
  clear hK K
  try simp only [Act.put, List.setIfInBounds_toArray, List.set_cons_succ, List.set_cons_zero]
  refine wpAnyH_ready (rs := [2, 4]) (by kernel_rfl) (by simp) (AllReadyH.cons rfl (fun K hK => ?_) (AllReadyH.cons rfl (fun K hK => ?_) (AllReadyH.nil)))
  · skip
    have kc2 := st_str2 (c := cp) hbx HSS.out
    go_simp
    refine hK.out _ _ hS1 (fun hHeld => ?_)
    clear hK K
    try simp only [Act.put, List.setIfInBounds_toArray, List.set_cons_succ, List.set_cons_zero]
    refine wpAnyH_ready (rs := [4]) (by kernel_rfl) (by simp) (AllReadyH.cons rfl (fun K hK => ?_) (AllReadyH.nil))
    have hS02 := hS1
    go_simp
    refine (lxState LY1 ht2).mono ?_
    rintro y v2 ⟨gq, cq, rfl, hgq, hby, cc2⟩
    have LX2 := LX1.to cc2
    have LY2 := LY1.to cc2
    have hbx2 := hbx.chg cc2 (by simp)
    have hS2 : v2.cell? ⟨gA, 0, none⟩ = some (.slice p0 n0 d0) ∧ v2.cell? ⟨gA, 1, none⟩ = some (.slice p1 n1 d1) := ⟨cc2.cell hS1.1 (by simp), cc2.cell hS1.2 (by simp)⟩
    have ch2 := (ch1).trans' cc2 (by simp)
    go_wp2_with fail
    refine hK.out _ _ hS2 (fun hHeld => ?_)
    clear hK K
    try simp only [Act.put, List.setIfInBounds_toArray, List.set_cons_succ, List.set_cons_zero]
    refine wpAnyH_ready (rs := [5]) (by kernel_rfl) (by simp) (AllReadyH.cons rfl (fun K hK => ?_) (AllReadyH.nil))
    have kc5 := st_str2 (c := cq) hby HSS.out
    go_simp
    refine hK.out _ _ hS2 (fun hHeld => ?_)
    clear hK K
    try simp only [Act.put, List.setIfInBounds_toArray, List.set_cons_succ, List.set_cons_zero]
    refine wpAnyH_take (i := 6) (v := ?_) rfl (by kernel_rfl) (by kernel_rfl) (by kernel_rfl) (fun c a w h => hP c a _ _ w h) (Or.inl ⟨by rfl, ?_⟩) hS2 ?_
    rotate_left
    · (intro w hSw; (try dsimp only at hSw); go_simp; (try (with_reducible rfl)))
    change wpAnyH _ _ _ _ _ _ _ (Act.put _ (some 161) _) _
    simp only [Act.put, List.setIfInBounds_toArray, List.set_cons_succ, List.set_cons_zero]
    refine wpAnyH_take (i := 7) (v := ?_) rfl (by kernel_rfl) (by kernel_rfl) (by kernel_rfl) (fun c a w h => hP c a _ _ w h) (Or.inl ⟨by rfl, ?_⟩) hS2 ?_
    rotate_left
    · (intro w hSw; (try dsimp only at hSw); go_simp; (try (with_reducible rfl)))
    change wpAnyH _ _ _ _ _ _ _ (Act.put _ (some 162) _) _
    simp only [Act.put, List.setIfInBounds_toArray, List.set_cons_succ, List.set_cons_zero]
    refine wpAnyH_take (i := 8) (v := ?_) rfl (by kernel_rfl) (by kernel_rfl) (by kernel_rfl) (fun c a w h => hP c a _ _ w h) (Or.inl ⟨by rfl, ?_⟩) hS2 ?_
    rotate_left
    · (intro w hSw; (try dsimp only at hSw); go_simp; (try (with_reducible rfl)))
    change wpAnyH _ _ _ _ _ _ _ (Act.put _ (some 163) _) _
    simp only [Act.put, List.setIfInBounds_toArray, List.set_cons_succ, List.set_cons_zero]
    refine wpAnyH_take (i := 10) (v := ?_) rfl (by kernel_rfl) (by kernel_rfl) (by kernel_rfl) (fun c a w h => hP c a _ _ w h) (Or.inl ⟨by rfl, ?_⟩) hS2 ?_
    rotate_left
    · (intro w hSw; (try dsimp only at hSw); go_simp; (try (with_reducible rfl)))
    change wpAnyH _ _ _ _ _ _ _ (Act.put _ (some 165) _) _
    simp only [Act.put, List.setIfInBounds_toArray, List.set_cons_succ, List.set_cons_zero]
    refine wpAnyH_ready (rs := [9]) (by kernel_rfl) (by simp) (AllReadyH.cons rfl (fun K hK => ?_) (AllReadyH.nil))
    have hS03 := hS2
    go_simp
    refine (lxGot LX2 gt HG.out).mono ?_
    rintro y v3 ⟨rfl, cc3⟩
    have LX3 := LX2.to cc3
    have LY3 := LY2.to cc3
    have hbx3 := hbx2.chg cc3 (by simp)
    have hby3 := hby.chg cc3 (by simp)
    have hS3 : v3.cell? ⟨gA, 0, none⟩ = some (.slice p0 n0 d0) ∧ v3.cell? ⟨gA, 1, none⟩ = some (.slice p1 n1 d1) := ⟨cc3.cell hS2.1 (by simp), cc3.cell hS2.2 (by simp)⟩
    have ch3 := (ch2).trans' cc3 (by simp)
    go_wp2_with fail
    refine hK.out _ _ hS3 (fun hHeld => ?_)
    clear hK K
    try simp only [Act.put, List.setIfInBounds_toArray, List.set_cons_succ, List.set_cons_zero]
    refine wpAnyH_ready (rs := [11]) (by kernel_rfl) (by simp) (AllReadyH.cons rfl (fun K hK => ?_) (AllReadyH.nil))
    have hS04 := hS3
    go_simp
    refine (lxGot LY3 gt HG.out).mono ?_
    rintro y v4 ⟨rfl, cc4⟩
    have LX4 := LX3.to cc4
    have LY4 := LY3.to cc4
    have hbx4 := hbx3.chg cc4 (by simp)
    have hby4 := hby3.chg cc4 (by simp)
    have hS4 : v4.cell? ⟨gA, 0, none⟩ = some (.slice p0 n0 d0) ∧ v4.cell? ⟨gA, 1, none⟩ = some (.slice p1 n1 d1) := ⟨cc4.cell hS3.1 (by simp), cc4.cell hS3.2 (by simp)⟩
    have ch4 := (ch3).trans' cc4 (by simp)
    go_wp2_with fail
    refine hK.out _ _ hS4 (fun hHeld => ?_)
    clear hK K
    try simp only [Act.put, List.setIfInBounds_toArray, List.set_cons_succ, List.set_cons_zero]
    refine wpAnyH_take (i := 12) (v := ?_) rfl (by kernel_rfl) (by kernel_rfl) (by kernel_rfl) (fun c a w h => hP c a _ _ w h) (Or.inl ⟨by rfl, ?_⟩) hS4 ?_
    rotate_left
    · (intro w hSw; (try dsimp only at hSw); go_simp; (try (with_reducible rfl)))
    change wpAnyH _ _ _ _ _ _ _ (Act.put _ (some 167) _) _
    simp only [Act.put, List.setIfInBounds_toArray, List.set_cons_succ, List.set_cons_zero]
    refine wpAnyH_take (i := 13) (v := ?_) rfl (by kernel_rfl) (by kernel_rfl) (by kernel_rfl) (fun c a w h => hP c a _ _ w h) (Or.inl ⟨by rfl, ?_⟩) hS4 ?_
    rotate_left
    · (intro w hSw; (try dsimp only at hSw); go_simp; (try (with_reducible rfl)))
    change wpAnyH _ _ _ _ _ _ _ (Act.put _ (some 168) _) _
    simp only [Act.put, List.setIfInBounds_toArray, List.set_cons_succ, List.set_cons_zero]
    refine wpAnyH_take (i := 14) (v := ?_) rfl (by kernel_rfl) (by kernel_rfl) (by kernel_rfl) (fun c a w h => hP c a _ _ w h) (Or.inl ⟨by rfl, ?_⟩) hS4 ?_
    rotate_left
    · (intro w hSw; (try dsimp only at hSw); go_simp; (try (with_reducible rfl)))
    change wpAnyH _ _ _ _ _ _ _ (Act.put _ (some 169) _) _
    simp only [Act.put, List.setIfInBounds_toArray, List.set_cons_succ, List.set_cons_zero]
    refine wpAnyH_take (i := 15) (v := ?_) rfl (by kernel_rfl) (by kernel_rfl) (by kernel_rfl) (fun c a w h => hP c a _ _ w h) (Or.inl ⟨by rfl, ?_⟩) hS4 ?_
    rotate_left
    · (intro w hSw; (try dsimp only at hSw); go_simp; (try (with_reducible rfl)))
    change wpAnyH _ _ _ _ _ _ _ (Act.put _ (some 170) _) _
    simp only [Act.put, List.setIfInBounds_toArray, List.set_cons_succ, List.set_cons_zero]
    refine wpAnyH_take (i := 17) (v := ?_) rfl (by kernel_rfl) (by kernel_rfl) (by kernel_rfl) (fun c a w h => hP c a _ _ w h) (Or.inl ⟨by rfl, ?_⟩) hS4 ?_
    rotate_left
    · (intro w hSw; (try dsimp only at hSw); go_simp; (try (with_reducible rfl)))
    change wpAnyH _ _ _ _ _ _ _ (Act.put _ (some 172) _) _
    simp only [Act.put, List.setIfInBounds_toArray, List.set_cons_succ, List.set_cons_zero]
    refine wpAnyH_take (i := 18) (v := ?_) rfl (by kernel_rfl) (by kernel_rfl) (by kernel_rfl) (fun c a w h => hP c a _ _ w h) (Or.inl ⟨by rfl, ?_⟩) hS4 ?_
    rotate_left
    · (intro w hSw; (try dsimp only at hSw); go_simp; (try (with_reducible rfl)))
    change wpAnyH _ _ _ _ _ _ _ (Act.put _ (some 173) _) _
    simp only [Act.put, List.setIfInBounds_toArray, List.set_cons_succ, List.set_cons_zero]
    refine wpAnyH_take (i := 19) (v := ?_) rfl (by kernel_rfl) (by kernel_rfl) (by kernel_rfl) (fun c a w h => hP c a _ _ w h) (Or.inl ⟨by rfl, ?_⟩) hS4 ?_
    rotate_left
    · (intro w hSw; (try dsimp only at hSw); go_simp; (try (with_reducible rfl)))
    change wpAnyH _ _ _ _ _ _ _ (Act.put _ (some 174) _) _
    simp only [Act.put, List.setIfInBounds_toArray, List.set_cons_succ, List.set_cons_zero]
    refine wpAnyH_take (i := 20) (v := ?_) rfl (by kernel_rfl) (by kernel_rfl) (by kernel_rfl) (fun c a w h => hP c a _ _ w h) (Or.inl ⟨by rfl, ?_⟩) hS4 ?_
    rotate_left
    · (intro w hSw; (try dsimp only at hSw); go_simp; (try (with_reducible rfl)))
    change wpAnyH _ _ _ _ _ _ _ (Act.put _ (some 175) _) _
    simp only [Act.put, List.setIfInBounds_toArray, List.set_cons_succ, List.set_cons_zero]
    refine wpAnyH_ready (rs := [16]) (by kernel_rfl) (by simp) (AllReadyH.cons rfl (fun K hK => ?_) (AllReadyH.nil))
    have hS05 := hS4
    go_simp
    refine (lxNext LX4 0 n0 HN0.out).mono ?_
    rintro y v5 ⟨rfl, cc5⟩
    have LX5 := LX4.to cc5
    have LY5 := LY4.to cc5
    have hbx5 := hbx4.chg cc5 (by simp)
    have hby5 := hby4.chg cc5 (by simp)
    have hS5 : v5.cell? ⟨gA, 0, none⟩ = some (.slice p0 n0 d0) ∧ v5.cell? ⟨gA, 1, none⟩ = some (.slice p1 n1 d1) := ⟨cc5.cell hS4.1 (by simp), cc5.cell hS4.2 (by simp)⟩
    have ch5 := (ch4).trans' cc5 (by simp)
    go_wp2_with fail
    refine hK.out _ _ hS5 (fun hHeld => ?_)
    clear hK K
    try simp only [Act.put, List.setIfInBounds_toArray, List.set_cons_succ, List.set_cons_zero]
    refine wpAnyH_take (i := 21) (v := ?_) rfl (by kernel_rfl) (by kernel_rfl) (by kernel_rfl) (fun c a w h => hP c a _ _ w h) (Or.inl ⟨by rfl, ?_⟩) hS5 ?_
    rotate_left
    · (intro w hSw; (try dsimp only at hSw); go_simp; (try (with_reducible rfl)))
    change wpAnyH _ _ _ _ _ _ _ (Act.put _ (some 176) _) _
    simp only [Act.put, List.setIfInBounds_toArray, List.set_cons_succ, List.set_cons_zero]
    refine wpAnyH_take (i := 22) (v := ?_) rfl (by kernel_rfl) (by kernel_rfl) (by kernel_rfl) (fun c a w h => hP c a _ _ w h) (Or.inl ⟨by rfl, ?_⟩) hS5 ?_
    rotate_left
    · (intro w hSw; (try dsimp only at hSw); go_simp; (try (with_reducible rfl)))
    change wpAnyH _ _ _ _ _ _ _ (Act.put _ (some 177) _) _
    simp only [Act.put, List.setIfInBounds_toArray, List.set_cons_succ, List.set_cons_zero]
    refine wpAnyH_take (i := 23) (v := ?_) rfl (by kernel_rfl) (by kernel_rfl) (by kernel_rfl) (fun c a w h => hP c a _ _ w h) (Or.inl ⟨by rfl, ?_⟩) hS5 ?_
    rotate_left
    · (intro w hSw; (try dsimp only at hSw); go_simp; (try (with_reducible rfl)))
    change wpAnyH _ _ _ _ _ _ _ (Act.put _ (some 178) _) _
    simp only [Act.put, List.setIfInBounds_toArray, List.set_cons_succ, List.set_cons_zero]
    refine wpAnyH_take (i := 24) (v := ?_) rfl (by kernel_rfl) (by kernel_rfl) (by kernel_rfl) (fun c a w h => hP c a _ _ w h) (Or.inl ⟨by rfl, ?_⟩) hS5 ?_
    rotate_left
    · (intro w hSw; (try dsimp only at hSw); go_simp; (try (with_reducible rfl)))
    change wpAnyH _ _ _ _ _ _ _ (Act.put _ (some 179) _) _
    simp only [Act.put, List.setIfInBounds_toArray, List.set_cons_succ, List.set_cons_zero]
    refine wpAnyH_take (i := 26) (v := ?_) rfl (by kernel_rfl) (by kernel_rfl) (by kernel_rfl) (fun c a w h => hP c a _ _ w h) (Or.inl ⟨by rfl, ?_⟩) hS5 ?_
    rotate_left
    · (intro w hSw; (try dsimp only at hSw); go_simp; (try (with_reducible rfl)))
    change wpAnyH _ _ _ _ _ _ _ (Act.put _ (some 181) _) _
    simp only [Act.put, List.setIfInBounds_toArray, List.set_cons_succ, List.set_cons_zero]
    refine wpAnyH_take (i := 27) (v := ?_) rfl (by kernel_rfl) (by kernel_rfl) (by kernel_rfl) (fun c a w h => hP c a _ _ w h) (Or.inl ⟨by rfl, ?_⟩) hS5 ?_
    rotate_left
    · (intro w hSw; (try dsimp only at hSw); go_simp; (try (with_reducible rfl)))
    change wpAnyH _ _ _ _ _ _ _ (Act.put _ (some 182) _) _
    simp only [Act.put, List.setIfInBounds_toArray, List.set_cons_succ, List.set_cons_zero]
    refine wpAnyH_take (i := 28) (v := ?_) rfl (by kernel_rfl) (by kernel_rfl) (by kernel_rfl) (fun c a w h => hP c a _ _ w h) (Or.inl ⟨by rfl, ?_⟩) hS5 ?_
    rotate_left
    · (intro w hSw; (try dsimp only at hSw); go_simp; (try (with_reducible rfl)))
    change wpAnyH _ _ _ _ _ _ _ (Act.put _ (some 183) _) _
    simp only [Act.put, List.setIfInBounds_toArray, List.set_cons_succ, List.set_cons_zero]
    refine wpAnyH_take (i := 29) (v := ?_) rfl (by kernel_rfl) (by kernel_rfl) (by kernel_rfl) (fun c a w h => hP c a _ _ w h) (Or.inl ⟨by rfl, ?_⟩) hS5 ?_
    rotate_left
    · (intro w hSw; (try dsimp only at hSw); go_simp; (try (with_reducible rfl)))
    change wpAnyH _ _ _ _ _ _ _ (Act.put _ (some 184) _) _
    simp only [Act.put, List.setIfInBounds_toArray, List.set_cons_succ, List.set_cons_zero]
    refine wpAnyH_ready (rs := [25]) (by kernel_rfl) (by simp) (AllReadyH.cons rfl (fun K hK => ?_) (AllReadyH.nil))
    have hS06 := hS5
    go_simp
    refine (lxNext LX5 1 n1 HN1.out).mono ?_
    rintro y v6 ⟨rfl, cc6⟩
    have LX6 := LX5.to cc6
    have LY6 := LY5.to cc6
    have hbx6 := hbx5.chg cc6 (by simp)
    have hby6 := hby5.chg cc6 (by simp)
    have hS6 : v6.cell? ⟨gA, 0, none⟩ = some (.slice p0 n0 d0) ∧ v6.cell? ⟨gA, 1, none⟩ = some (.slice p1 n1 d1) := ⟨cc6.cell hS5.1 (by simp), cc6.cell hS5.2 (by simp)⟩
    have ch6 := (ch5).trans' cc6 (by simp)
    go_wp2_with fail
    refine hK.out _ _ hS6 (fun hHeld => ?_)
    clear hK K
    try simp only [Act.put, List.setIfInBounds_toArray, List.set_cons_succ, List.set_cons_zero]
    refine wpAnyH_take (i := 30) (v := ?_) rfl (by kernel_rfl) (by kernel_rfl) (by kernel_rfl) (fun c a w h => hP c a _ _ w h) (Or.inl ⟨by rfl, ?_⟩) hS6 ?_
    rotate_left
    · (intro w hSw; (try dsimp only at hSw); go_simp; (try (with_reducible rfl)))
    change wpAnyH _ _ _ _ _ _ _ (Act.put _ (some 185) _) _
    simp only [Act.put, List.setIfInBounds_toArray, List.set_cons_succ, List.set_cons_zero]
    refine wpAnyH_take (i := 31) (v := ?_) rfl (by kernel_rfl) (by kernel_rfl) (by kernel_rfl) (fun c a w h => hP c a _ _ w h) (Or.inl ⟨by rfl, ?_⟩) hS6 ?_
    rotate_left
    · (intro w hSw; (try dsimp only at hSw); go_simp; (try (with_reducible rfl)))
    change wpAnyH _ _ _ _ _ _ _ (Act.put _ (some 186) _) _
    simp only [Act.put, List.setIfInBounds_toArray, List.set_cons_succ, List.set_cons_zero]
    refine wpAnyH_take (i := 32) (v := ?_) rfl (by kernel_rfl) (by kernel_rfl) (by kernel_rfl) (fun c a w h => hP c a _ _ w h) (Or.inl ⟨by rfl, ?_⟩) hS6 ?_
    rotate_left
    · (intro w hSw; (try dsimp only at hSw); go_simp; (try (with_reducible rfl)))
    change wpAnyH _ _ _ _ _ _ _ (Act.put _ (some 187) _) _
    simp only [Act.put, List.setIfInBounds_toArray, List.set_cons_succ, List.set_cons_zero]
    refine wpAnyH_ready (rs := [33]) (by kernel_rfl) (by simp) (AllReadyH.cons rfl (fun K hK => ?_) (AllReadyH.nil))
    have hS07 := hS6
    go_simp
    refine (awake12 _).mono ?_
    rintro y v7 ⟨rfl, cc7⟩
    have LX7 := LX6.to cc7
    have LY7 := LY6.to cc7
    have hbx7 := hbx6.chg cc7 (by simp)
    have hby7 := hby6.chg cc7 (by simp)
    have hS7 : v7.cell? ⟨gA, 0, none⟩ = some (.slice p0 n0 d0) ∧ v7.cell? ⟨gA, 1, none⟩ = some (.slice p1 n1 d1) := ⟨cc7.cell hS6.1 (by simp), cc7.cell hS6.2 (by simp)⟩
    have ch7 := (ch6).trans' cc7 (by simp)
    go_wp2_with fail
    refine hK.out _ _ hS7 (fun hHeld => ?_)
    clear hK K
    try simp only [Act.put, List.setIfInBounds_toArray, List.set_cons_succ, List.set_cons_zero]
    refine wpAnyH_take (i := 34) (v := ?_) rfl (by kernel_rfl) (by kernel_rfl) (by kernel_rfl) (fun c a w h => hP c a _ _ w h) (Or.inl ⟨by rfl, ?_⟩) hS7 ?_
    rotate_left
    · (intro w hSw; (try dsimp only at hSw); go_simp; (try (with_reducible rfl)))
    change wpAnyH _ _ _ _ _ _ _ (Act.put _ (some 189) _) _
    simp only [Act.put, List.setIfInBounds_toArray, List.set_cons_succ, List.set_cons_zero]
    refine wpAnyH_take (i := 35) (v := ?_) rfl (by kernel_rfl) (by kernel_rfl) (by kernel_rfl) (fun c a w h => hP c a _ _ w h) (Or.inl ⟨by rfl, ?_⟩) hS7 ?_
    rotate_left
    · (intro w hSw; (try dsimp only at hSw); go_simp; (try (with_reducible rfl)))
    change wpAnyH _ _ _ _ _ _ _ (Act.put _ (some 6) _) _
    simp only [Act.put, List.setIfInBounds_toArray, List.set_cons_succ, List.set_cons_zero]
    refine wpAnyH_done (by kernel_rfl) ?_ _
    exact hQ _ ch7 _ _ _ _ _ _ _ _ _ _ _ _ _ _ _ _ _ _ _ _ _ _ _ _ _ _ _ _ _ _ _ _ _ _ _
  · skip
    have hS02 := hS1
    go_simp
    refine (lxState LY1 ht2).mono ?_
    rintro y v2 ⟨gq, cq, rfl, hgq, hby, cc2⟩
    have LX2 := LX1.to cc2
    have LY2 := LY1.to cc2
    have hbx2 := hbx.chg cc2 (by simp)
    have hS2 : v2.cell? ⟨gA, 0, none⟩ = some (.slice p0 n0 d0) ∧ v2.cell? ⟨gA, 1, none⟩ = some (.slice p1 n1 d1) := ⟨cc2.cell hS1.1 (by simp), cc2.cell hS1.2 (by simp)⟩
    have ch2 := (ch1).trans' cc2 (by simp)
    go_wp2_with fail
    refine hK.out _ _ hS2 (fun hHeld => ?_)
    clear hK K
    try simp only [Act.put, List.setIfInBounds_toArray, List.set_cons_succ, List.set_cons_zero]
    refine wpAnyH_ready (rs := [2, 5]) (by kernel_rfl) (by simp) (AllReadyH.cons rfl (fun K hK => ?_) (AllReadyH.cons rfl (fun K hK => ?_) (AllReadyH.nil)))
    · skip
      have kc2 := st_str2 (c := cp) hbx2 HSS.out
      go_simp
      refine hK.out _ _ hS2 (fun hHeld => ?_)
      clear hK K
      try simp only [Act.put, List.setIfInBounds_toArray, List.set_cons_succ, List.set_cons_zero]
      refine wpAnyH_ready (rs := [5]) (by kernel_rfl) (by simp) (AllReadyH.cons rfl (fun K hK => ?_) (AllReadyH.nil))
      have kc5 := st_str2 (c := cq) hby HSS.out
      go_simp
      refine hK.out _ _ hS2 (fun hHeld => ?_)
      clear hK K
      try simp only [Act.put, List.setIfInBounds_toArray, List.set_cons_succ, List.set_cons_zero]
      refine wpAnyH_take (i := 6) (v := ?_) rfl (by kernel_rfl) (by kernel_rfl) (by kernel_rfl) (fun c a w h => hP c a _ _ w h) (Or.inl ⟨by rfl, ?_⟩) hS2 ?_
      rotate_left
      · (intro w hSw; (try dsimp only at hSw); go_simp; (try (with_reducible rfl)))
      change wpAnyH _ _ _ _ _ _ _ (Act.put _ (some 161) _) _
      simp only [Act.put, List.setIfInBounds_toArray, List.set_cons_succ, List.set_cons_zero]
      refine wpAnyH_take (i := 7) (v := ?_) rfl (by kernel_rfl) (by kernel_rfl) (by kernel_rfl) (fun c a w h => hP c a _ _ w h) (Or.inl ⟨by rfl, ?_⟩) hS2 ?_
      rotate_left
      · (intro w hSw; (try dsimp only at hSw); go_simp; (try (with_reducible rfl)))
      change wpAnyH _ _ _ _ _ _ _ (Act.put _ (some 162) _) _
      simp only [Act.put, List.setIfInBounds_toArray, List.set_cons_succ, List.set_cons_zero]
      refine wpAnyH_take (i := 8) (v := ?_) rfl (by kernel_rfl) (by kernel_rfl) (by kernel_rfl) (fun c a w h => hP c a _ _ w h) (Or.inl ⟨by rfl, ?_⟩) hS2 ?_
      rotate_left
      · (intro w hSw; (try dsimp only at hSw); go_simp; (try (with_reducible rfl)))
      change wpAnyH _ _ _ _ _ _ _ (Act.put _ (some 163) _) _
      simp only [Act.put, List.setIfInBounds_toArray, List.set_cons_succ, List.set_cons_zero]
      refine wpAnyH_take (i := 10) (v := ?_) rfl (by kernel_rfl) (by kernel_rfl) (by kernel_rfl) (fun c a w h => hP c a _ _ w h) (Or.inl ⟨by rfl, ?_⟩) hS2 ?_
      rotate_left
      · (intro w hSw; (try dsimp only at hSw); go_simp; (try (with_reducible rfl)))
      change wpAnyH _ _ _ _ _ _ _ (Act.put _ (some 165) _) _
      simp only [Act.put, List.setIfInBounds_toArray, List.set_cons_succ, List.set_cons_zero]
      refine wpAnyH_ready (rs := [9]) (by kernel_rfl) (by simp) (AllReadyH.cons rfl (fun K hK => ?_) (AllReadyH.nil))
      have hS03 := hS2
      go_simp
      refine (lxGot LX2 gt HG.out).mono ?_
      rintro y v3 ⟨rfl, cc3⟩
      have LX3 := LX2.to cc3
      have LY3 := LY2.to cc3
      have hbx3 := hbx2.chg cc3 (by simp)
      have hby3 := hby.chg cc3 (by simp)
      have hS3 : v3.cell? ⟨gA, 0, none⟩ = some (.slice p0 n0 d0) ∧ v3.cell? ⟨gA, 1, none⟩ = some (.slice p1 n1 d1) := ⟨cc3.cell hS2.1 (by simp), cc3.cell hS2.2 (by simp)⟩
      have ch3 := (ch2).trans' cc3 (by simp)
      go_wp2_with fail
      refine hK.out _ _ hS3 (fun hHeld => ?_)
      clear hK K
      try simp only [Act.put, List.setIfInBounds_toArray, List.set_cons_succ, List.set_cons_zero]
      refine wpAnyH_ready (rs := [11]) (by kernel_rfl) (by simp) (AllReadyH.cons rfl (fun K hK => ?_) (AllReadyH.nil))
      have hS04 := hS3
      go_simp
      refine (lxGot LY3 gt HG.out).mono ?_
      rintro y v4 ⟨rfl, cc4⟩
      have LX4 := LX3.to cc4
      have LY4 := LY3.to cc4
      have hbx4 := hbx3.chg cc4 (by simp)
      have hby4 := hby3.chg cc4 (by simp)
      have hS4 : v4.cell? ⟨gA, 0, none⟩ = some (.slice p0 n0 d0) ∧ v4.cell? ⟨gA, 1, none⟩ = some (.slice p1 n1 d1) := ⟨cc4.cell hS3.1 (by simp), cc4.cell hS3.2 (by simp)⟩
      have ch4 := (ch3).trans' cc4 (by simp)
      go_wp2_with fail
      refine hK.out _ _ hS4 (fun hHeld => ?_)
      clear hK K
      try simp only [Act.put, List.setIfInBounds_toArray, List.set_cons_succ, List.set_cons_zero]
      refine wpAnyH_take (i := 12) (v := ?_) rfl (by kernel_rfl) (by kernel_rfl) (by kernel_rfl) (fun c a w h => hP c a _ _ w h) (Or.inl ⟨by rfl, ?_⟩) hS4 ?_
      rotate_left
      · (intro w hSw; (try dsimp only at hSw); go_simp; (try (with_reducible rfl)))
      change wpAnyH _ _ _ _ _ _ _ (Act.put _ (some 167) _) _
      simp only [Act.put, List.setIfInBounds_toArray, List.set_cons_succ, List.set_cons_zero]
      refine wpAnyH_take (i := 13) (v := ?_) rfl (by kernel_rfl) (by kernel_rfl) (by kernel_rfl) (fun c a w h => hP c a _ _ w h) (Or.inl ⟨by rfl, ?_⟩) hS4 ?_
      rotate_left
      · (intro w hSw; (try dsimp only at hSw); go_simp; (try (with_reducible rfl)))
      change wpAnyH _ _ _ _ _ _ _ (Act.put _ (some 168) _) _
      simp only [Act.put, List.setIfInBounds_toArray, List.set_cons_succ, List.set_cons_zero]
      refine wpAnyH_take (i := 14) (v := ?_) rfl (by kernel_rfl) (by kernel_rfl) (by kernel_rfl) (fun c a w h => hP c a _ _ w h) (Or.inl ⟨by rfl, ?_⟩) hS4 ?_
      rotate_left
      · (intro w hSw; (try dsimp only at hSw); go_simp; (try (with_reducible rfl)))
      change wpAnyH _ _ _ _ _ _ _ (Act.put _ (some 169) _) _
      simp only [Act.put, List.setIfInBounds_toArray, List.set_cons_succ, List.set_cons_zero]
      refine wpAnyH_take (i := 15) (v := ?_) rfl (by kernel_rfl) (by kernel_rfl) (by kernel_rfl) (fun c a w h => hP c a _ _ w h) (Or.inl ⟨by rfl, ?_⟩) hS4 ?_
      rotate_left
      · (intro w hSw; (try dsimp only at hSw); go_simp; (try (with_reducible rfl)))
      change wpAnyH _ _ _ _ _ _ _ (Act.put _ (some 170) _) _
      simp only [Act.put, List.setIfInBounds_toArray, List.set_cons_succ, List.set_cons_zero]
      refine wpAnyH_take (i := 17) (v := ?_) rfl (by kernel_rfl) (by kernel_rfl) (by kernel_rfl) (fun c a w h => hP c a _ _ w h) (Or.inl ⟨by rfl, ?_⟩) hS4 ?_
      rotate_left
      · (intro w hSw; (try dsimp only at hSw); go_simp; (try (with_reducible rfl)))
      change wpAnyH _ _ _ _ _ _ _ (Act.put _ (some 172) _) _
      simp only [Act.put, List.setIfInBounds_toArray, List.set_cons_succ, List.set_cons_zero]
      refine wpAnyH_take (i := 18) (v := ?_) rfl (by kernel_rfl) (by kernel_rfl) (by kernel_rfl) (fun c a w h => hP c a _ _ w h) (Or.inl ⟨by rfl, ?_⟩) hS4 ?_
      rotate_left
      · (intro w hSw; (try dsimp only at hSw); go_simp; (try (with_reducible rfl)))
      change wpAnyH _ _ _ _ _ _ _ (Act.put _ (some 173) _) _
      simp only [Act.put, List.setIfInBounds_toArray, List.set_cons_succ, List.set_cons_zero]
      refine wpAnyH_take (i := 19) (v := ?_) rfl (by kernel_rfl) (by kernel_rfl) (by kernel_rfl) (fun c a w h => hP c a _ _ w h) (Or.inl ⟨by rfl, ?_⟩) hS4 ?_
      rotate_left
      · (intro w hSw; (try dsimp only at hSw); go_simp; (try (with_reducible rfl)))
      change wpAnyH _ _ _ _ _ _ _ (Act.put _ (some 174) _) _
      simp only [Act.put, List.setIfInBounds_toArray, List.set_cons_succ, List.set_cons_zero]
      refine wpAnyH_take (i := 20) (v := ?_) rfl (by kernel_rfl) (by kernel_rfl) (by kernel_rfl) (fun c a w h => hP c a _ _ w h) (Or.inl ⟨by rfl, ?_⟩) hS4 ?_
      rotate_left
      · (intro w hSw; (try dsimp only at hSw); go_simp; (try (with_reducible rfl)))
      change wpAnyH _ _ _ _ _ _ _ (Act.put _ (some 175) _) _
      simp only [Act.put, List.setIfInBounds_toArray, List.set_cons_succ, List.set_cons_zero]
      refine wpAnyH_ready (rs := [16]) (by kernel_rfl) (by simp) (AllReadyH.cons rfl (fun K hK => ?_) (AllReadyH.nil))
      have hS05 := hS4
      go_simp
      refine (lxNext LX4 0 n0 HN0.out).mono ?_
      rintro y v5 ⟨rfl, cc5⟩
      have LX5 := LX4.to cc5
      have LY5 := LY4.to cc5
      have hbx5 := hbx4.chg cc5 (by simp)
      have hby5 := hby4.chg cc5 (by simp)
      have hS5 : v5.cell? ⟨gA, 0, none⟩ = some (.slice p0 n0 d0) ∧ v5.cell? ⟨gA, 1, none⟩ = some (.slice p1 n1 d1) := ⟨cc5.cell hS4.1 (by simp), cc5.cell hS4.2 (by simp)⟩
      have ch5 := (ch4).trans' cc5 (by simp)
      go_wp2_with fail
      refine hK.out _ _ hS5 (fun hHeld => ?_)
      clear hK K
      try simp only [Act.put, List.setIfInBounds_toArray, List.set_cons_succ, List.set_cons_zero]
      refine wpAnyH_take (i := 21) (v := ?_) rfl (by kernel_rfl) (by kernel_rfl) (by kernel_rfl) (fun c a w h => hP c a _ _ w h) (Or.inl ⟨by rfl, ?_⟩) hS5 ?_
      rotate_left
      · (intro w hSw; (try dsimp only at hSw); go_simp; (try (with_reducible rfl)))
      change wpAnyH _ _ _ _ _ _ _ (Act.put _ (some 176) _) _
      simp only [Act.put, List.setIfInBounds_toArray, List.set_cons_succ, List.set_cons_zero]
      refine wpAnyH_take (i := 22) (v := ?_) rfl (by kernel_rfl) (by kernel_rfl) (by kernel_rfl) (fun c a w h => hP c a _ _ w h) (Or.inl ⟨by rfl, ?_⟩) hS5 ?_
      rotate_left
      · (intro w hSw; (try dsimp only at hSw); go_simp; (try (with_reducible rfl)))
      change wpAnyH _ _ _ _ _ _ _ (Act.put _ (some 177) _) _
      simp only [Act.put, List.setIfInBounds_toArray, List.set_cons_succ, List.set_cons_zero]
      refine wpAnyH_take (i := 23) (v := ?_) rfl (by kernel_rfl) (by kernel_rfl) (by kernel_rfl) (fun c a w h => hP c a _ _ w h) (Or.inl ⟨by rfl, ?_⟩) hS5 ?_
      rotate_left
      · (intro w hSw; (try dsimp only at hSw); go_simp; (try (with_reducible rfl)))
      change wpAnyH _ _ _ _ _ _ _ (Act.put _ (some 178) _) _
      simp only [Act.put, List.setIfInBounds_toArray, List.set_cons_succ, List.set_cons_zero]
      refine wpAnyH_take (i := 24) (v := ?_) rfl (by kernel_rfl) (by kernel_rfl) (by kernel_rfl) (fun c a w h => hP c a _ _ w h) (Or.inl ⟨by rfl, ?_⟩) hS5 ?_
      rotate_left
      · (intro w hSw; (try dsimp only at hSw); go_simp; (try (with_reducible rfl)))
      change wpAnyH _ _ _ _ _ _ _ (Act.put _ (some 179) _) _
      simp only [Act.put, List.setIfInBounds_toArray, List.set_cons_succ, List.set_cons_zero]
      refine wpAnyH_take (i := 26) (v := ?_) rfl (by kernel_rfl) (by kernel_rfl) (by kernel_rfl) (fun c a w h => hP c a _ _ w h) (Or.inl ⟨by rfl, ?_⟩) hS5 ?_
      rotate_left
      · (intro w hSw; (try dsimp only at hSw); go_simp; (try (with_reducible rfl)))
      change wpAnyH _ _ _ _ _ _ _ (Act.put _ (some 181) _) _
      simp only [Act.put, List.setIfInBounds_toArray, List.set_cons_succ, List.set_cons_zero]
      refine wpAnyH_take (i := 27) (v := ?_) rfl (by kernel_rfl) (by kernel_rfl) (by kernel_rfl) (fun c a w h => hP c a _ _ w h) (Or.inl ⟨by rfl, ?_⟩) hS5 ?_
      rotate_left
      · (intro w hSw; (try dsimp only at hSw); go_simp; (try (with_reducible rfl)))
      change wpAnyH _ _ _ _ _ _ _ (Act.put _ (some 182) _) _
      simp only [Act.put, List.setIfInBounds_toArray, List.set_cons_succ, List.set_cons_zero]
      refine wpAnyH_take (i := 28) (v := ?_) rfl (by kernel_rfl) (by kernel_rfl) (by kernel_rfl) (fun c a w h => hP c a _ _ w h) (Or.inl ⟨by rfl, ?_⟩) hS5 ?_
      rotate_left
      · (intro w hSw; (try dsimp only at hSw); go_simp; (try (with_reducible rfl)))
      change wpAnyH _ _ _ _ _ _ _ (Act.put _ (some 183) _) _
      simp only [Act.put, List.setIfInBounds_toArray, List.set_cons_succ, List.set_cons_zero]
      refine wpAnyH_take (i := 29) (v := ?_) rfl (by kernel_rfl) (by kernel_rfl) (by kernel_rfl) (fun c a w h => hP c a _ _ w h) (Or.inl ⟨by rfl, ?_⟩) hS5 ?_
      rotate_left
      · (intro w hSw; (try dsimp only at hSw); go_simp; (try (with_reducible rfl)))
      change wpAnyH _ _ _ _ _ _ _ (Act.put _ (some 184) _) _
      simp only [Act.put, List.setIfInBounds_toArray, List.set_cons_succ, List.set_cons_zero]
      refine wpAnyH_ready (rs := [25]) (by kernel_rfl) (by simp) (AllReadyH.cons rfl (fun K hK => ?_) (AllReadyH.nil))
      have hS06 := hS5
      go_simp
      refine (lxNext LX5 1 n1 HN1.out).mono ?_
      rintro y v6 ⟨rfl, cc6⟩
      have LX6 := LX5.to cc6
      have LY6 := LY5.to cc6
      have hbx6 := hbx5.chg cc6 (by simp)
      have hby6 := hby5.chg cc6 (by simp)
      have hS6 : v6.cell? ⟨gA, 0, none⟩ = some (.slice p0 n0 d0) ∧ v6.cell? ⟨gA, 1, none⟩ = some (.slice p1 n1 d1) := ⟨cc6.cell hS5.1 (by simp), cc6.cell hS5.2 (by simp)⟩
      have ch6 := (ch5).trans' cc6 (by simp)
      go_wp2_with fail
      refine hK.out _ _ hS6 (fun hHeld => ?_)
      clear hK K
      try simp only [Act.put, List.setIfInBounds_toArray, List.set_cons_succ, List.set_cons_zero]
      refine wpAnyH_take (i := 30) (v := ?_) rfl (by kernel_rfl) (by kernel_rfl) (by kernel_rfl) (fun c a w h => hP c a _ _ w h) (Or.inl ⟨by rfl, ?_⟩) hS6 ?_
      rotate_left
      · (intro w hSw; (try dsimp only at hSw); go_simp; (try (with_reducible rfl)))
      change wpAnyH _ _ _ _ _ _ _ (Act.put _ (some 185) _) _
      simp only [Act.put, List.setIfInBounds_toArray, List.set_cons_succ, List.set_cons_zero]
      refine wpAnyH_take (i := 31) (v := ?_) rfl (by kernel_rfl) (by kernel_rfl) (by kernel_rfl) (fun c a w h => hP c a _ _ w h) (Or.inl ⟨by rfl, ?_⟩) hS6 ?_
      rotate_left
      · (intro w hSw; (try dsimp only at hSw); go_simp; (try (with_reducible rfl)))
      change wpAnyH _ _ _ _ _ _ _ (Act.put _ (some 186) _) _
      simp only [Act.put, List.setIfInBounds_toArray, List.set_cons_succ, List.set_cons_zero]
      refine wpAnyH_take (i := 32) (v := ?_) rfl (by kernel_rfl) (by kernel_rfl) (by kernel_rfl) (fun c a w h => hP c a _ _ w h) (Or.inl ⟨by rfl, ?_⟩) hS6 ?_
      rotate_left
      · (intro w hSw; (try dsimp only at hSw); go_simp; (try (with_reducible rfl)))
      change wpAnyH _ _ _ _ _ _ _ (Act.put _ (some 187) _) _
      simp only [Act.put, List.setIfInBounds_toArray, List.set_cons_succ, List.set_cons_zero]
      refine wpAnyH_ready (rs := [33]) (by kernel_rfl) (by simp) (AllReadyH.cons rfl (fun K hK => ?_) (AllReadyH.nil))
      have hS07 := hS6
      go_simp
      refine (awake12 _).mono ?_
      rintro y v7 ⟨rfl, cc7⟩
      have LX7 := LX6.to cc7
      have LY7 := LY6.to cc7
      have hbx7 := hbx6.chg cc7 (by simp)
      have hby7 := hby6.chg cc7 (by simp)
      have hS7 : v7.cell? ⟨gA, 0, none⟩ = some (.slice p0 n0 d0) ∧ v7.cell? ⟨gA, 1, none⟩ = some (.slice p1 n1 d1) := ⟨cc7.cell hS6.1 (by simp), cc7.cell hS6.2 (by simp)⟩
      have ch7 := (ch6).trans' cc7 (by simp)
      go_wp2_with fail
      refine hK.out _ _ hS7 (fun hHeld => ?_)
      clear hK K
      try simp only [Act.put, List.setIfInBounds_toArray, List.set_cons_succ, List.set_cons_zero]
      refine wpAnyH_take (i := 34) (v := ?_) rfl (by kernel_rfl) (by kernel_rfl) (by kernel_rfl) (fun c a w h => hP c a _ _ w h) (Or.inl ⟨by rfl, ?_⟩) hS7 ?_
      rotate_left
      · (intro w hSw; (try dsimp only at hSw); go_simp; (try (with_reducible rfl)))
      change wpAnyH _ _ _ _ _ _ _ (Act.put _ (some 189) _) _
      simp only [Act.put, List.setIfInBounds_toArray, List.set_cons_succ, List.set_cons_zero]
      refine wpAnyH_take (i := 35) (v := ?_) rfl (by kernel_rfl) (by kernel_rfl) (by kernel_rfl) (fun c a w h => hP c a _ _ w h) (Or.inl ⟨by rfl, ?_⟩) hS7 ?_
      rotate_left
      · (intro w hSw; (try dsimp only at hSw); go_simp; (try (with_reducible rfl)))
      change wpAnyH _ _ _ _ _ _ _ (Act.put _ (some 6) _) _
      simp only [Act.put, List.setIfInBounds_toArray, List.set_cons_succ, List.set_cons_zero]
      refine wpAnyH_done (by kernel_rfl) ?_ _
      exact hQ _ ch7 _ _ _ _ _ _ _ _ _ _ _ _ _ _ _ _ _ _ _ _ _ _ _ _ _ _ _ _ _ _ _ _ _ _ _
    · skip
      have kc5 := st_str2 (c := cq) hby HSS.out
      go_simp
      refine hK.out _ _ hS2 (fun hHeld => ?_)
      clear hK K
      try simp only [Act.put, List.setIfInBounds_toArray, List.set_cons_succ, List.set_cons_zero]
      refine wpAnyH_ready (rs := [2]) (by kernel_rfl) (by simp) (AllReadyH.cons rfl (fun K hK => ?_) (AllReadyH.nil))
      have kc2 := st_str2 (c := cp) hbx2 HSS.out
      go_simp
      refine hK.out _ _ hS2 (fun hHeld => ?_)
      clear hK K
      try simp only [Act.put, List.setIfInBounds_toArray, List.set_cons_succ, List.set_cons_zero]
      refine wpAnyH_take (i := 6) (v := ?_) rfl (by kernel_rfl) (by kernel_rfl) (by kernel_rfl) (fun c a w h => hP c a _ _ w h) (Or.inl ⟨by rfl, ?_⟩) hS2 ?_
      rotate_left
      · (intro w hSw; (try dsimp only at hSw); go_simp; (try (with_reducible rfl)))
      change wpAnyH _ _ _ _ _ _ _ (Act.put _ (some 161) _) _
      simp only [Act.put, List.setIfInBounds_toArray, List.set_cons_succ, List.set_cons_zero]
      refine wpAnyH_take (i := 7) (v := ?_) rfl (by kernel_rfl) (by kernel_rfl) (by kernel_rfl) (fun c a w h => hP c a _ _ w h) (Or.inl ⟨by rfl, ?_⟩) hS2 ?_
      rotate_left
      · (intro w hSw; (try dsimp only at hSw); go_simp; (try (with_reducible rfl)))
      change wpAnyH _ _ _ _ _ _ _ (Act.put _ (some 162) _) _
      simp only [Act.put, List.setIfInBounds_toArray, List.set_cons_succ, List.set_cons_zero]
      refine wpAnyH_take (i := 8) (v := ?_) rfl (by kernel_rfl) (by kernel_rfl) (by kernel_rfl) (fun c a w h => hP c a _ _ w h) (Or.inl ⟨by rfl, ?_⟩) hS2 ?_
      rotate_left
      · (intro w hSw; (try dsimp only at hSw); go_simp; (try (with_reducible rfl)))
      change wpAnyH _ _ _ _ _ _ _ (Act.put _ (some 163) _) _
      simp only [Act.put, List.setIfInBounds_toArray, List.set_cons_succ, List.set_cons_zero]
      refine wpAnyH_take (i := 10) (v := ?_) rfl (by kernel_rfl) (by kernel_rfl) (by kernel_rfl) (fun c a w h => hP c a _ _ w h) (Or.inl ⟨by rfl, ?_⟩) hS2 ?_
      rotate_left
      · (intro w hSw; (try dsimp only at hSw); go_simp; (try (with_reducible rfl)))
      change wpAnyH _ _ _ _ _ _ _ (Act.put _ (some 165) _) _
      simp only [Act.put, List.setIfInBounds_toArray, List.set_cons_succ, List.set_cons_zero]
      refine wpAnyH_ready (rs := [9]) (by kernel_rfl) (by simp) (AllReadyH.cons rfl (fun K hK => ?_) (AllReadyH.nil))
      have hS03 := hS2
      go_simp
      refine (lxGot LX2 gt HG.out).mono ?_
      rintro y v3 ⟨rfl, cc3⟩
      have LX3 := LX2.to cc3
      have LY3 := LY2.to cc3
      have hbx3 := hbx2.chg cc3 (by simp)
      have hby3 := hby.chg cc3 (by simp)
      have hS3 : v3.cell? ⟨gA, 0, none⟩ = some (.slice p0 n0 d0) ∧ v3.cell? ⟨gA, 1, none⟩ = some (.slice p1 n1 d1) := ⟨cc3.cell hS2.1 (by simp), cc3.cell hS2.2 (by simp)⟩
      have ch3 := (ch2).trans' cc3 (by simp)
      go_wp2_with fail
      refine hK.out _ _ hS3 (fun hHeld => ?_)
      clear hK K
      try simp only [Act.put, List.setIfInBounds_toArray, List.set_cons_succ, List.set_cons_zero]
      refine wpAnyH_ready (rs := [11]) (by kernel_rfl) (by simp) (AllReadyH.cons rfl (fun K hK => ?_) (AllReadyH.nil))
      have hS04 := hS3
      go_simp
      refine (lxGot LY3 gt HG.out).mono ?_
      rintro y v4 ⟨rfl, cc4⟩
      have LX4 := LX3.to cc4
      have LY4 := LY3.to cc4
      have hbx4 := hbx3.chg cc4 (by simp)
      have hby4 := hby3.chg cc4 (by simp)
      have hS4 : v4.cell? ⟨gA, 0, none⟩ = some (.slice p0 n0 d0) ∧ v4.cell? ⟨gA, 1, none⟩ = some (.slice p1 n1 d1) := ⟨cc4.cell hS3.1 (by simp), cc4.cell hS3.2 (by simp)⟩
      have ch4 := (ch3).trans' cc4 (by simp)
      go_wp2_with fail
      refine hK.out _ _ hS4 (fun hHeld => ?_)
      clear hK K
      try simp only [Act.put, List.setIfInBounds_toArray, List.set_cons_succ, List.set_cons_zero]
      refine wpAnyH_take (i := 12) (v := ?_) rfl (by kernel_rfl) (by kernel_rfl) (by kernel_rfl) (fun c a w h => hP c a _ _ w h) (Or.inl ⟨by rfl, ?_⟩) hS4 ?_
      rotate_left
      · (intro w hSw; (try dsimp only at hSw); go_simp; (try (with_reducible rfl)))
      change wpAnyH _ _ _ _ _ _ _ (Act.put _ (some 167) _) _
      simp only [Act.put, List.setIfInBounds_toArray, List.set_cons_succ, List.set_cons_zero]
      refine wpAnyH_take (i := 13) (v := ?_) rfl (by kernel_rfl) (by kernel_rfl) (by kernel_rfl) (fun c a w h => hP c a _ _ w h) (Or.inl ⟨by rfl, ?_⟩) hS4 ?_
      rotate_left
      · (intro w hSw; (try dsimp only at hSw); go_simp; (try (with_reducible rfl)))
      change wpAnyH _ _ _ _ _ _ _ (Act.put _ (some 168) _) _
      simp only [Act.put, List.setIfInBounds_toArray, List.set_cons_succ, List.set_cons_zero]
      refine wpAnyH_take (i := 14) (v := ?_) rfl (by kernel_rfl) (by kernel_rfl) (by kernel_rfl) (fun c a w h => hP c a _ _ w h) (Or.inl ⟨by rfl, ?_⟩) hS4 ?_
      rotate_left
      · (intro w hSw; (try dsimp only at hSw); go_simp; (try (with_reducible rfl)))
      change wpAnyH _ _ _ _ _ _ _ (Act.put _ (some 169) _) _
      simp only [Act.put, List.setIfInBounds_toArray, List.set_cons_succ, List.set_cons_zero]
      refine wpAnyH_take (i := 15) (v := ?_) rfl (by kernel_rfl) (by kernel_rfl) (by kernel_rfl) (fun c a w h => hP c a _ _ w h) (Or.inl ⟨by rfl, ?_⟩) hS4 ?_
      rotate_left
      · (intro w hSw; (try dsimp only at hSw); go_simp; (try (with_reducible rfl)))
      change wpAnyH _ _ _ _ _ _ _ (Act.put _ (some 170) _) _
      simp only [Act.put, List.setIfInBounds_toArray, List.set_cons_succ, List.set_cons_zero]
      refine wpAnyH_take (i := 17) (v := ?_) rfl (by kernel_rfl) (by kernel_rfl) (by kernel_rfl) (fun c a w h => hP c a _ _ w h) (Or.inl ⟨by rfl, ?_⟩) hS4 ?_
      rotate_left
      · (intro w hSw; (try dsimp only at hSw); go_simp; (try (with_reducible rfl)))
      change wpAnyH _ _ _ _ _ _ _ (Act.put _ (some 172) _) _
      simp only [Act.put, List.setIfInBounds_toArray, List.set_cons_succ, List.set_cons_zero]
      refine wpAnyH_take (i := 18) (v := ?_) rfl (by kernel_rfl) (by kernel_rfl) (by kernel_rfl) (fun c a w h => hP c a _ _ w h) (Or.inl ⟨by rfl, ?_⟩) hS4 ?_
      rotate_left
      · (intro w hSw; (try dsimp only at hSw); go_simp; (try (with_reducible rfl)))
      change wpAnyH _ _ _ _ _ _ _ (Act.put _ (some 173) _) _
      simp only [Act.put, List.setIfInBounds_toArray, List.set_cons_succ, List.set_cons_zero]
      refine wpAnyH_take (i := 19) (v := ?_) rfl (by kernel_rfl) (by kernel_rfl) (by kernel_rfl) (fun c a w h => hP c a _ _ w h) (Or.inl ⟨by rfl, ?_⟩) hS4 ?_
      rotate_left
      · (intro w hSw; (try dsimp only at hSw); go_simp; (try (with_reducible rfl)))
      change wpAnyH _ _ _ _ _ _ _ (Act.put _ (some 174) _) _
      simp only [Act.put, List.setIfInBounds_toArray, List.set_cons_succ, List.set_cons_zero]
      refine wpAnyH_take (i := 20) (v := ?_) rfl (by kernel_rfl) (by kernel_rfl) (by kernel_rfl) (fun c a w h => hP c a _ _ w h) (Or.inl ⟨by rfl, ?_⟩) hS4 ?_
      rotate_left
      · (intro w hSw; (try dsimp only at hSw); go_simp; (try (with_reducible rfl)))
      change wpAnyH _ _ _ _ _ _ _ (Act.put _ (some 175) _) _
      simp only [Act.put, List.setIfInBounds_toArray, List.set_cons_succ, List.set_cons_zero]
      refine wpAnyH_ready (rs := [16]) (by kernel_rfl) (by simp) (AllReadyH.cons rfl (fun K hK => ?_) (AllReadyH.nil))
      have hS05 := hS4
      go_simp
      refine (lxNext LX4 0 n0 HN0.out).mono ?_
      rintro y v5 ⟨rfl, cc5⟩
      have LX5 := LX4.to cc5
      have LY5 := LY4.to cc5
      have hbx5 := hbx4.chg cc5 (by simp)
      have hby5 := hby4.chg cc5 (by simp)
      have hS5 : v5.cell? ⟨gA, 0, none⟩ = some (.slice p0 n0 d0) ∧ v5.cell? ⟨gA, 1, none⟩ = some (.slice p1 n1 d1) := ⟨cc5.cell hS4.1 (by simp), cc5.cell hS4.2 (by simp)⟩
      have ch5 := (ch4).trans' cc5 (by simp)
      go_wp2_with fail
      refine hK.out _ _ hS5 (fun hHeld => ?_)
      clear hK K
      try simp only [Act.put, List.setIfInBounds_toArray, List.set_cons_succ, List.set_cons_zero]
      refine wpAnyH_take (i := 21) (v := ?_) rfl (by kernel_rfl) (by kernel_rfl) (by kernel_rfl) (fun c a w h => hP c a _ _ w h) (Or.inl ⟨by rfl, ?_⟩) hS5 ?_
      rotate_left
      · (intro w hSw; (try dsimp only at hSw); go_simp; (try (with_reducible rfl)))
      change wpAnyH _ _ _ _ _ _ _ (Act.put _ (some 176) _) _
      simp only [Act.put, List.setIfInBounds_toArray, List.set_cons_succ, List.set_cons_zero]
      refine wpAnyH_take (i := 22) (v := ?_) rfl (by kernel_rfl) (by kernel_rfl) (by kernel_rfl) (fun c a w h => hP c a _ _ w h) (Or.inl ⟨by rfl, ?_⟩) hS5 ?_
      rotate_left
      · (intro w hSw; (try dsimp only at hSw); go_simp; (try (with_reducible rfl)))
      change wpAnyH _ _ _ _ _ _ _ (Act.put _ (some 177) _) _
      simp only [Act.put, List.setIfInBounds_toArray, List.set_cons_succ, List.set_cons_zero]
      refine wpAnyH_take (i := 23) (v := ?_) rfl (by kernel_rfl) (by kernel_rfl) (by kernel_rfl) (fun c a w h => hP c a _ _ w h) (Or.inl ⟨by rfl, ?_⟩) hS5 ?_
      rotate_left
      · (intro w hSw; (try dsimp only at hSw); go_simp; (try (with_reducible rfl)))
      change wpAnyH _ _ _ _ _ _ _ (Act.put _ (some 178) _) _
      simp only [Act.put, List.setIfInBounds_toArray, List.set_cons_succ, List.set_cons_zero]
      refine wpAnyH_take (i := 24) (v := ?_) rfl (by kernel_rfl) (by kernel_rfl) (by kernel_rfl) (fun c a w h => hP c a _ _ w h) (Or.inl ⟨by rfl, ?_⟩) hS5 ?_
      rotate_left
      · (intro w hSw; (try dsimp only at hSw); go_simp; (try (with_reducible rfl)))
      change wpAnyH _ _ _ _ _ _ _ (Act.put _ (some 179) _) _
      simp only [Act.put, List.setIfInBounds_toArray, List.set_cons_succ, List.set_cons_zero]
      refine wpAnyH_take (i := 26) (v := ?_) rfl (by kernel_rfl) (by kernel_rfl) (by kernel_rfl) (fun c a w h => hP c a _ _ w h) (Or.inl ⟨by rfl, ?_⟩) hS5 ?_
      rotate_left
      · (intro w hSw; (try dsimp only at hSw); go_simp; (try (with_reducible rfl)))
      change wpAnyH _ _ _ _ _ _ _ (Act.put _ (some 181) _) _
      simp only [Act.put, List.setIfInBounds_toArray, List.set_cons_succ, List.set_cons_zero]
      refine wpAnyH_take (i := 27) (v := ?_) rfl (by kernel_rfl) (by kernel_rfl) (by kernel_rfl) (fun c a w h => hP c a _ _ w h) (Or.inl ⟨by rfl, ?_⟩) hS5 ?_
      rotate_left
      · (intro w hSw; (try dsimp only at hSw); go_simp; (try (with_reducible rfl)))
      change wpAnyH _ _ _ _ _ _ _ (Act.put _ (some 182) _) _
      simp only [Act.put, List.setIfInBounds_toArray, List.set_cons_succ, List.set_cons_zero]
      refine wpAnyH_take (i := 28) (v := ?_) rfl (by kernel_rfl) (by kernel_rfl) (by kernel_rfl) (fun c a w h => hP c a _ _ w h) (Or.inl ⟨by rfl, ?_⟩) hS5 ?_
      rotate_left
      · (intro w hSw; (try dsimp only at hSw); go_simp; (try (with_reducible rfl)))
      change wpAnyH _ _ _ _ _ _ _ (Act.put _ (some 183) _) _
      simp only [Act.put, List.setIfInBounds_toArray, List.set_cons_succ, List.set_cons_zero]
      refine wpAnyH_take (i := 29) (v := ?_) rfl (by kernel_rfl) (by kernel_rfl) (by kernel_rfl) (fun c a w h => hP c a _ _ w h) (Or.inl ⟨by rfl, ?_⟩) hS5 ?_
      rotate_left
      · (intro w hSw; (try dsimp only at hSw); go_simp; (try (with_reducible rfl)))
      change wpAnyH _ _ _ _ _ _ _ (Act.put _ (some 184) _) _
      simp only [Act.put, List.setIfInBounds_toArray, List.set_cons_succ, List.set_cons_zero]
      refine wpAnyH_ready (rs := [25]) (by kernel_rfl) (by simp) (AllReadyH.cons rfl (fun K hK => ?_) (AllReadyH.nil))
      have hS06 := hS5
      go_simp
      refine (lxNext LX5 1 n1 HN1.out).mono ?_
      rintro y v6 ⟨rfl, cc6⟩
      have LX6 := LX5.to cc6
      have LY6 := LY5.to cc6
      have hbx6 := hbx5.chg cc6 (by simp)
      have hby6 := hby5.chg cc6 (by simp)
      have hS6 : v6.cell? ⟨gA, 0, none⟩ = some (.slice p0 n0 d0) ∧ v6.cell? ⟨gA, 1, none⟩ = some (.slice p1 n1 d1) := ⟨cc6.cell hS5.1 (by simp), cc6.cell hS5.2 (by simp)⟩
      have ch6 := (ch5).trans' cc6 (by simp)
      go_wp2_with fail
      refine hK.out _ _ hS6 (fun hHeld => ?_)
      clear hK K
      try simp only [Act.put, List.setIfInBounds_toArray, List.set_cons_succ, List.set_cons_zero]
      refine wpAnyH_take (i := 30) (v := ?_) rfl (by kernel_rfl) (by kernel_rfl) (by kernel_rfl) (fun c a w h => hP c a _ _ w h) (Or.inl ⟨by rfl, ?_⟩) hS6 ?_
      rotate_left
      · (intro w hSw; (try dsimp only at hSw); go_simp; (try (with_reducible rfl)))
      change wpAnyH _ _ _ _ _ _ _ (Act.put _ (some 185) _) _
      simp only [Act.put, List.setIfInBounds_toArray, List.set_cons_succ, List.set_cons_zero]
      refine wpAnyH_take (i := 31) (v := ?_) rfl (by kernel_rfl) (by kernel_rfl) (by kernel_rfl) (fun c a w h => hP c a _ _ w h) (Or.inl ⟨by rfl, ?_⟩) hS6 ?_
      rotate_left
      · (intro w hSw; (try dsimp only at hSw); go_simp; (try (with_reducible rfl)))
      change wpAnyH _ _ _ _ _ _ _ (Act.put _ (some 186) _) _
      simp only [Act.put, List.setIfInBounds_toArray, List.set_cons_succ, List.set_cons_zero]
      refine wpAnyH_take (i := 32) (v := ?_) rfl (by kernel_rfl) (by kernel_rfl) (by kernel_rfl) (fun c a w h => hP c a _ _ w h) (Or.inl ⟨by rfl, ?_⟩) hS6 ?_
      rotate_left
      · (intro w hSw; (try dsimp only at hSw); go_simp; (try (with_reducible rfl)))
      change wpAnyH _ _ _ _ _ _ _ (Act.put _ (some 187) _) _
      simp only [Act.put, List.setIfInBounds_toArray, List.set_cons_succ, List.set_cons_zero]
      refine wpAnyH_ready (rs := [33]) (by kernel_rfl) (by simp) (AllReadyH.cons rfl (fun K hK => ?_) (AllReadyH.nil))
      have hS07 := hS6
      go_simp
      refine (awake12 _).mono ?_
      rintro y v7 ⟨rfl, cc7⟩
      have LX7 := LX6.to cc7
      have LY7 := LY6.to cc7
      have hbx7 := hbx6.chg cc7 (by simp)
      have hby7 := hby6.chg cc7 (by simp)
      have hS7 : v7.cell? ⟨gA, 0, none⟩ = some (.slice p0 n0 d0) ∧ v7.cell? ⟨gA, 1, none⟩ = some (.slice p1 n1 d1) := ⟨cc7.cell hS6.1 (by simp), cc7.cell hS6.2 (by simp)⟩
      have ch7 := (ch6).trans' cc7 (by simp)
      go_wp2_with fail
      refine hK.out _ _ hS7 (fun hHeld => ?_)
      clear hK K
      try simp only [Act.put, List.setIfInBounds_toArray, List.set_cons_succ, List.set_cons_zero]
      refine wpAnyH_take (i := 34) (v := ?_) rfl (by kernel_rfl) (by kernel_rfl) (by kernel_rfl) (fun c a w h => hP c a _ _ w h) (Or.inl ⟨by rfl, ?_⟩) hS7 ?_
      rotate_left
      · (intro w hSw; (try dsimp only at hSw); go_simp; (try (with_reducible rfl)))
      change wpAnyH _ _ _ _ _ _ _ (Act.put _ (some 189) _) _
      simp only [Act.put, List.setIfInBounds_toArray, List.set_cons_succ, List.set_cons_zero]
      refine wpAnyH_take (i := 35) (v := ?_) rfl (by kernel_rfl) (by kernel_rfl) (by kernel_rfl) (fun c a w h => hP c a _ _ w h) (Or.inl ⟨by rfl, ?_⟩) hS7 ?_
      rotate_left
      · (intro w hSw; (try dsimp only at hSw); go_simp; (try (with_reducible rfl)))
      change wpAnyH _ _ _ _ _ _ _ (Act.put _ (some 6) _) _
      simp only [Act.put, List.setIfInBounds_toArray, List.set_cons_succ, List.set_cons_zero]
      refine wpAnyH_done (by kernel_rfl) ?_ _
      exact hQ _ ch7 _ _ _ _ _ _ _ _ _ _ _ _ _ _ _ _ _ _ _ _ _ _ _ _ _ _ _ _ _ _ _ _ _ _ _
end Go.Proofs.YteabcpmpcbjicaaGreat
