import Derived.Test.YtofcphfgpnobnaaRbook
import Derived.Test.YtofcphfgpnobnaaReg
import Derived.Deep.DrawnRows
import Derived.Deep.RegionHeld3
import Derived.StillTailTactics
namespace Go.Proofs.Ytofcphfgpnobnaa
set_option linter.unusedVariables false
open Go Go.Proofs Go.RowKit
attribute [local go_sem ↓] Go.wp_at_zero Go.wp_at_succ

set_option maxRecDepth 1000000 in
set_option maxHeartbeats 8000000 in
theorem plays_last {Q : Exit → Act → World → Prop} {u0 u1 u2 u3 u4 u7 u8 u9 u10 u11 u12 u13 u14 u15 u16 u17 u18 u23 u24 u25 u26 u27 u28 u29 u30 u31 u32 u33 u34 u35 u36 u37 u38 u39 u40 u41 u42 u43 u44 u45 u46 u47 u48 u49 u50 u51 u52 u53 u54 u55 u56 u57 u58 u59 u60 u61 u62 u63 u64 u65 u66 u67 u68 u69 u70 u71 u72 u73 u74 u75 u76 u77 u78 u79 u80 u81 u82 u83 u84 u85 u86 u87 u88 u89 u90 u91 u92 u93 u94 u95 u96 u97 u98 u99 u100 u101 u102 u103 u104 u105 u106 u107 u108 u109 u110 u111 u112 u113 u114 u115 u116 u117 u118 u119 u120 u121 u122 u123 u124 u125 u126 u127 u128 u129 u130 u131 u132 u133 u134 u135 u136 u137 u138 u139 u140 u141 u142 u143 u144 u145 u146 u147 u148 u149 u150 u151 u152 u153 u154 u155 u156 u157 u158 u159 u160 u161 u162 u163 u164 u165 : Value} (hP : ∀ c a d v w, Q (.panic c) (Act.put a d v) w → Q (.panic c) a w) {kb g g1 g2 nL nM cL cM : Nat} {aL aM : Option Addr} {ok : Bool} {FF : List Nat} {L M : List Ord} {r : Ord} {w W : World} (HB : Hid (BkS w W FF kb L M)) (HNL : Hid (L.length = nL)) (HNM : Hid (M.length = nM)) (hnL : nL ≤ 1000) (hnM : nM ≤ 1000) (HOL : Hid (Osq W aL L)) (HOM : Hid (Osq W aM M)) (HSL : Hid (∀ {w : World} (a1 a2 : Option Addr) (c1 c2 : Nat), Osq w a1 L → Osq w a2 L → Calls Try.prog 26 #[.slice a1 nL c1, .slice a2 nL c2] w fun e w' => e = .returned (.bool true) ∧ Chg [] w w')) (HSM : Hid (∀ {w : World} (a1 a2 : Option Addr) (c1 c2 : Nat), Osq w a1 M → Osq w a2 M → Calls Try.prog 26 #[.slice a1 nM c1, .slice a2 nM c2] w fun e w' => e = .returned (.bool true) ∧ Chg [] w w')) (y0 : W.cell? ⟨g1, 0, none⟩ = some (.int .i64 r.id)) (y1 : W.cell? ⟨g1, 1, none⟩ = some (.int .i64 r.client)) (y2 : W.cell? ⟨g1, 2, none⟩ = some (.bool r.buy)) (y3 : W.cell? ⟨g1, 3, none⟩ = some (.int .u64 r.price)) (y4 : W.cell? ⟨g1, 4, none⟩ = some (.int .u64 r.qty)) (z0 : W.cell? ⟨g2, 0, none⟩ = some (.int .i64 r.id)) (z1 : W.cell? ⟨g2, 1, none⟩ = some (.int .i64 r.client)) (z2 : W.cell? ⟨g2, 2, none⟩ = some (.bool r.buy)) (z3 : W.cell? ⟨g2, 3, none⟩ = some (.int .u64 r.price)) (z4 : W.cell? ⟨g2, 4, none⟩ = some (.int .u64 r.qty)) (k1 : W.cell? ⟨g, 1, none⟩ = some (.slice aL nL cL)) (k3 : W.cell? ⟨g, 3, none⟩ = some (.slice aM nM cM))
    (hQ : ∀ (w6 : World) (_ : Chg [] W w6) (x135 x136 x137 x138 x139 x140 x141 x142 x143 x144 x145 x146 x147 x148 x149 x150 x151 x152 x153 x154 x155 x156 x157 x158 x159 x160 x161 x162 x163 : Value), Q .normal ⟨#[u0, u1, u2, u3, u4, .pointer (some ⟨kb, 0, none⟩), .pointer (some ⟨g, 0, none⟩), u7, u8, u9, u10, u11, u12, u13, u14, u15, u16, u17, u18, .pointer (some ⟨g1, 0, none⟩), .bool ok, .pointer (some ⟨g2, 0, none⟩), .bool ok, u23, u24, u25, u26, u27, u28, u29, u30, u31, u32, u33, u34, u35, u36, u37, u38, u39, u40, u41, u42, u43, u44, u45, u46, u47, u48, u49, u50, u51, u52, u53, u54, u55, u56, u57, u58, u59, u60, u61, u62, u63, u64, u65, u66, u67, u68, u69, u70, u71, u72, u73, u74, u75, u76, u77, u78, u79, u80, u81, u82, u83, u84, u85, u86, u87, u88, u89, u90, u91, u92, u93, u94, u95, u96, u97, u98, u99, u100, u101, u102, u103, u104, u105, u106, u107, u108, u109, u110, u111, u112, u113, u114, u115, u116, u117, u118, u119, u120, u121, u122, u123, u124, u125, u126, u127, u128, u129, u130, u131, u132, u133, u134, x135, x136, x137, x138, x139, x140, x141, x142, x143, x144, x145, x146, x147, x148, x149, x150, x151, x152, x153, x154, x155, x156, x157, x158, x159, x160, x161, x162, x163, .bool false, u165], []⟩ w6) :
    Code.wp Try.prog (regionOf Try.f10 27) Q ⟨#[u0, u1, u2, u3, u4, .pointer (some ⟨kb, 0, none⟩), .pointer (some ⟨g, 0, none⟩), u7, u8, u9, u10, u11, u12, u13, u14, u15, u16, u17, u18, .pointer (some ⟨g1, 0, none⟩), .bool ok, .pointer (some ⟨g2, 0, none⟩), .bool ok, u23, u24, u25, u26, u27, u28, u29, u30, u31, u32, u33, u34, u35, u36, u37, u38, u39, u40, u41, u42, u43, u44, u45, u46, u47, u48, u49, u50, u51, u52, u53, u54, u55, u56, u57, u58, u59, u60, u61, u62, u63, u64, u65, u66, u67, u68, u69, u70, u71, u72, u73, u74, u75, u76, u77, u78, u79, u80, u81, u82, u83, u84, u85, u86, u87, u88, u89, u90, u91, u92, u93, u94, u95, u96, u97, u98, u99, u100, u101, u102, u103, u104, u105, u106, u107, u108, u109, u110, u111, u112, u113, u114, u115, u116, u117, u118, u119, u120, u121, u122, u123, u124, u125, u126, u127, u128, u129, u130, u131, u132, u133, u134, u135, u136, u137, u138, u139, u140, u141, u142, u143, u144, u145, u146, u147, u148, u149, u150, u151, u152, u153, u154, u155, u156, u157, u158, u159, u160, u161, u162, u163, u164, u165], []⟩ W := by
  conv => arg 2; whnf
  refine wp_region_held_drew (S := (fun w' => w'.cell? ⟨g1, 0, none⟩ = some (.int .i64 r.id) ∧ w'.cell? ⟨g1, 1, none⟩ = some (.int .i64 r.client) ∧ w'.cell? ⟨g1, 2, none⟩ = some (.bool r.buy) ∧ w'.cell? ⟨g1, 3, none⟩ = some (.int .u64 r.price) ∧ w'.cell? ⟨g1, 4, none⟩ = some (.int .u64 r.qty) ∧ w'.cell? ⟨g2, 0, none⟩ = some (.int .i64 r.id) ∧ w'.cell? ⟨g2, 1, none⟩ = some (.int .i64 r.client) ∧ w'.cell? ⟨g2, 2, none⟩ = some (.bool r.buy) ∧ w'.cell? ⟨g2, 3, none⟩ = some (.int .u64 r.price) ∧ w'.cell? ⟨g2, 4, none⟩ = some (.int .u64 r.qty) ∧ w'.cell? ⟨g, 1, none⟩ = some (.slice aL nL cL) ∧ w'.cell? ⟨g, 3, none⟩ = some (.slice aM nM cM))) (by kernel_rfl) ⟨y0, y1, y2, y3, y4, z0, z1, z2, z3, z4, k1, k3⟩ (fun _ => ?_)
  refine wpAnyH_take (i := 0) (v := ?_) rfl (by kernel_rfl) (by kernel_rfl) (by kernel_rfl) (fun c a w h => hP c a _ _ w h) (Or.inl ⟨by rfl, ?_⟩) ⟨y0, y1, y2, y3, y4, z0, z1, z2, z3, z4, k1, k3⟩ ?_
  rotate_left
  · (intro w hSw; (try dsimp only at hSw); go_simp; (try (with_reducible rfl)))
  change wpAnyH _ _ _ _ _ _ _ (Act.put _ (some 135) _) _
  simp only [Act.put, List.setIfInBounds_toArray, List.set_cons_succ, List.set_cons_zero]
  refine wpAnyH_take (i := 1) (v := ?_) rfl (by kernel_rfl) (by kernel_rfl) (by kernel_rfl) (fun c a w h => hP c a _ _ w h) (Or.inl ⟨by rfl, ?_⟩) ⟨y0, y1, y2, y3, y4, z0, z1, z2, z3, z4, k1, k3⟩ ?_
  rotate_left
  · (intro w hSw; (try dsimp only at hSw); go_simp; (try (with_reducible rfl)))
  change wpAnyH _ _ _ _ _ _ _ (Act.put _ (some 136) _) _
  simp only [Act.put, List.setIfInBounds_toArray, List.set_cons_succ, List.set_cons_zero]
  refine wpAnyH_take (i := 2) (v := ?_) rfl (by kernel_rfl) (by kernel_rfl) (by kernel_rfl) (fun c a w h => hP c a _ _ w h) (Or.inl ⟨by rfl, ?_⟩) ⟨y0, y1, y2, y3, y4, z0, z1, z2, z3, z4, k1, k3⟩ ?_
  rotate_left
  · (intro w hSw; (try dsimp only at hSw); go_simp; (try (with_reducible rfl)))
  change wpAnyH _ _ _ _ _ _ _ (Act.put _ (some 137) _) _
  simp only [Act.put, List.setIfInBounds_toArray, List.set_cons_succ, List.set_cons_zero]
  refine wpAnyH_take (i := 3) (v := ?_) rfl (by kernel_rfl) (by kernel_rfl) (by kernel_rfl) (fun c a w h => hP c a _ _ w h) (Or.inl ⟨by rfl, ?_⟩) ⟨y0, y1, y2, y3, y4, z0, z1, z2, z3, z4, k1, k3⟩ ?_
  rotate_left
  · (intro w hSw; (try dsimp only at hSw); go_simp; (try (with_reducible rfl)))
  change wpAnyH _ _ _ _ _ _ _ (Act.put _ (some 138) _) _
  simp only [Act.put, List.setIfInBounds_toArray, List.set_cons_succ, List.set_cons_zero]
  refine wpAnyH_take (i := 4) (v := ?_) rfl (by kernel_rfl) (by kernel_rfl) (by kernel_rfl) (fun c a w h => hP c a _ _ w h) (Or.inl ⟨by rfl, ?_⟩) ⟨y0, y1, y2, y3, y4, z0, z1, z2, z3, z4, k1, k3⟩ ?_
  rotate_left
  · (intro w hSw; (try dsimp only at hSw); go_simp; (try (with_reducible rfl)))
  change wpAnyH _ _ _ _ _ _ _ (Act.put _ (some 139) _) _
  simp only [Act.put, List.setIfInBounds_toArray, List.set_cons_succ, List.set_cons_zero]
  refine wpAnyH_take (i := 5) (v := ?_) rfl (by kernel_rfl) (by kernel_rfl) (by kernel_rfl) (fun c a w h => hP c a _ _ w h) (Or.inl ⟨by rfl, ?_⟩) ⟨y0, y1, y2, y3, y4, z0, z1, z2, z3, z4, k1, k3⟩ ?_
  rotate_left
  · (intro w hSw; (try dsimp only at hSw); go_simp; (try (with_reducible rfl)))
  change wpAnyH _ _ _ _ _ _ _ (Act.put _ (some 140) _) _
  simp only [Act.put, List.setIfInBounds_toArray, List.set_cons_succ, List.set_cons_zero]
  refine wpAnyH_take (i := 6) (v := ?_) rfl (by kernel_rfl) (by kernel_rfl) (by kernel_rfl) (fun c a w h => hP c a _ _ w h) (Or.inl ⟨by rfl, ?_⟩) ⟨y0, y1, y2, y3, y4, z0, z1, z2, z3, z4, k1, k3⟩ ?_
  rotate_left
  · (intro w hSw; (try dsimp only at hSw); go_simp; (try (with_reducible rfl)))
  change wpAnyH _ _ _ _ _ _ _ (Act.put _ (some 141) _) _
  simp only [Act.put, List.setIfInBounds_toArray, List.set_cons_succ, List.set_cons_zero]
  refine wpAnyH_take (i := 7) (v := ?_) rfl (by kernel_rfl) (by kernel_rfl) (by kernel_rfl) (fun c a w h => hP c a _ _ w h) (Or.inl ⟨by rfl, ?_⟩) ⟨y0, y1, y2, y3, y4, z0, z1, z2, z3, z4, k1, k3⟩ ?_
  rotate_left
  · (intro w hSw; (try dsimp only at hSw); go_simp; (try (with_reducible rfl)))
  change wpAnyH _ _ _ _ _ _ _ (Act.put _ (some 142) _) _
  simp only [Act.put, List.setIfInBounds_toArray, List.set_cons_succ, List.set_cons_zero]
  refine wpAnyH_take (i := 8) (v := ?_) rfl (by kernel_rfl) (by kernel_rfl) (by kernel_rfl) (fun c a w h => hP c a _ _ w h) (Or.inl ⟨by rfl, ?_⟩) ⟨y0, y1, y2, y3, y4, z0, z1, z2, z3, z4, k1, k3⟩ ?_
  rotate_left
  · (intro w hSw; (try dsimp only at hSw); go_simp; (try (with_reducible rfl)))
  change wpAnyH _ _ _ _ _ _ _ (Act.put _ (some 143) _) _
  simp only [Act.put, List.setIfInBounds_toArray, List.set_cons_succ, List.set_cons_zero]
  refine wpAnyH_take (i := 9) (v := ?_) rfl (by kernel_rfl) (by kernel_rfl) (by kernel_rfl) (fun c a w h => hP c a _ _ w h) (Or.inl ⟨by rfl, ?_⟩) ⟨y0, y1, y2, y3, y4, z0, z1, z2, z3, z4, k1, k3⟩ ?_
  rotate_left
  · (intro w hSw; (try dsimp only at hSw); go_simp; (try (with_reducible rfl)))
  change wpAnyH _ _ _ _ _ _ _ (Act.put _ (some 144) _) _
  simp only [Act.put, List.setIfInBounds_toArray, List.set_cons_succ, List.set_cons_zero]
  refine wpAnyH_take (i := 11) (v := ?_) rfl (by kernel_rfl) (by kernel_rfl) (by kernel_rfl) (fun c a w h => hP c a _ _ w h) (Or.inl ⟨by rfl, ?_⟩) ⟨y0, y1, y2, y3, y4, z0, z1, z2, z3, z4, k1, k3⟩ ?_
  rotate_left
  · (intro w hSw; (try dsimp only at hSw); go_simp; (try (with_reducible rfl)))
  change wpAnyH _ _ _ _ _ _ _ (Act.put _ (some 146) _) _
  simp only [Act.put, List.setIfInBounds_toArray, List.set_cons_succ, List.set_cons_zero]
  refine wpAnyH_take (i := 12) (v := ?_) rfl (by kernel_rfl) (by kernel_rfl) (by kernel_rfl) (fun c a w h => hP c a _ _ w h) (Or.inl ⟨by rfl, ?_⟩) ⟨y0, y1, y2, y3, y4, z0, z1, z2, z3, z4, k1, k3⟩ ?_
  rotate_left
  · (intro w hSw; (try dsimp only at hSw); go_simp; (try (with_reducible rfl)))
  change wpAnyH _ _ _ _ _ _ _ (Act.put _ (some 147) _) _
  simp only [Act.put, List.setIfInBounds_toArray, List.set_cons_succ, List.set_cons_zero]
  refine wpAnyH_take (i := 13) (v := ?_) rfl (by kernel_rfl) (by kernel_rfl) (by kernel_rfl) (fun c a w h => hP c a _ _ w h) (Or.inl ⟨by rfl, ?_⟩) ⟨y0, y1, y2, y3, y4, z0, z1, z2, z3, z4, k1, k3⟩ ?_
  rotate_left
  · (intro w hSw; (try dsimp only at hSw); go_simp; (try (with_reducible rfl)))
  change wpAnyH _ _ _ _ _ _ _ (Act.put _ (some 148) _) _
  simp only [Act.put, List.setIfInBounds_toArray, List.set_cons_succ, List.set_cons_zero]
  refine wpAnyH_take (i := 14) (v := ?_) rfl (by kernel_rfl) (by kernel_rfl) (by kernel_rfl) (fun c a w h => hP c a _ _ w h) (Or.inl ⟨by rfl, ?_⟩) ⟨y0, y1, y2, y3, y4, z0, z1, z2, z3, z4, k1, k3⟩ ?_
  rotate_left
  · (intro w hSw; (try dsimp only at hSw); go_simp; (try (with_reducible rfl)))
  change wpAnyH _ _ _ _ _ _ _ (Act.put _ (some 149) _) _
  simp only [Act.put, List.setIfInBounds_toArray, List.set_cons_succ, List.set_cons_zero]
  refine wpAnyH_take (i := 15) (v := ?_) rfl (by kernel_rfl) (by kernel_rfl) (by kernel_rfl) (fun c a w h => hP c a _ _ w h) (Or.inl ⟨by rfl, ?_⟩) ⟨y0, y1, y2, y3, y4, z0, z1, z2, z3, z4, k1, k3⟩ ?_
  rotate_left
  · (intro w hSw; (try dsimp only at hSw); go_simp; (try (with_reducible rfl)))
  change wpAnyH _ _ _ _ _ _ _ (Act.put _ (some 150) _) _
  simp only [Act.put, List.setIfInBounds_toArray, List.set_cons_succ, List.set_cons_zero]
  refine wpAnyH_ready (rs := [10]) (by kernel_rfl) (by simp) (AllReadyH.cons rfl (fun K hK => ?_) AllReadyH.nil)
  go_simp
  refine (bBids (HB.out.to ((Chg.refl [] W).drew)).bk (by rw [HNL.out]; omega)).mono ?_
  rintro e w3 ⟨v3, rfl, hO3, c3⟩
  obtain ⟨a3, d3, rfl, hS3⟩ := hO3.osn
  rw [HNL.out]
  have HZ3 : Hid (w3.cell? ⟨g1, 0, none⟩ = some (.int .i64 r.id) ∧ w3.cell? ⟨g1, 1, none⟩ = some (.int .i64 r.client) ∧ w3.cell? ⟨g1, 2, none⟩ = some (.bool r.buy) ∧ w3.cell? ⟨g1, 3, none⟩ = some (.int .u64 r.price) ∧ w3.cell? ⟨g1, 4, none⟩ = some (.int .u64 r.qty) ∧ w3.cell? ⟨g2, 0, none⟩ = some (.int .i64 r.id) ∧ w3.cell? ⟨g2, 1, none⟩ = some (.int .i64 r.client) ∧ w3.cell? ⟨g2, 2, none⟩ = some (.bool r.buy) ∧ w3.cell? ⟨g2, 3, none⟩ = some (.int .u64 r.price) ∧ w3.cell? ⟨g2, 4, none⟩ = some (.int .u64 r.qty) ∧ w3.cell? ⟨g, 1, none⟩ = some (.slice aL nL cL) ∧ w3.cell? ⟨g, 3, none⟩ = some (.slice aM nM cM)) := ⟨(((Chg.refl [] W).drew).trans c3).cell y0 (by simp), (((Chg.refl [] W).drew).trans c3).cell y1 (by simp), (((Chg.refl [] W).drew).trans c3).cell y2 (by simp), (((Chg.refl [] W).drew).trans c3).cell y3 (by simp), (((Chg.refl [] W).drew).trans c3).cell y4 (by simp), (((Chg.refl [] W).drew).trans c3).cell z0 (by simp), (((Chg.refl [] W).drew).trans c3).cell z1 (by simp), (((Chg.refl [] W).drew).trans c3).cell z2 (by simp), (((Chg.refl [] W).drew).trans c3).cell z3 (by simp), (((Chg.refl [] W).drew).trans c3).cell z4 (by simp), (((Chg.refl [] W).drew).trans c3).cell k1 (by simp), (((Chg.refl [] W).drew).trans c3).cell k3 (by simp)⟩
  have HS3 := Lib.hid hS3
  clear hS3 hO3
  go_wp2_with fail
  refine hK.out _ _ HZ3.out (fun hHeld => ?_)
  clear hK K
  refine wpAnyH_ready (rs := [16]) (by kernel_rfl) (by simp) (AllReadyH.cons rfl (fun K hK => ?_) AllReadyH.nil)
  go_simp
  refine (HSL.out _ _ d3 cL (Osn.osq HS3.out) (HOL.out.chg (((Chg.refl [] W).drew).trans c3))).mono ?_
  rintro e w4 ⟨rfl, c4⟩
  have HZ4 : Hid (w4.cell? ⟨g1, 0, none⟩ = some (.int .i64 r.id) ∧ w4.cell? ⟨g1, 1, none⟩ = some (.int .i64 r.client) ∧ w4.cell? ⟨g1, 2, none⟩ = some (.bool r.buy) ∧ w4.cell? ⟨g1, 3, none⟩ = some (.int .u64 r.price) ∧ w4.cell? ⟨g1, 4, none⟩ = some (.int .u64 r.qty) ∧ w4.cell? ⟨g2, 0, none⟩ = some (.int .i64 r.id) ∧ w4.cell? ⟨g2, 1, none⟩ = some (.int .i64 r.client) ∧ w4.cell? ⟨g2, 2, none⟩ = some (.bool r.buy) ∧ w4.cell? ⟨g2, 3, none⟩ = some (.int .u64 r.price) ∧ w4.cell? ⟨g2, 4, none⟩ = some (.int .u64 r.qty) ∧ w4.cell? ⟨g, 1, none⟩ = some (.slice aL nL cL) ∧ w4.cell? ⟨g, 3, none⟩ = some (.slice aM nM cM)) := ⟨((((Chg.refl [] W).drew).trans c3).trans c4).cell y0 (by simp), ((((Chg.refl [] W).drew).trans c3).trans c4).cell y1 (by simp), ((((Chg.refl [] W).drew).trans c3).trans c4).cell y2 (by simp), ((((Chg.refl [] W).drew).trans c3).trans c4).cell y3 (by simp), ((((Chg.refl [] W).drew).trans c3).trans c4).cell y4 (by simp), ((((Chg.refl [] W).drew).trans c3).trans c4).cell z0 (by simp), ((((Chg.refl [] W).drew).trans c3).trans c4).cell z1 (by simp), ((((Chg.refl [] W).drew).trans c3).trans c4).cell z2 (by simp), ((((Chg.refl [] W).drew).trans c3).trans c4).cell z3 (by simp), ((((Chg.refl [] W).drew).trans c3).trans c4).cell z4 (by simp), ((((Chg.refl [] W).drew).trans c3).trans c4).cell k1 (by simp), ((((Chg.refl [] W).drew).trans c3).trans c4).cell k3 (by simp)⟩
  go_wp2_with fail
  refine hK.out _ _ HZ4.out (fun hHeld => ?_)
  clear hK K
  refine wpAnyH_take (i := 17) (v := ?_) rfl (by kernel_rfl) (by kernel_rfl) (by kernel_rfl) (fun c a w h => hP c a _ _ w h) (Or.inl ⟨by rfl, ?_⟩) HZ4.out ?_
  rotate_left
  · (intro w hSw; (try dsimp only at hSw); go_simp; (try (with_reducible rfl)))
  change wpAnyH _ _ _ _ _ _ _ (Act.put _ (some 152) _) _
  simp only [Act.put, List.setIfInBounds_toArray, List.set_cons_succ, List.set_cons_zero]
  refine wpAnyH_take (i := 18) (v := ?_) rfl (by kernel_rfl) (by kernel_rfl) (by kernel_rfl) (fun c a w h => hP c a _ _ w h) (Or.inl ⟨by rfl, ?_⟩) HZ4.out ?_
  rotate_left
  · (intro w hSw; (try dsimp only at hSw); go_simp; (try (with_reducible rfl)))
  change wpAnyH _ _ _ _ _ _ _ (Act.put _ (some 153) _) _
  simp only [Act.put, List.setIfInBounds_toArray, List.set_cons_succ, List.set_cons_zero]
  refine wpAnyH_take (i := 19) (v := ?_) rfl (by kernel_rfl) (by kernel_rfl) (by kernel_rfl) (fun c a w h => hP c a _ _ w h) (Or.inl ⟨by rfl, ?_⟩) HZ4.out ?_
  rotate_left
  · (intro w hSw; (try dsimp only at hSw); go_simp; (try (with_reducible rfl)))
  change wpAnyH _ _ _ _ _ _ _ (Act.put _ (some 154) _) _
  simp only [Act.put, List.setIfInBounds_toArray, List.set_cons_succ, List.set_cons_zero]
  refine wpAnyH_take (i := 20) (v := ?_) rfl (by kernel_rfl) (by kernel_rfl) (by kernel_rfl) (fun c a w h => hP c a _ _ w h) (Or.inl ⟨by rfl, ?_⟩) HZ4.out ?_
  rotate_left
  · (intro w hSw; (try dsimp only at hSw); go_simp; (try (with_reducible rfl)))
  change wpAnyH _ _ _ _ _ _ _ (Act.put _ (some 155) _) _
  simp only [Act.put, List.setIfInBounds_toArray, List.set_cons_succ, List.set_cons_zero]
  refine wpAnyH_take (i := 22) (v := ?_) rfl (by kernel_rfl) (by kernel_rfl) (by kernel_rfl) (fun c a w h => hP c a _ _ w h) (Or.inl ⟨by rfl, ?_⟩) HZ4.out ?_
  rotate_left
  · (intro w hSw; (try dsimp only at hSw); go_simp; (try (with_reducible rfl)))
  change wpAnyH _ _ _ _ _ _ _ (Act.put _ (some 157) _) _
  simp only [Act.put, List.setIfInBounds_toArray, List.set_cons_succ, List.set_cons_zero]
  refine wpAnyH_take (i := 23) (v := ?_) rfl (by kernel_rfl) (by kernel_rfl) (by kernel_rfl) (fun c a w h => hP c a _ _ w h) (Or.inl ⟨by rfl, ?_⟩) HZ4.out ?_
  rotate_left
  · (intro w hSw; (try dsimp only at hSw); go_simp; (try (with_reducible rfl)))
  change wpAnyH _ _ _ _ _ _ _ (Act.put _ (some 158) _) _
  simp only [Act.put, List.setIfInBounds_toArray, List.set_cons_succ, List.set_cons_zero]
  refine wpAnyH_take (i := 24) (v := ?_) rfl (by kernel_rfl) (by kernel_rfl) (by kernel_rfl) (fun c a w h => hP c a _ _ w h) (Or.inl ⟨by rfl, ?_⟩) HZ4.out ?_
  rotate_left
  · (intro w hSw; (try dsimp only at hSw); go_simp; (try (with_reducible rfl)))
  change wpAnyH _ _ _ _ _ _ _ (Act.put _ (some 159) _) _
  simp only [Act.put, List.setIfInBounds_toArray, List.set_cons_succ, List.set_cons_zero]
  refine wpAnyH_take (i := 25) (v := ?_) rfl (by kernel_rfl) (by kernel_rfl) (by kernel_rfl) (fun c a w h => hP c a _ _ w h) (Or.inl ⟨by rfl, ?_⟩) HZ4.out ?_
  rotate_left
  · (intro w hSw; (try dsimp only at hSw); go_simp; (try (with_reducible rfl)))
  change wpAnyH _ _ _ _ _ _ _ (Act.put _ (some 160) _) _
  simp only [Act.put, List.setIfInBounds_toArray, List.set_cons_succ, List.set_cons_zero]
  refine wpAnyH_take (i := 26) (v := ?_) rfl (by kernel_rfl) (by kernel_rfl) (by kernel_rfl) (fun c a w h => hP c a _ _ w h) (Or.inl ⟨by rfl, ?_⟩) HZ4.out ?_
  rotate_left
  · (intro w hSw; (try dsimp only at hSw); go_simp; (try (with_reducible rfl)))
  change wpAnyH _ _ _ _ _ _ _ (Act.put _ (some 161) _) _
  simp only [Act.put, List.setIfInBounds_toArray, List.set_cons_succ, List.set_cons_zero]
  refine wpAnyH_ready (rs := [21]) (by kernel_rfl) (by simp) (AllReadyH.cons rfl (fun K hK => ?_) AllReadyH.nil)
  go_simp
  refine (bAsks (HB.out.to ((((Chg.refl [] W).drew).trans c3).trans c4)).bk (by rw [HNM.out]; omega)).mono ?_
  rintro e w5 ⟨v5, rfl, hO5, c5⟩
  obtain ⟨a5, d5, rfl, hS5⟩ := hO5.osn
  rw [HNM.out]
  have HZ5 : Hid (w5.cell? ⟨g1, 0, none⟩ = some (.int .i64 r.id) ∧ w5.cell? ⟨g1, 1, none⟩ = some (.int .i64 r.client) ∧ w5.cell? ⟨g1, 2, none⟩ = some (.bool r.buy) ∧ w5.cell? ⟨g1, 3, none⟩ = some (.int .u64 r.price) ∧ w5.cell? ⟨g1, 4, none⟩ = some (.int .u64 r.qty) ∧ w5.cell? ⟨g2, 0, none⟩ = some (.int .i64 r.id) ∧ w5.cell? ⟨g2, 1, none⟩ = some (.int .i64 r.client) ∧ w5.cell? ⟨g2, 2, none⟩ = some (.bool r.buy) ∧ w5.cell? ⟨g2, 3, none⟩ = some (.int .u64 r.price) ∧ w5.cell? ⟨g2, 4, none⟩ = some (.int .u64 r.qty) ∧ w5.cell? ⟨g, 1, none⟩ = some (.slice aL nL cL) ∧ w5.cell? ⟨g, 3, none⟩ = some (.slice aM nM cM)) := ⟨(((((Chg.refl [] W).drew).trans c3).trans c4).trans c5).cell y0 (by simp), (((((Chg.refl [] W).drew).trans c3).trans c4).trans c5).cell y1 (by simp), (((((Chg.refl [] W).drew).trans c3).trans c4).trans c5).cell y2 (by simp), (((((Chg.refl [] W).drew).trans c3).trans c4).trans c5).cell y3 (by simp), (((((Chg.refl [] W).drew).trans c3).trans c4).trans c5).cell y4 (by simp), (((((Chg.refl [] W).drew).trans c3).trans c4).trans c5).cell z0 (by simp), (((((Chg.refl [] W).drew).trans c3).trans c4).trans c5).cell z1 (by simp), (((((Chg.refl [] W).drew).trans c3).trans c4).trans c5).cell z2 (by simp), (((((Chg.refl [] W).drew).trans c3).trans c4).trans c5).cell z3 (by simp), (((((Chg.refl [] W).drew).trans c3).trans c4).trans c5).cell z4 (by simp), (((((Chg.refl [] W).drew).trans c3).trans c4).trans c5).cell k1 (by simp), (((((Chg.refl [] W).drew).trans c3).trans c4).trans c5).cell k3 (by simp)⟩
  have HS5 := Lib.hid hS5
  clear hS5 hO5
  go_wp2_with fail
  refine hK.out _ _ HZ5.out (fun hHeld => ?_)
  clear hK K
  refine wpAnyH_ready (rs := [27]) (by kernel_rfl) (by simp) (AllReadyH.cons rfl (fun K hK => ?_) AllReadyH.nil)
  go_simp
  refine (HSM.out _ _ d5 cM (Osn.osq HS5.out) (HOM.out.chg (((((Chg.refl [] W).drew).trans c3).trans c4).trans c5))).mono ?_
  rintro e w6 ⟨rfl, c6⟩
  have HZ6 : Hid (w6.cell? ⟨g1, 0, none⟩ = some (.int .i64 r.id) ∧ w6.cell? ⟨g1, 1, none⟩ = some (.int .i64 r.client) ∧ w6.cell? ⟨g1, 2, none⟩ = some (.bool r.buy) ∧ w6.cell? ⟨g1, 3, none⟩ = some (.int .u64 r.price) ∧ w6.cell? ⟨g1, 4, none⟩ = some (.int .u64 r.qty) ∧ w6.cell? ⟨g2, 0, none⟩ = some (.int .i64 r.id) ∧ w6.cell? ⟨g2, 1, none⟩ = some (.int .i64 r.client) ∧ w6.cell? ⟨g2, 2, none⟩ = some (.bool r.buy) ∧ w6.cell? ⟨g2, 3, none⟩ = some (.int .u64 r.price) ∧ w6.cell? ⟨g2, 4, none⟩ = some (.int .u64 r.qty) ∧ w6.cell? ⟨g, 1, none⟩ = some (.slice aL nL cL) ∧ w6.cell? ⟨g, 3, none⟩ = some (.slice aM nM cM)) := ⟨((((((Chg.refl [] W).drew).trans c3).trans c4).trans c5).trans c6).cell y0 (by simp), ((((((Chg.refl [] W).drew).trans c3).trans c4).trans c5).trans c6).cell y1 (by simp), ((((((Chg.refl [] W).drew).trans c3).trans c4).trans c5).trans c6).cell y2 (by simp), ((((((Chg.refl [] W).drew).trans c3).trans c4).trans c5).trans c6).cell y3 (by simp), ((((((Chg.refl [] W).drew).trans c3).trans c4).trans c5).trans c6).cell y4 (by simp), ((((((Chg.refl [] W).drew).trans c3).trans c4).trans c5).trans c6).cell z0 (by simp), ((((((Chg.refl [] W).drew).trans c3).trans c4).trans c5).trans c6).cell z1 (by simp), ((((((Chg.refl [] W).drew).trans c3).trans c4).trans c5).trans c6).cell z2 (by simp), ((((((Chg.refl [] W).drew).trans c3).trans c4).trans c5).trans c6).cell z3 (by simp), ((((((Chg.refl [] W).drew).trans c3).trans c4).trans c5).trans c6).cell z4 (by simp), ((((((Chg.refl [] W).drew).trans c3).trans c4).trans c5).trans c6).cell k1 (by simp), ((((((Chg.refl [] W).drew).trans c3).trans c4).trans c5).trans c6).cell k3 (by simp)⟩
  go_wp2_with fail
  refine hK.out _ _ HZ6.out (fun hHeld => ?_)
  clear hK K
  refine wpAnyH_take (i := 28) (v := ?_) rfl (by kernel_rfl) (by kernel_rfl) (by kernel_rfl) (fun c a w h => hP c a _ _ w h) (Or.inl ⟨by rfl, ?_⟩) HZ6.out ?_
  rotate_left
  · (intro w hSw; (try dsimp only at hSw); go_simp; (try (with_reducible rfl)))
  change wpAnyH _ _ _ _ _ _ _ (Act.put _ (some 163) _) _
  simp only [Act.put, List.setIfInBounds_toArray, List.set_cons_succ, List.set_cons_zero]
  refine wpAnyH_take (i := 29) (v := ?_) rfl (by kernel_rfl) (by kernel_rfl) (by kernel_rfl) (fun c a w h => hP c a _ _ w h) (Or.inl ⟨by rfl, ?_⟩) HZ6.out ?_
  rotate_left
  · (intro w hSw; (try dsimp only at hSw); go_simp; (try (with_reducible rfl)))
  change wpAnyH _ _ _ _ _ _ _ (Act.put _ (some 164) _) _
  simp only [Act.put, List.setIfInBounds_toArray, List.set_cons_succ, List.set_cons_zero]
  refine wpAnyH_done (by kernel_rfl) ?_ _
  exact hQ _ ((((((Chg.refl [] W).drew).trans c3).trans c4).trans c5).trans c6) _ _ _ _ _ _ _ _ _ _ _ _ _ _ _ _ _ _ _ _ _ _ _ _ _ _ _ _ _
end Go.Proofs.Ytofcphfgpnobnaa

namespace Go.Proofs.Ytofcphfgpnobnaa
set_option linter.unusedVariables false
open Go Go.Proofs Go.RowKit
attribute [local go_sem ↓] Go.wp_at_zero Go.wp_at_succ

theorem NewF.far {w w' : World} {S : List Nat} {B : Nat} {a : Option Addr} {T : List Trd} (h : NewF tc w B 61 a T) (c : Chg S w w') (hs : ∀ x ∈ S, x < B) : NewF tc w' B 61 a T := h.chg c hs

set_option maxRecDepth 100000 in
set_option maxHeartbeats 16000000 in
theorem plays_walk9 (a1 : Option Addr) (n1 cap1 : Nat) (few : Bool) (w : World) (h1 : SRec [some .i64, some .i64, some .i64, none, none, some .u64, some .u64] w a1 n1 cap1) :
    Calls Try.prog 10 #[.slice a1 n1 cap1, .bool few] w fun e w' => e = .returned (.bool true) ∧ Below w.heap.size w w' := by
  have n1m : n1 ≤ 9223372036854775807 := by have := h1.1; have := h1.2.1; omega
  have H1 := Lib.hid h1; clear h1
  go_enter Try.func10, Try.ntmps10
  go_wp2_with fail
  refine (bNewS w w (Chg.refl _ _)).mono ?_
  rintro e w1 ⟨kb, F0, rfl, hB0, _, _⟩
  go_wp2_with fail
  refine (rNewBook w1 (by have := hB0.new _ hB0.bk.at; omega) F0 hB0.new).mono ?_
  rintro e w2 ⟨g, rfl, hg, hR0, c2⟩
  have hB1 := hB0.to c2
  have hlo : w.heap.size ≤ g := by have := hB0.c.size; omega
  clear hB0 c2 hg
  go_wp2_with fail
  go_loopw [7] (fun i wr => ∃ (k : Nat) (FF : List Nat) (L M : List Ord), k ≤ n1 ∧ k ≤ 50 ∧ i = .int .i64 k ∧ BkS w wr FF kb L M ∧ Rbk wr FF g L M ∧ Hid (Fresh k L M) ∧ L.length + M.length ≤ k) (fun i _ => 50 - (intOf i).toNat)
  case atStart => exact ⟨0, F0, [], [], by omega, by omega, rfl, hB1, hR0, Fresh.start, by simp⟩
  case round =>
    clear hB1 hR0
    obtain ⟨k, FF, L, M, hk1, hk2, rfl, hB0, hR0, HFR, hlen⟩ := hrel
    by_cases hlt2 : k < n1 ∧ k < 50
    · obtain ⟨hm1, hm2⟩ := hlt2
      obtain ⟨b1, off, kd, id, cl, by', rs, p, q, rfl, _, _, hfl, hp, hq, Q⟩ := H1.out.step9 hm1
      have HFI := Lib.hid (And.intro hfl (And.intro hp hq))
      obtain ⟨s0, s1, s2, s3, s4, s5, s6⟩ := Q.c wr hB0.c.below
      have d50 : decide ((k : Int) < 50) = true := by simp; omega
      have i1 : (0 : Int) ≤ (k : Int) := by omega
      have i2 : (k : Int) < (n1 : Int) := by omega
      have HB8F : Hid (wr.heap.size ∉ FF) := fun hm => by have := hB0.new _ hm; omega
      have hg8 : g < wr.heap.size := hR0.b.lt
      clear Q hfl hp hq
      go_upto_if 41 with (fail)
      have hb8 : Blk (wr.alloc (.cells #[.int .i64 kd, .int .i64 id, .int .i64 cl, .bool by', .bool rs, .int .u64 p, .int .u64 q] 56)) wr.heap.size 56 [.int .i64 kd, .int .i64 id, .int .i64 cl, .bool by', .bool rs, .int .u64 p, .int .u64 q] := Blk.new wr _ _
      have hc8 : Chg [] wr (wr.alloc (.cells #[.int .i64 kd, .int .i64 id, .int .i64 cl, .bool by', .bool rs, .int .u64 p, .int .u64 q] 56)) := (Chg.refl _ _).alloc _
      have HC8 := Lib.hid hc8
      clear hc8 s0 s1 s2 s3 s4 s5 s6
      obtain ⟨b8, hb8n⟩ : ∃ b, wr.heap.size = b := ⟨_, rfl⟩
      rw [hb8n] at hb8 HB8F hg8 ⊢
      have HB8N := Lib.hid hb8n
      clear hb8n
      generalize wr.alloc _ = W8 at *
      go_cut [7] from 42 to 53 (fun v wx => v = .int .i64 (k : Int) ∧ Chg [] wr wx ∧ ∃ (cl' p' q' : Int), Blk wx b8 56 [.int .i64 kd, .int .i64 id, .int .i64 cl', .bool by', .bool rs, .int .u64 p', .int .u64 q'] ∧ I cl' ∧ U p' ∧ U q')
      case first =>
        cases few
        · go_wp2_with fail
          go_meet
          exact ⟨rfl, HC8.out, cl, p, q, hb8, HFI.out.1, HFI.out.2.1, HFI.out.2.2⟩
        · have y2 := hb8.at (i := 2) rfl
          have y5 := hb8.at (i := 5) rfl
          have y6 := hb8.at (i := 6) rfl
          obtain ⟨f1, e1, l1⟩ := and7_u64 p
          obtain ⟨f2, e2, l2⟩ := and7_u64 q
          obtain ⟨f3, e3, l3⟩ := and3_i64 cl
          have z2 := hb8.free 2
          have z5 := hb8.free 5
          have z6 := hb8.free 6
          have hbb : Blk (((W8.setCell ⟨b8, 5, none⟩ (.int .u64 (f1 : Int))).setCell ⟨b8, 6, none⟩ (.int .u64 (f2 : Int))).setCell ⟨b8, 2, none⟩ (.int .i64 (f3 : Int))) b8 56 [.int .i64 kd, .int .i64 id, .int .i64 (f3 : Int), .bool by', .bool rs, .int .u64 (f1 : Int), .int .u64 (f2 : Int)] := ((hb8.set 5 _).set 6 _).set 2 _
          have hcc : Chg [] wr (((W8.setCell ⟨b8, 5, none⟩ (.int .u64 (f1 : Int))).setCell ⟨b8, 6, none⟩ (.int .u64 (f2 : Int))).setCell ⟨b8, 2, none⟩ (.int .i64 (f3 : Int))) :=
            ((HC8.out.setCell _ _ (.inr (by rw [HB8N.out]; exact Nat.le_refl _))).setCell _ _ (.inr (by rw [HB8N.out]; exact Nat.le_refl _))).setCell _ _ (.inr (by rw [HB8N.out]; exact Nat.le_refl _))
          have HBB := Lib.hid hbb
          have HCC := Lib.hid hcc
          clear hbb hcc hb8
          go_wp2_with fail
          go_meet
          exact ⟨rfl, HCC.out, (f3 : Int), (f1 : Int), (f2 : Int), HBB.out, ⟨by omega, by omega⟩, ⟨by omega, by omega⟩, ⟨by omega, by omega⟩⟩
      case rest =>
        obtain ⟨rfl, hcw, cl', p', q', hb, hfc, hfp, hfq⟩ := hcut
        have hB := hB0.to hcw
        have hR := hR0.to hcw
        clear hb8 hB0 hR0 hcw HC8
        obtain ⟨f6, e6, l6⟩ := and63_i64 id
        obtain ⟨f0, e0, l0⟩ := and3_i64 kd
        have x1 := hb.at (i := 1) rfl
        have x0 := hb.at (i := 0) rfl
        have hLM0 : L.length ≤ 50 ∧ M.length ≤ 50 := ⟨by omega, by omega⟩
        obtain ⟨hL50, hM50⟩ := hLM0
        have hb8F : b8 ∉ FF := HB8F.out
        go_upto_if 60 with (fail)
        clear x0 x1 e0 e6
        go_cut [7, 23, 24, 25, 26] from 10 to 122 (fun v u3 u4 u5 u6 wx => v = .int .i64 (k : Int) ∧ u3 = .pointer (some ⟨kb, 0, none⟩) ∧ u4 = .pointer (some ⟨g, 0, none⟩) ∧ u5 = .pointer (some ⟨kb, 0, none⟩) ∧ u6 = .bool false ∧ ∃ (F' : List Nat) (L' M' : List Ord), BkS w wx F' kb L' M' ∧ Rbk wx F' g L' M' ∧ Hid (Fresh (k + 1) L' M') ∧ L'.length + M'.length ≤ k + 1)
        case first =>
          by_cases hf0 : f0 = 0
          · obtain ⟨x, ok, hx⟩ : ∃ x ok, pickB (f6 : Int) L M = (x, ok) := ⟨_, _, rfl⟩
            have HX := Lib.hid hx
            have d0 : ((f0 : Int) == 0) = true := by rw [hf0]; rfl
            clear hx hf0
            go_wp2_with fail
            refine (bRemove_is hB (f6 : Int) x ok _ _ (by rw [HX.out]) (by omega) (by omega)).mono ?_
            rintro e w3 ⟨rfl, hB3, c3⟩
            have hR3 := hR.far c3 (fun _ h => h) (Grw.refl _ _) hB3.new
            have hB4 := hB3.to ((Chg.refl [] w3).alloc (.cells #[.int .i64 x.id, .int .i64 x.client, .bool x.buy, .int .u64 x.price, .int .u64 x.qty] 28))
            have hR4 := hR3.to ((Chg.refl [] w3).alloc (.cells #[.int .i64 x.id, .int .i64 x.client, .bool x.buy, .int .u64 x.price, .int .u64 x.qty] 28))
            have hb10 : Blk (w3.alloc (.cells #[.int .i64 x.id, .int .i64 x.client, .bool x.buy, .int .u64 x.price, .int .u64 x.qty] 28)) w3.heap.size 28 (oc x) := Blk.new w3 (oc x) _
            have hg10 : g ≠ w3.heap.size := by have := hR3.b.lt; omega
            have g4 := hB3.bk.at
            have g5 := hR3.ne
            clear hB hR hB3 hR3 c3
            go_wp2_with fail
            generalize w3.heap.size = b10 at *
            generalize w3.alloc _ = W4 at *
            refine (rbRemove_is hR4 HFR.out.two.1 HFR.out.two.2 (f6 : Int) x ok HX.out (by omega) (by omega)).mono ?_
            rintro e w5 ⟨rfl, hR5, c5⟩
            have hB5 := hB4.aside c5 g5 hlo
            have hb5 := hb10.chg c5 (by simp; omega)
            have hB6 := hB5.to ((Chg.refl [] w5).alloc (.cells #[.int .i64 x.id, .int .i64 x.client, .bool x.buy, .int .u64 x.price, .int .u64 x.qty] 28))
            have hR6 := hR5.to ((Chg.refl [] w5).alloc (.cells #[.int .i64 x.id, .int .i64 x.client, .bool x.buy, .int .u64 x.price, .int .u64 x.qty] 28))
            have hb6 := hb5.alloc (.cells #[.int .i64 x.id, .int .i64 x.client, .bool x.buy, .int .u64 x.price, .int .u64 x.qty] 28)
            have hb12 : Blk (w5.alloc (.cells #[.int .i64 x.id, .int .i64 x.client, .bool x.buy, .int .u64 x.price, .int .u64 x.qty] 28)) w5.heap.size 28 (oc x) := Blk.new w5 (oc x) _
            clear hB4 hR4 hb10 c5 hB5 hR5 hb5
            go_upto_region 14 with (fail)
            generalize w5.heap.size = b12 at *
            generalize w5.alloc _ = W6 at *
            have y0 := hb6.at (i := 0) rfl
            have z0 := hb12.at (i := 0) rfl
            have y1 := hb6.at (i := 1) rfl
            have z1 := hb12.at (i := 1) rfl
            have y2 := hb6.at (i := 2) rfl
            have z2 := hb12.at (i := 2) rfl
            have y3 := hb6.at (i := 3) rfl
            have z3 := hb12.at (i := 3) rfl
            have y4 := hb6.at (i := 4) rfl
            have z4 := hb12.at (i := 4) rfl
            clear hb6 hb12
            go_wp2_with fail
            go_meet
            exact ⟨rfl, rfl, rfl, rfl, rfl, FF, _, _, hB6, hR6, (HFR.out.remove _).mono (Nat.le_succ k), by have h1 := (sans_sub (f6 : Int) L).length_le; have h2 := remM_len (f6 : Int) L M; omega⟩
          · have d0 : ((f0 : Int) == 0) = false := beq_eq_false_iff_ne.2 (by omega)
            have y2 := hb.at (i := 2) rfl
            have y3 := hb.at (i := 3) rfl
            have y4 := hb.at (i := 4) rfl
            have y5 := hb.at (i := 5) rfl
            have y6 := hb.at (i := 6) rfl
            have wk1 : IntKind.i64.wrap ((k : Int) + 1) = (k : Int) + 1 := IntWalk.i64_in _ (by omega)
            obtain ⟨T, lft, hT0⟩ : ∃ T lft, (mres ⟨(k : Int) + 1, cl', by', p', q'⟩ L M).1 = T ∧ (mres ⟨(k : Int) + 1, cl', by', p', q'⟩ L M).2.1 = lft := ⟨_, _, rfl, rfl⟩
            have hOk : (⟨(k : Int) + 1, cl', by', p', q'⟩ : Ord).Ok := ordOk _ _ _ _ _ ⟨by omega, by omega⟩ ⟨hfc.1, hfc.2⟩ ⟨hfp.1, hfp.2⟩ ⟨hfq.1, hfq.2⟩
            have hmlen := mch_len ⟨(k : Int) + 1, cl', by', p', q'⟩ (if by' = true then M else L) q'
            have hTn : T.length ≤ 50 := by
              have h1 := hmlen.1
              have e : (mch ⟨(k : Int) + 1, cl', by', p', q'⟩ q' (if by' = true then M else L)).1 = T := hT0.1
              rw [e] at h1
              split at h1 <;> omega
            have hLM : (mL ⟨(k : Int) + 1, cl', by', p', q'⟩ L M).length + (mM ⟨(k : Int) + 1, cl', by', p', q'⟩ L M).length ≤ k := by
              have h1 := (mch_len ⟨(k : Int) + 1, cl', by', p', q'⟩ M q').2
              have h2 := (mch_len ⟨(k : Int) + 1, cl', by', p', q'⟩ L q').2
              unfold mL mM mres
              cases by' <;> simp <;> omega
            have hlft : 0 ≤ lft ∧ lft ≤ q' := by
              have hok := hB.ok
              have h1 := mch_left ⟨(k : Int) + 1, cl', by', p', q'⟩ (if by' = true then M else L) (fun x hx => (hok x (by split at hx <;> simp [hx])).qty.1) q' hfq.1
              have e : (mch ⟨(k : Int) + 1, cl', by', p', q'⟩ q' (if by' = true then M else L)).2.1 = lft := hT0.2
              rwa [e] at h1
            have HLM := Lib.hid hLM
            have HLF := Lib.hid hlft
            have HOK := Lib.hid hOk
            have HT0 := Lib.hid hT0
            have HALL := Lib.hid hB.ok
            obtain ⟨nT, hnT⟩ : ∃ m, T.length = m := ⟨_, rfl⟩
            rw [hnT] at hTn
            have HNT := Lib.hid hnT
            have HFC := Lib.hid (And.intro hfc (And.intro hfp hfq))
            clear hT0 hmlen hLM hlft hOk hnT hfc hfp hfq hf0
            have hB1 := hB.to ((Chg.refl [] wc).alloc (.cells #[.int .i64 ((k : Int) + 1), .int .i64 cl', .bool by', .int .u64 p', .int .u64 q'] 28))
            have hR1 := hR.box ((Chg.refl [] wc).alloc (.cells #[.int .i64 ((k : Int) + 1), .int .i64 cl', .bool by', .int .u64 p', .int .u64 q'] 28)) (Nat.le_refl _) (by simp)
            have hbo : Blk (wc.alloc (.cells #[.int .i64 ((k : Int) + 1), .int .i64 cl', .bool by', .int .u64 p', .int .u64 q'] 28)) wc.heap.size 28 (oc ⟨(k : Int) + 1, cl', by', p', q'⟩) := Blk.new wc (oc ⟨(k : Int) + 1, cl', by', p', q'⟩) _
            have hb1 := hb.alloc (.cells #[.int .i64 ((k : Int) + 1), .int .i64 cl', .bool by', .int .u64 p', .int .u64 q'] 28)
            have hb8l := hb.lt
            have hoF : wc.heap.size ∉ FF := fun hm => by have := hB.new _ hm; omega
            have hwo : w.heap.size ≤ wc.heap.size := hB.c.size
            have hgl := hR.b.lt
            have hgF := hR.ne
            clear hB hR hb
            go_upto_region 17 with (fail)
            clear y2 y3 y4 y5 y6
            generalize wc.heap.size = bo at *
            generalize wc.alloc _ = W1 at *
            have hgW1 : g < W1.heap.size := hR1.b.lt
            have v0 := hbo.at (i := 0) rfl
            have v1 := hbo.at (i := 1) rfl
            have v2 := hbo.at (i := 2) rfl
            have v3 := hbo.at (i := 3) rfl
            have v4 := hbo.at (i := 4) rfl
            go_wp2_with fail
            refine (bMatch_is hB1 ⟨(k : Int) + 1, cl', by', p', q'⟩ T lft _ _ ⟨HT0.out.1, HT0.out.2, rfl, rfl⟩ HOK.out (by omega) (by omega)).mono ?_
            rw [HNT.out]
            rintro e w4 ⟨a4, d4, rfl, hN4, hB4, c4⟩
            have hR4 := hR1.far c4 (fun x hx => List.mem_cons_of_mem _ hx) (Grw.refl _ _) (fun x hx => (List.mem_cons.1 hx).elim (fun e => by have := hbo.lt; have := c4.size; omega) fun h => hB4.new x h)
            have hbo4 := hbo.chg c4 hoF
            have hb84 : Blk w4 b8 56 _ := hb1.chg c4 hb8F
            clear v0 v1 v2 v3 v4
            clear hB1 hR1 hbo hb1 c4
            have v0 := hbo4.at (i := 0) rfl
            have v1 := hbo4.at (i := 1) rfl
            have v2 := hbo4.at (i := 2) rfl
            have v3 := hbo4.at (i := 3) rfl
            have v4 := hbo4.at (i := 4) rfl
            go_wp2_with fail
            refine (rbMatch_is hR4 ⟨(k : Int) + 1, cl', by', p', q'⟩ T lft HT0.out HOK.out HALL.out (by omega) (by omega)).mono ?_
            rw [HNT.out]
            rintro e w5 ⟨a5, d5, rfl, hN5, hR5, c5⟩
            have hB5 := hB4.aside c5 hgF hlo
            have hbo5 := hbo4.chg c5 (by simp; omega)
            have hb85 := hb84.chg c5 (by simp; omega)
            have hN4' := hN4.far c5 (by simp; exact hgW1)
            clear v0 v1 v2 v3 v4
            clear hB4 hR4 hbo4 hb84 c5 hN4
            go_wp2_with fail
            refine (rSameT hN4' hN5 nT HNT.out (by omega)).mono ?_
            rintro e w6 ⟨rfl, c6⟩
            have hB6 := hB5.to c6
            have hR6 := hR5.to c6
            have hbo6 := hbo5.chg c6 (by simp)
            have hb86 := hb85.chg c6 (by simp)
            have hbo6l := hbo6.lt
            clear hB5 hR5 hbo5 hb85 hN4' hN5 c6
            have y4 := hb86.at (i := 4) rfl
            have v4 := hbo6.at (i := 4) rfl
            have f4 := hbo6.free 4
            cases rs
            · go_wp2_with fail
              go_meet
              exact ⟨rfl, rfl, rfl, rfl, rfl, FF, _, _, hB6, hR6.sub (fun x hx => List.mem_cons_of_mem _ hx), (HFR.out.mch _).mono (Nat.le_succ k), by have := HLM.out; omega⟩
            · go_upto_region 23 with (fail)
              have c7 : Chg [bo] w6 (w6.setCell ⟨bo, 4, none⟩ (.int .u64 lft)) := (Chg.refl _ _).setCell _ _ (by simp)
              have hB7 := hB6.aside c7 hoF hwo
              have hR7 := hR6.far c7 (by simp) (Grw.refl _ _) (fun x hx => by have := hR6.fr x hx; have := c7.size; omega)
              have hbo7 : Blk (w6.setCell ⟨bo, 4, none⟩ (.int .u64 lft)) bo 28 (oc ⟨(k : Int) + 1, cl', by', p', lft⟩) := hbo6.set 4 _
              clear hB6 hR6 hbo6 hb86 c7 y4 v4 f4
              generalize w6.setCell _ _ = W7 at *
              have hOk2 : (⟨(k : Int) + 1, cl', by', p', lft⟩ : Ord).Ok := ordOk _ _ _ _ _ ⟨by omega, by omega⟩ ⟨HFC.out.1.1, HFC.out.1.2⟩ ⟨HFC.out.2.1.1, HFC.out.2.1.2⟩ ⟨HLF.out.1, by have := HLF.out.2; have := HFC.out.2.2.2; omega⟩
              have HOK2 := Lib.hid hOk2
              have HFM := Lib.hid (HFR.out.mch ⟨(k : Int) + 1, cl', by', p', q'⟩)
              have HN2 := Lib.hid (HFM.out.new (i := (k : Int) + 1) (by omega))
              have hzz := HLM.out
              obtain ⟨L1, hL1⟩ : ∃ l, mL ⟨(k : Int) + 1, cl', by', p', q'⟩ L M = l := ⟨_, rfl⟩
              obtain ⟨M1, hM1⟩ : ∃ l, mM ⟨(k : Int) + 1, cl', by', p', q'⟩ L M = l := ⟨_, rfl⟩
              rw [hL1, hM1] at hzz hB7 hR7 HFM HN2
              clear hOk2 hL1 hM1 HLM
              have v0 := hbo7.at (i := 0) rfl
              have v1 := hbo7.at (i := 1) rfl
              have v2 := hbo7.at (i := 2) rfl
              have v3 := hbo7.at (i := 3) rfl
              have v4 := hbo7.at (i := 4) rfl
              go_wp2_with fail
              refine (bRest_is hB7 ⟨(k : Int) + 1, cl', by', p', lft⟩ _ _ rfl HOK2.out HN2.out.1 HN2.out.2 (by omega) (by omega)).mono ?_
              rintro e w8 ⟨rfl, F8, hB8, c8, g8⟩
              have hR8 := (hR7.sub (fun x hx => List.mem_cons_of_mem bo hx)).far c8 (fun _ h => h) g8 hB8.new
              have hbo8 := hbo7.chg c8 hoF
              have hg8F := hR8.ne
              clear v0 v1 v2 v3 v4
              clear hB7 hR7 hbo7 c8 g8
              have v0 := hbo8.at (i := 0) rfl
              have v1 := hbo8.at (i := 1) rfl
              have v2 := hbo8.at (i := 2) rfl
              have v3 := hbo8.at (i := 3) rfl
              have v4 := hbo8.at (i := 4) rfl
              go_wp2_with fail
              refine (rbRest hR8 ⟨(k : Int) + 1, cl', by', p', lft⟩ HOK2.out.qty (by omega) (by omega)).mono ?_
              rintro e w9 ⟨rfl, hR9, c9⟩
              have hB9 := hB8.aside c9 hg8F hlo
              clear hB8 hR8 hbo8 c9
              clear v0 v1 v2 v3 v4
              go_wp2_with fail
              go_meet
              exact ⟨rfl, rfl, rfl, rfl, rfl, F8, _, _, hB9, hR9, HFM.out.rest rfl, by rw [rest_len]; split <;> omega⟩
        case rest =>
          clear hB hR hb HFR hlen hL50 hM50 hb8F HB8F hfc hfp hfq
          obtain ⟨rfl, rfl, rfl, rfl, rfl, F', L', M', hB, hR, HFR, hlen⟩ := hcut
          obtain ⟨x, ok, hx⟩ : ∃ x ok, pickB (f6 : Int) L' M' = (x, ok) := ⟨_, _, rfl⟩
          have HX := Lib.hid hx
          clear hx
          go_wp2_with fail
          refine (bFind_is hB.bk (f6 : Int) x ok HX.out).mono ?_
          rintro e w3 ⟨rfl, c3⟩
          have hB4 := (hB.to c3).to ((Chg.refl [] w3).alloc (.cells #[.int .i64 x.id, .int .i64 x.client, .bool x.buy, .int .u64 x.price, .int .u64 x.qty] 28))
          have hR4 := (hR.to c3).to ((Chg.refl [] w3).alloc (.cells #[.int .i64 x.id, .int .i64 x.client, .bool x.buy, .int .u64 x.price, .int .u64 x.qty] 28))
          have hb10 : Blk (w3.alloc (.cells #[.int .i64 x.id, .int .i64 x.client, .bool x.buy, .int .u64 x.price, .int .u64 x.qty] 28)) w3.heap.size 28 (oc x) := Blk.new w3 (oc x) _
          clear hB hR c3
          go_wp2_with fail
          generalize w3.heap.size = b10 at *
          generalize w3.alloc _ = W4 at *
          refine (rbFind_is hR4 HFR.out.two.1 HFR.out.two.2 (f6 : Int) x ok HX.out (by omega) (by omega)).mono ?_
          rintro e w5 ⟨rfl, c5⟩
          have hB6 := (hB4.to c5).to ((Chg.refl [] w5).alloc (.cells #[.int .i64 x.id, .int .i64 x.client, .bool x.buy, .int .u64 x.price, .int .u64 x.qty] 28))
          have hR6 := (hR4.to c5).to ((Chg.refl [] w5).alloc (.cells #[.int .i64 x.id, .int .i64 x.client, .bool x.buy, .int .u64 x.price, .int .u64 x.qty] 28))
          have hb6 := (hb10.chg c5 (by simp)).alloc (.cells #[.int .i64 x.id, .int .i64 x.client, .bool x.buy, .int .u64 x.price, .int .u64 x.qty] 28)
          have hb12 : Blk (w5.alloc (.cells #[.int .i64 x.id, .int .i64 x.client, .bool x.buy, .int .u64 x.price, .int .u64 x.qty] 28)) w5.heap.size 28 (oc x) := Blk.new w5 (oc x) _
          clear hB4 hR4 hb10 c5
          go_upto_region 27 with (fail)
          generalize w5.heap.size = b12 at *
          generalize w5.alloc _ = W6 at *
          obtain ⟨aL, cL, aM, cM, k1, HOL, k3, HOM⟩ := hR6.rows
          obtain ⟨nL, hnL⟩ : ∃ m, L'.length = m := ⟨_, rfl⟩
          obtain ⟨nM, hnM⟩ : ∃ m, M'.length = m := ⟨_, rfl⟩
          have HSL : Hid (∀ {w : World} (a1 a2 : Option Addr) (c1 c2 : Nat), Osq w a1 L' → Osq w a2 L' → Calls Try.prog 26 #[.slice a1 nL c1, .slice a2 nL c2] w fun e w' => e = .returned (.bool true) ∧ Chg [] w w') := by
            intro w a1 a2 c1 c2 h1 h2; rw [← hnL]; exact rSame h1 h2 (by omega)
          have HSM : Hid (∀ {w : World} (a1 a2 : Option Addr) (c1 c2 : Nat), Osq w a1 M' → Osq w a2 M' → Calls Try.prog 26 #[.slice a1 nM c1, .slice a2 nM c2] w fun e w' => e = .returned (.bool true) ∧ Chg [] w w') := by
            intro w a1 a2 c1 c2 h1 h2; rw [← hnM]; exact rSame h1 h2 (by omega)
          rw [hnL] at k1
          rw [hnM] at k3
          refine plays_last (by intro c a d v w h; cases d <;> exact h) (Lib.hid hB6) (Lib.hid hnL) (Lib.hid hnM) (by omega) (by omega) (Lib.hid HOL) (Lib.hid HOM) HSL HSM (hb6.at (i := 0) rfl) (hb6.at (i := 1) rfl) (hb6.at (i := 2) rfl) (hb6.at (i := 3) rfl) (hb6.at (i := 4) rfl) (hb12.at (i := 0) rfl) (hb12.at (i := 1) rfl) (hb12.at (i := 2) rfl) (hb12.at (i := 3) rfl) (hb12.at (i := 4) rfl) k1 k3 ?_
          intro w9 c9
          intros
          have hB9 := hB6.to c9
          have hR9 := hR6.to c9
          clear hB6 hR6 hb6 hb12 HSL HSM HOL HOM k1 k3 hnL hnM c9
          go_wp2_with fail
          go_roundw
          case rel => exact ⟨k + 1, F', L', M', by omega, by omega, by go_num, hB9, hR9, HFR, hlen⟩
          case measure => simp [intOf]; omega
    · have hlt3 : Hid (¬ (k < n1 ∧ k < 50)) := hlt2
      clear hlt2
      rcases Nat.lt_or_ge k n1 with h | h
      · have h6 : ¬ k < 50 := fun h7 => hlt3.out ⟨h, h7⟩
        have d50 : decide ((k : Int) < 50) = false := by simp; omega
        go_wp2_with fail
        refine (awake9 _).mono ?_
        rintro e w2 ⟨rfl, c2⟩
        go_wp2_with fail
        go_ret
        exact ⟨rfl, (hB0.c.trans c2).below⟩
      · go_wp2_with fail
        refine (awake9 _).mono ?_
        rintro e w2 ⟨rfl, c2⟩
        go_wp2_with fail
        go_ret
        exact ⟨rfl, (hB0.c.trans c2).below⟩
end Go.Proofs.Ytofcphfgpnobnaa
