
import Derived.Test.YteabcpmpcbjicaaGreatLedI
import Derived.Deep.DrawnRows
import Derived.Deep.RegionHeld3
namespace Go.Proofs.YteabcpmpcbjicaaGreat
set_option linter.unusedVariables false
open Go Go.Proofs Go.RowKit
attribute [local go_sem ↓] Go.wp_at_zero Go.wp_at_succ

set_option maxRecDepth 1000000 in
set_option maxHeartbeats 8000000 in
theorem done_reg1 {Q : Exit → Act → World → Prop} {u1 u2 u5 u6 u7 u8 u9 u10 u11 u12 u13 u14 u15 u16 u17 u18 u19 u20 u21 u22 u23 u24 u25 u26 u27 u28 u29 u30 u31 u32 u33 u34 u35 u36 u37 u38 u39 u40 u41 u42 u43 u44 u45 u46 u47 u48 u49 u50 u51 u52 u53 u54 u55 u56 u57 u58 : Value} (hP : ∀ c a d v w, Q (.panic c) (Act.put a d v) w → Q (.panic c) a w) {l ge g1 nT : Nat} {c : Int} {t : Txx} {r : Rcp} {W : World} {P : Option Addr → Nat → World → Prop} (HM : Calls Tryz.prog 163 #[.pointer (some ⟨l, 0, none⟩), .int .i64 c, .agg #[.int .i64 1, .int .i64 t.asset, .int .i64 t.dst, .bool t.buy, .int .u64 t.price, .int .u64 t.qty, .int .i64 t.id]] W.drew fun e w' => ∃ a d, e = .returned (rcv r a nT d) ∧ P a d w') (HS : Hid (∀ a d w', P a d w' → w'.cell? ⟨ge, 0, none⟩ = some (.int .i64 c) ∧ w'.cell? ⟨ge, 4, none⟩ = some (.int .i64 1) ∧ w'.cell? ⟨ge, 5, none⟩ = some (.int .i64 t.asset) ∧ w'.cell? ⟨ge, 6, none⟩ = some (.int .i64 t.dst) ∧ w'.cell? ⟨ge, 7, none⟩ = some (.bool t.buy) ∧ w'.cell? ⟨ge, 8, none⟩ = some (.int .u64 t.price) ∧ w'.cell? ⟨ge, 9, none⟩ = some (.int .u64 t.qty) ∧ w'.cell? ⟨ge, 10, none⟩ = some (.int .i64 t.id))) (HS2 : Hid (∀ a d w', P a d w' → (stoR w' g1 r.code r.paid r.id a nT d).cell? ⟨ge, 0, none⟩ = some (.int .i64 c) ∧ (stoR w' g1 r.code r.paid r.id a nT d).cell? ⟨ge, 4, none⟩ = some (.int .i64 1) ∧ (stoR w' g1 r.code r.paid r.id a nT d).cell? ⟨ge, 5, none⟩ = some (.int .i64 t.asset) ∧ (stoR w' g1 r.code r.paid r.id a nT d).cell? ⟨ge, 6, none⟩ = some (.int .i64 t.dst) ∧ (stoR w' g1 r.code r.paid r.id a nT d).cell? ⟨ge, 7, none⟩ = some (.bool t.buy) ∧ (stoR w' g1 r.code r.paid r.id a nT d).cell? ⟨ge, 8, none⟩ = some (.int .u64 t.price) ∧ (stoR w' g1 r.code r.paid r.id a nT d).cell? ⟨ge, 9, none⟩ = some (.int .u64 t.qty) ∧ (stoR w' g1 r.code r.paid r.id a nT d).cell? ⟨ge, 10, none⟩ = some (.int .i64 t.id))) (HFZ : Hid (∀ a d w', P a d w' → w'.cell? ⟨g1, 0, none⟩ = some (.int .i64 0) ∧ w'.cell? ⟨g1, 1, none⟩ = some (.int .u64 0) ∧ w'.cell? ⟨g1, 2, none⟩ = some (.int .i64 0) ∧ w'.cell? ⟨g1, 3, none⟩ = some (.slice none 0 0) ∧ w'.frozen? ⟨g1, 0, none⟩ = false ∧ w'.frozen? ⟨g1, 1, none⟩ = false ∧ w'.frozen? ⟨g1, 2, none⟩ = false ∧ w'.frozen? ⟨g1, 3, none⟩ = false)) (y0 : W.cell? ⟨ge, 0, none⟩ = some (.int .i64 c)) (y4 : W.cell? ⟨ge, 4, none⟩ = some (.int .i64 1)) (y5 : W.cell? ⟨ge, 5, none⟩ = some (.int .i64 t.asset)) (y6 : W.cell? ⟨ge, 6, none⟩ = some (.int .i64 t.dst)) (y7 : W.cell? ⟨ge, 7, none⟩ = some (.bool t.buy)) (y8 : W.cell? ⟨ge, 8, none⟩ = some (.int .u64 t.price)) (y9 : W.cell? ⟨ge, 9, none⟩ = some (.int .u64 t.qty)) (y10 : W.cell? ⟨ge, 10, none⟩ = some (.int .i64 t.id))
    (hQ : ∀ (a3 : Option Addr) (d3 : Nat) (w3 : World) (_ : P a3 d3 w3) (x49 x50 x51 x52 x53 x54 x55 x56 x57 x58 : Value), Q .normal ⟨#[.pointer (some ⟨l, 0, none⟩), u1, u2, .pointer (some ⟨ge, 0, none⟩), .pointer (some ⟨g1, 0, none⟩), u5, u6, u7, u8, u9, u10, u11, u12, u13, u14, u15, u16, u17, u18, u19, u20, u21, u22, u23, u24, u25, u26, u27, u28, u29, u30, u31, u32, u33, u34, u35, u36, u37, u38, u39, u40, u41, u42, u43, u44, u45, u46, u47, u48, x49, x50, x51, x52, x53, x54, x55, x56, x57, x58], []⟩ (stoR w3 g1 r.code r.paid r.id a3 nT d3)) :
    Code.wp Tryz.prog (regionOf Tryz.f75 8) Q ⟨#[.pointer (some ⟨l, 0, none⟩), u1, u2, .pointer (some ⟨ge, 0, none⟩), .pointer (some ⟨g1, 0, none⟩), u5, u6, u7, u8, u9, u10, u11, u12, u13, u14, u15, u16, u17, u18, u19, u20, u21, u22, u23, u24, u25, u26, u27, u28, u29, u30, u31, u32, u33, u34, u35, u36, u37, u38, u39, u40, u41, u42, u43, u44, u45, u46, u47, u48, u49, u50, u51, u52, u53, u54, u55, u56, u57, u58], []⟩ W := by
  conv => arg 2; whnf
  refine wp_region_held_drew (S := (fun w' => w'.cell? ⟨ge, 0, none⟩ = some (.int .i64 c) ∧ w'.cell? ⟨ge, 4, none⟩ = some (.int .i64 1) ∧ w'.cell? ⟨ge, 5, none⟩ = some (.int .i64 t.asset) ∧ w'.cell? ⟨ge, 6, none⟩ = some (.int .i64 t.dst) ∧ w'.cell? ⟨ge, 7, none⟩ = some (.bool t.buy) ∧ w'.cell? ⟨ge, 8, none⟩ = some (.int .u64 t.price) ∧ w'.cell? ⟨ge, 9, none⟩ = some (.int .u64 t.qty) ∧ w'.cell? ⟨ge, 10, none⟩ = some (.int .i64 t.id))) (by kernel_rfl) ⟨y0, y4, y5, y6, y7, y8, y9, y10⟩ (fun _ => ?_)
  refine wpAnyH_take (i := 0) (v := ?_) rfl (by kernel_rfl) (by kernel_rfl) (by kernel_rfl) (fun c a w h => hP c a _ _ w h) (Or.inl ⟨by rfl, ?_⟩) ⟨y0, y4, y5, y6, y7, y8, y9, y10⟩ ?_
  rotate_left
  · (intro w hSw; (try dsimp only at hSw); go_simp; (try (with_reducible rfl)))
  change wpAnyH _ _ _ _ _ _ _ (Act.put _ (some 49) _) _
  simp only [Act.put, List.setIfInBounds_toArray, List.set_cons_succ, List.set_cons_zero]
  refine wpAnyH_take (i := 1) (v := ?_) rfl (by kernel_rfl) (by kernel_rfl) (by kernel_rfl) (fun c a w h => hP c a _ _ w h) (Or.inl ⟨by rfl, ?_⟩) ⟨y0, y4, y5, y6, y7, y8, y9, y10⟩ ?_
  rotate_left
  · (intro w hSw; (try dsimp only at hSw); go_simp; (try (with_reducible rfl)))
  change wpAnyH _ _ _ _ _ _ _ (Act.put _ (some 50) _) _
  simp only [Act.put, List.setIfInBounds_toArray, List.set_cons_succ, List.set_cons_zero]
  refine wpAnyH_take (i := 2) (v := ?_) rfl (by kernel_rfl) (by kernel_rfl) (by kernel_rfl) (fun c a w h => hP c a _ _ w h) (Or.inl ⟨by rfl, ?_⟩) ⟨y0, y4, y5, y6, y7, y8, y9, y10⟩ ?_
  rotate_left
  · (intro w hSw; (try dsimp only at hSw); go_simp; (try (with_reducible rfl)))
  change wpAnyH _ _ _ _ _ _ _ (Act.put _ (some 51) _) _
  simp only [Act.put, List.setIfInBounds_toArray, List.set_cons_succ, List.set_cons_zero]
  refine wpAnyH_take (i := 4) (v := ?_) rfl (by kernel_rfl) (by kernel_rfl) (by kernel_rfl) (fun c a w h => hP c a _ _ w h) (Or.inl ⟨by rfl, ?_⟩) ⟨y0, y4, y5, y6, y7, y8, y9, y10⟩ ?_
  rotate_left
  · (intro w hSw; (try dsimp only at hSw); go_simp; (try (with_reducible rfl)))
  change wpAnyH _ _ _ _ _ _ _ (Act.put _ (some 53) _) _
  simp only [Act.put, List.setIfInBounds_toArray, List.set_cons_succ, List.set_cons_zero]
  refine wpAnyH_take (i := 5) (v := ?_) rfl (by kernel_rfl) (by kernel_rfl) (by kernel_rfl) (fun c a w h => hP c a _ _ w h) (Or.inl ⟨by rfl, ?_⟩) ⟨y0, y4, y5, y6, y7, y8, y9, y10⟩ ?_
  rotate_left
  · (intro w hSw; (try dsimp only at hSw); go_simp; (try (with_reducible rfl)))
  change wpAnyH _ _ _ _ _ _ _ (Act.put _ (some 54) _) _
  simp only [Act.put, List.setIfInBounds_toArray, List.set_cons_succ, List.set_cons_zero]
  refine wpAnyH_take (i := 6) (v := ?_) rfl (by kernel_rfl) (by kernel_rfl) (by kernel_rfl) (fun c a w h => hP c a _ _ w h) (Or.inl ⟨by rfl, ?_⟩) ⟨y0, y4, y5, y6, y7, y8, y9, y10⟩ ?_
  rotate_left
  · (intro w hSw; (try dsimp only at hSw); go_simp; (try (with_reducible rfl)))
  change wpAnyH _ _ _ _ _ _ _ (Act.put _ (some 55) _) _
  simp only [Act.put, List.setIfInBounds_toArray, List.set_cons_succ, List.set_cons_zero]
  refine wpAnyH_take (i := 7) (v := ?_) rfl (by kernel_rfl) (by kernel_rfl) (by kernel_rfl) (fun c a w h => hP c a _ _ w h) (Or.inl ⟨by rfl, ?_⟩) ⟨y0, y4, y5, y6, y7, y8, y9, y10⟩ ?_
  rotate_left
  · (intro w hSw; (try dsimp only at hSw); go_simp; (try (with_reducible rfl)))
  change wpAnyH _ _ _ _ _ _ _ (Act.put _ (some 56) _) _
  simp only [Act.put, List.setIfInBounds_toArray, List.set_cons_succ, List.set_cons_zero]
  refine wpAnyH_take (i := 8) (v := ?_) rfl (by kernel_rfl) (by kernel_rfl) (by kernel_rfl) (fun c a w h => hP c a _ _ w h) (Or.inl ⟨by rfl, ?_⟩) ⟨y0, y4, y5, y6, y7, y8, y9, y10⟩ ?_
  rotate_left
  · (intro w hSw; (try dsimp only at hSw); go_simp; (try (with_reducible rfl)))
  change wpAnyH _ _ _ _ _ _ _ (Act.put _ (some 57) _) _
  simp only [Act.put, List.setIfInBounds_toArray, List.set_cons_succ, List.set_cons_zero]
  refine wpAnyH_ready (rs := [3]) (by kernel_rfl) (by simp) (AllReadyH.cons rfl (fun K hK => ?_) AllReadyH.nil)
  go_simp
  refine (way_any 1 _).mono ?_
  rintro e w3 ⟨rfl, rfl⟩
  go_wp2_with fail
  refine hK.out _ _ ⟨y0, y4, y5, y6, y7, y8, y9, y10⟩ (fun hHeld => ?_)
  clear hK K
  refine wpAnyH_ready (rs := [9]) (by kernel_rfl) (by simp) (AllReadyH.cons rfl (fun K hK => ?_) AllReadyH.nil)
  go_simp
  refine HM.mono ?_
  rintro e w3 ⟨a3, d3, rfl, hP3⟩
  have hz3 := HS.out a3 d3 w3 hP3
  obtain ⟨r0, r1, r2, r3, f0, f1, f2, f3⟩ := HFZ.out a3 d3 w3 hP3
  go_wp2_with fail
  refine hK.out _ _ hz3 (fun hHeld => ?_)
  clear hK K
  refine wpAnyH_ready (rs := [10]) (by kernel_rfl) (by simp) (AllReadyH.cons rfl (fun K hK => ?_) AllReadyH.nil)
  go_simp
  refine hK.out _ _ (HS2.out a3 d3 w3 hP3) (fun hHeld => ?_)
  clear hK K
  refine wpAnyH_done (by kernel_rfl) ?_ _
  exact hQ _ _ _ hP3 _ _ _ _ _ _ _ _ _ _
set_option maxRecDepth 1000000 in
set_option maxHeartbeats 8000000 in
theorem done_reg2 {Q : Exit → Act → World → Prop} {u1 u2 u5 u6 u7 u8 u9 u10 u11 u12 u13 u14 u15 u16 u17 u18 u19 u20 u21 u22 u23 u24 u25 u26 u27 u28 u29 u30 u31 u32 u33 u34 u35 u36 u37 u38 u39 u40 u41 u42 u43 u44 u45 u46 u47 u48 u49 u50 u51 u52 u53 u54 u55 u56 u57 u58 : Value} (hP : ∀ c a d v w, Q (.panic c) (Act.put a d v) w → Q (.panic c) a w) {l ge g1 nT : Nat} {c : Int} {t : Txx} {r : Rcp} {W : World} {P : Option Addr → Nat → World → Prop} (HM : Calls Tryz.prog 164 #[.pointer (some ⟨l, 0, none⟩), .int .i64 c, .agg #[.int .i64 2, .int .i64 t.asset, .int .i64 t.dst, .bool t.buy, .int .u64 t.price, .int .u64 t.qty, .int .i64 t.id]] W.drew fun e w' => ∃ a d, e = .returned (rcv r a nT d) ∧ P a d w') (HS : Hid (∀ a d w', P a d w' → w'.cell? ⟨ge, 0, none⟩ = some (.int .i64 c) ∧ w'.cell? ⟨ge, 4, none⟩ = some (.int .i64 2) ∧ w'.cell? ⟨ge, 5, none⟩ = some (.int .i64 t.asset) ∧ w'.cell? ⟨ge, 6, none⟩ = some (.int .i64 t.dst) ∧ w'.cell? ⟨ge, 7, none⟩ = some (.bool t.buy) ∧ w'.cell? ⟨ge, 8, none⟩ = some (.int .u64 t.price) ∧ w'.cell? ⟨ge, 9, none⟩ = some (.int .u64 t.qty) ∧ w'.cell? ⟨ge, 10, none⟩ = some (.int .i64 t.id))) (HS2 : Hid (∀ a d w', P a d w' → (stoR w' g1 r.code r.paid r.id a nT d).cell? ⟨ge, 0, none⟩ = some (.int .i64 c) ∧ (stoR w' g1 r.code r.paid r.id a nT d).cell? ⟨ge, 4, none⟩ = some (.int .i64 2) ∧ (stoR w' g1 r.code r.paid r.id a nT d).cell? ⟨ge, 5, none⟩ = some (.int .i64 t.asset) ∧ (stoR w' g1 r.code r.paid r.id a nT d).cell? ⟨ge, 6, none⟩ = some (.int .i64 t.dst) ∧ (stoR w' g1 r.code r.paid r.id a nT d).cell? ⟨ge, 7, none⟩ = some (.bool t.buy) ∧ (stoR w' g1 r.code r.paid r.id a nT d).cell? ⟨ge, 8, none⟩ = some (.int .u64 t.price) ∧ (stoR w' g1 r.code r.paid r.id a nT d).cell? ⟨ge, 9, none⟩ = some (.int .u64 t.qty) ∧ (stoR w' g1 r.code r.paid r.id a nT d).cell? ⟨ge, 10, none⟩ = some (.int .i64 t.id))) (HFZ : Hid (∀ a d w', P a d w' → w'.cell? ⟨g1, 0, none⟩ = some (.int .i64 0) ∧ w'.cell? ⟨g1, 1, none⟩ = some (.int .u64 0) ∧ w'.cell? ⟨g1, 2, none⟩ = some (.int .i64 0) ∧ w'.cell? ⟨g1, 3, none⟩ = some (.slice none 0 0) ∧ w'.frozen? ⟨g1, 0, none⟩ = false ∧ w'.frozen? ⟨g1, 1, none⟩ = false ∧ w'.frozen? ⟨g1, 2, none⟩ = false ∧ w'.frozen? ⟨g1, 3, none⟩ = false)) (y0 : W.cell? ⟨ge, 0, none⟩ = some (.int .i64 c)) (y4 : W.cell? ⟨ge, 4, none⟩ = some (.int .i64 2)) (y5 : W.cell? ⟨ge, 5, none⟩ = some (.int .i64 t.asset)) (y6 : W.cell? ⟨ge, 6, none⟩ = some (.int .i64 t.dst)) (y7 : W.cell? ⟨ge, 7, none⟩ = some (.bool t.buy)) (y8 : W.cell? ⟨ge, 8, none⟩ = some (.int .u64 t.price)) (y9 : W.cell? ⟨ge, 9, none⟩ = some (.int .u64 t.qty)) (y10 : W.cell? ⟨ge, 10, none⟩ = some (.int .i64 t.id))
    (hQ : ∀ (a3 : Option Addr) (d3 : Nat) (w3 : World) (_ : P a3 d3 w3) (x49 x50 x51 x52 x53 x54 x55 x56 x57 x58 : Value), Q .normal ⟨#[.pointer (some ⟨l, 0, none⟩), u1, u2, .pointer (some ⟨ge, 0, none⟩), .pointer (some ⟨g1, 0, none⟩), u5, u6, u7, u8, u9, u10, u11, u12, u13, u14, u15, u16, u17, u18, u19, u20, u21, u22, u23, u24, u25, u26, u27, u28, u29, u30, u31, u32, u33, u34, u35, u36, u37, u38, u39, u40, u41, u42, u43, u44, u45, u46, u47, u48, x49, x50, x51, x52, x53, x54, x55, x56, x57, x58], []⟩ (stoR w3 g1 r.code r.paid r.id a3 nT d3)) :
    Code.wp Tryz.prog (regionOf Tryz.f75 8) Q ⟨#[.pointer (some ⟨l, 0, none⟩), u1, u2, .pointer (some ⟨ge, 0, none⟩), .pointer (some ⟨g1, 0, none⟩), u5, u6, u7, u8, u9, u10, u11, u12, u13, u14, u15, u16, u17, u18, u19, u20, u21, u22, u23, u24, u25, u26, u27, u28, u29, u30, u31, u32, u33, u34, u35, u36, u37, u38, u39, u40, u41, u42, u43, u44, u45, u46, u47, u48, u49, u50, u51, u52, u53, u54, u55, u56, u57, u58], []⟩ W := by
  conv => arg 2; whnf
  refine wp_region_held_drew (S := (fun w' => w'.cell? ⟨ge, 0, none⟩ = some (.int .i64 c) ∧ w'.cell? ⟨ge, 4, none⟩ = some (.int .i64 2) ∧ w'.cell? ⟨ge, 5, none⟩ = some (.int .i64 t.asset) ∧ w'.cell? ⟨ge, 6, none⟩ = some (.int .i64 t.dst) ∧ w'.cell? ⟨ge, 7, none⟩ = some (.bool t.buy) ∧ w'.cell? ⟨ge, 8, none⟩ = some (.int .u64 t.price) ∧ w'.cell? ⟨ge, 9, none⟩ = some (.int .u64 t.qty) ∧ w'.cell? ⟨ge, 10, none⟩ = some (.int .i64 t.id))) (by kernel_rfl) ⟨y0, y4, y5, y6, y7, y8, y9, y10⟩ (fun _ => ?_)
  refine wpAnyH_take (i := 0) (v := ?_) rfl (by kernel_rfl) (by kernel_rfl) (by kernel_rfl) (fun c a w h => hP c a _ _ w h) (Or.inl ⟨by rfl, ?_⟩) ⟨y0, y4, y5, y6, y7, y8, y9, y10⟩ ?_
  rotate_left
  · (intro w hSw; (try dsimp only at hSw); go_simp; (try (with_reducible rfl)))
  change wpAnyH _ _ _ _ _ _ _ (Act.put _ (some 49) _) _
  simp only [Act.put, List.setIfInBounds_toArray, List.set_cons_succ, List.set_cons_zero]
  refine wpAnyH_take (i := 1) (v := ?_) rfl (by kernel_rfl) (by kernel_rfl) (by kernel_rfl) (fun c a w h => hP c a _ _ w h) (Or.inl ⟨by rfl, ?_⟩) ⟨y0, y4, y5, y6, y7, y8, y9, y10⟩ ?_
  rotate_left
  · (intro w hSw; (try dsimp only at hSw); go_simp; (try (with_reducible rfl)))
  change wpAnyH _ _ _ _ _ _ _ (Act.put _ (some 50) _) _
  simp only [Act.put, List.setIfInBounds_toArray, List.set_cons_succ, List.set_cons_zero]
  refine wpAnyH_take (i := 2) (v := ?_) rfl (by kernel_rfl) (by kernel_rfl) (by kernel_rfl) (fun c a w h => hP c a _ _ w h) (Or.inl ⟨by rfl, ?_⟩) ⟨y0, y4, y5, y6, y7, y8, y9, y10⟩ ?_
  rotate_left
  · (intro w hSw; (try dsimp only at hSw); go_simp; (try (with_reducible rfl)))
  change wpAnyH _ _ _ _ _ _ _ (Act.put _ (some 51) _) _
  simp only [Act.put, List.setIfInBounds_toArray, List.set_cons_succ, List.set_cons_zero]
  refine wpAnyH_take (i := 4) (v := ?_) rfl (by kernel_rfl) (by kernel_rfl) (by kernel_rfl) (fun c a w h => hP c a _ _ w h) (Or.inl ⟨by rfl, ?_⟩) ⟨y0, y4, y5, y6, y7, y8, y9, y10⟩ ?_
  rotate_left
  · (intro w hSw; (try dsimp only at hSw); go_simp; (try (with_reducible rfl)))
  change wpAnyH _ _ _ _ _ _ _ (Act.put _ (some 53) _) _
  simp only [Act.put, List.setIfInBounds_toArray, List.set_cons_succ, List.set_cons_zero]
  refine wpAnyH_take (i := 5) (v := ?_) rfl (by kernel_rfl) (by kernel_rfl) (by kernel_rfl) (fun c a w h => hP c a _ _ w h) (Or.inl ⟨by rfl, ?_⟩) ⟨y0, y4, y5, y6, y7, y8, y9, y10⟩ ?_
  rotate_left
  · (intro w hSw; (try dsimp only at hSw); go_simp; (try (with_reducible rfl)))
  change wpAnyH _ _ _ _ _ _ _ (Act.put _ (some 54) _) _
  simp only [Act.put, List.setIfInBounds_toArray, List.set_cons_succ, List.set_cons_zero]
  refine wpAnyH_take (i := 6) (v := ?_) rfl (by kernel_rfl) (by kernel_rfl) (by kernel_rfl) (fun c a w h => hP c a _ _ w h) (Or.inl ⟨by rfl, ?_⟩) ⟨y0, y4, y5, y6, y7, y8, y9, y10⟩ ?_
  rotate_left
  · (intro w hSw; (try dsimp only at hSw); go_simp; (try (with_reducible rfl)))
  change wpAnyH _ _ _ _ _ _ _ (Act.put _ (some 55) _) _
  simp only [Act.put, List.setIfInBounds_toArray, List.set_cons_succ, List.set_cons_zero]
  refine wpAnyH_take (i := 7) (v := ?_) rfl (by kernel_rfl) (by kernel_rfl) (by kernel_rfl) (fun c a w h => hP c a _ _ w h) (Or.inl ⟨by rfl, ?_⟩) ⟨y0, y4, y5, y6, y7, y8, y9, y10⟩ ?_
  rotate_left
  · (intro w hSw; (try dsimp only at hSw); go_simp; (try (with_reducible rfl)))
  change wpAnyH _ _ _ _ _ _ _ (Act.put _ (some 56) _) _
  simp only [Act.put, List.setIfInBounds_toArray, List.set_cons_succ, List.set_cons_zero]
  refine wpAnyH_take (i := 8) (v := ?_) rfl (by kernel_rfl) (by kernel_rfl) (by kernel_rfl) (fun c a w h => hP c a _ _ w h) (Or.inl ⟨by rfl, ?_⟩) ⟨y0, y4, y5, y6, y7, y8, y9, y10⟩ ?_
  rotate_left
  · (intro w hSw; (try dsimp only at hSw); go_simp; (try (with_reducible rfl)))
  change wpAnyH _ _ _ _ _ _ _ (Act.put _ (some 57) _) _
  simp only [Act.put, List.setIfInBounds_toArray, List.set_cons_succ, List.set_cons_zero]
  refine wpAnyH_ready (rs := [3]) (by kernel_rfl) (by simp) (AllReadyH.cons rfl (fun K hK => ?_) AllReadyH.nil)
  go_simp
  refine (way_any 2 _).mono ?_
  rintro e w3 ⟨rfl, rfl⟩
  go_wp2_with fail
  refine hK.out _ _ ⟨y0, y4, y5, y6, y7, y8, y9, y10⟩ (fun hHeld => ?_)
  clear hK K
  refine wpAnyH_ready (rs := [9]) (by kernel_rfl) (by simp) (AllReadyH.cons rfl (fun K hK => ?_) AllReadyH.nil)
  go_simp
  refine HM.mono ?_
  rintro e w3 ⟨a3, d3, rfl, hP3⟩
  have hz3 := HS.out a3 d3 w3 hP3
  obtain ⟨r0, r1, r2, r3, f0, f1, f2, f3⟩ := HFZ.out a3 d3 w3 hP3
  go_wp2_with fail
  refine hK.out _ _ hz3 (fun hHeld => ?_)
  clear hK K
  refine wpAnyH_ready (rs := [10]) (by kernel_rfl) (by simp) (AllReadyH.cons rfl (fun K hK => ?_) AllReadyH.nil)
  go_simp
  refine hK.out _ _ (HS2.out a3 d3 w3 hP3) (fun hHeld => ?_)
  clear hK K
  refine wpAnyH_done (by kernel_rfl) ?_ _
  exact hQ _ _ _ hP3 _ _ _ _ _ _ _ _ _ _
set_option maxRecDepth 1000000 in
set_option maxHeartbeats 8000000 in
theorem done_reg3 {Q : Exit → Act → World → Prop} {u1 u2 u5 u6 u7 u8 u9 u10 u11 u12 u13 u14 u15 u16 u17 u18 u19 u20 u21 u22 u23 u24 u25 u26 u27 u28 u29 u30 u31 u32 u33 u34 u35 u36 u37 u38 u39 u40 u41 u42 u43 u44 u45 u46 u47 u48 u49 u50 u51 u52 u53 u54 u55 u56 u57 u58 : Value} (hP : ∀ c a d v w, Q (.panic c) (Act.put a d v) w → Q (.panic c) a w) {l ge g1 nT : Nat} {c : Int} {t : Txx} {r : Rcp} {W : World} {P : Option Addr → Nat → World → Prop} (HM : Calls Tryz.prog 165 #[.pointer (some ⟨l, 0, none⟩), .int .i64 c, .agg #[.int .i64 3, .int .i64 t.asset, .int .i64 t.dst, .bool t.buy, .int .u64 t.price, .int .u64 t.qty, .int .i64 t.id]] W.drew fun e w' => ∃ a d, e = .returned (rcv r a nT d) ∧ P a d w') (HS : Hid (∀ a d w', P a d w' → w'.cell? ⟨ge, 0, none⟩ = some (.int .i64 c) ∧ w'.cell? ⟨ge, 4, none⟩ = some (.int .i64 3) ∧ w'.cell? ⟨ge, 5, none⟩ = some (.int .i64 t.asset) ∧ w'.cell? ⟨ge, 6, none⟩ = some (.int .i64 t.dst) ∧ w'.cell? ⟨ge, 7, none⟩ = some (.bool t.buy) ∧ w'.cell? ⟨ge, 8, none⟩ = some (.int .u64 t.price) ∧ w'.cell? ⟨ge, 9, none⟩ = some (.int .u64 t.qty) ∧ w'.cell? ⟨ge, 10, none⟩ = some (.int .i64 t.id))) (HS2 : Hid (∀ a d w', P a d w' → (stoR w' g1 r.code r.paid r.id a nT d).cell? ⟨ge, 0, none⟩ = some (.int .i64 c) ∧ (stoR w' g1 r.code r.paid r.id a nT d).cell? ⟨ge, 4, none⟩ = some (.int .i64 3) ∧ (stoR w' g1 r.code r.paid r.id a nT d).cell? ⟨ge, 5, none⟩ = some (.int .i64 t.asset) ∧ (stoR w' g1 r.code r.paid r.id a nT d).cell? ⟨ge, 6, none⟩ = some (.int .i64 t.dst) ∧ (stoR w' g1 r.code r.paid r.id a nT d).cell? ⟨ge, 7, none⟩ = some (.bool t.buy) ∧ (stoR w' g1 r.code r.paid r.id a nT d).cell? ⟨ge, 8, none⟩ = some (.int .u64 t.price) ∧ (stoR w' g1 r.code r.paid r.id a nT d).cell? ⟨ge, 9, none⟩ = some (.int .u64 t.qty) ∧ (stoR w' g1 r.code r.paid r.id a nT d).cell? ⟨ge, 10, none⟩ = some (.int .i64 t.id))) (HFZ : Hid (∀ a d w', P a d w' → w'.cell? ⟨g1, 0, none⟩ = some (.int .i64 0) ∧ w'.cell? ⟨g1, 1, none⟩ = some (.int .u64 0) ∧ w'.cell? ⟨g1, 2, none⟩ = some (.int .i64 0) ∧ w'.cell? ⟨g1, 3, none⟩ = some (.slice none 0 0) ∧ w'.frozen? ⟨g1, 0, none⟩ = false ∧ w'.frozen? ⟨g1, 1, none⟩ = false ∧ w'.frozen? ⟨g1, 2, none⟩ = false ∧ w'.frozen? ⟨g1, 3, none⟩ = false)) (y0 : W.cell? ⟨ge, 0, none⟩ = some (.int .i64 c)) (y4 : W.cell? ⟨ge, 4, none⟩ = some (.int .i64 3)) (y5 : W.cell? ⟨ge, 5, none⟩ = some (.int .i64 t.asset)) (y6 : W.cell? ⟨ge, 6, none⟩ = some (.int .i64 t.dst)) (y7 : W.cell? ⟨ge, 7, none⟩ = some (.bool t.buy)) (y8 : W.cell? ⟨ge, 8, none⟩ = some (.int .u64 t.price)) (y9 : W.cell? ⟨ge, 9, none⟩ = some (.int .u64 t.qty)) (y10 : W.cell? ⟨ge, 10, none⟩ = some (.int .i64 t.id))
    (hQ : ∀ (a3 : Option Addr) (d3 : Nat) (w3 : World) (_ : P a3 d3 w3) (x49 x50 x51 x52 x53 x54 x55 x56 x57 x58 : Value), Q .normal ⟨#[.pointer (some ⟨l, 0, none⟩), u1, u2, .pointer (some ⟨ge, 0, none⟩), .pointer (some ⟨g1, 0, none⟩), u5, u6, u7, u8, u9, u10, u11, u12, u13, u14, u15, u16, u17, u18, u19, u20, u21, u22, u23, u24, u25, u26, u27, u28, u29, u30, u31, u32, u33, u34, u35, u36, u37, u38, u39, u40, u41, u42, u43, u44, u45, u46, u47, u48, x49, x50, x51, x52, x53, x54, x55, x56, x57, x58], []⟩ (stoR w3 g1 r.code r.paid r.id a3 nT d3)) :
    Code.wp Tryz.prog (regionOf Tryz.f75 8) Q ⟨#[.pointer (some ⟨l, 0, none⟩), u1, u2, .pointer (some ⟨ge, 0, none⟩), .pointer (some ⟨g1, 0, none⟩), u5, u6, u7, u8, u9, u10, u11, u12, u13, u14, u15, u16, u17, u18, u19, u20, u21, u22, u23, u24, u25, u26, u27, u28, u29, u30, u31, u32, u33, u34, u35, u36, u37, u38, u39, u40, u41, u42, u43, u44, u45, u46, u47, u48, u49, u50, u51, u52, u53, u54, u55, u56, u57, u58], []⟩ W := by
  conv => arg 2; whnf
  refine wp_region_held_drew (S := (fun w' => w'.cell? ⟨ge, 0, none⟩ = some (.int .i64 c) ∧ w'.cell? ⟨ge, 4, none⟩ = some (.int .i64 3) ∧ w'.cell? ⟨ge, 5, none⟩ = some (.int .i64 t.asset) ∧ w'.cell? ⟨ge, 6, none⟩ = some (.int .i64 t.dst) ∧ w'.cell? ⟨ge, 7, none⟩ = some (.bool t.buy) ∧ w'.cell? ⟨ge, 8, none⟩ = some (.int .u64 t.price) ∧ w'.cell? ⟨ge, 9, none⟩ = some (.int .u64 t.qty) ∧ w'.cell? ⟨ge, 10, none⟩ = some (.int .i64 t.id))) (by kernel_rfl) ⟨y0, y4, y5, y6, y7, y8, y9, y10⟩ (fun _ => ?_)
  refine wpAnyH_take (i := 0) (v := ?_) rfl (by kernel_rfl) (by kernel_rfl) (by kernel_rfl) (fun c a w h => hP c a _ _ w h) (Or.inl ⟨by rfl, ?_⟩) ⟨y0, y4, y5, y6, y7, y8, y9, y10⟩ ?_
  rotate_left
  · (intro w hSw; (try dsimp only at hSw); go_simp; (try (with_reducible rfl)))
  change wpAnyH _ _ _ _ _ _ _ (Act.put _ (some 49) _) _
  simp only [Act.put, List.setIfInBounds_toArray, List.set_cons_succ, List.set_cons_zero]
  refine wpAnyH_take (i := 1) (v := ?_) rfl (by kernel_rfl) (by kernel_rfl) (by kernel_rfl) (fun c a w h => hP c a _ _ w h) (Or.inl ⟨by rfl, ?_⟩) ⟨y0, y4, y5, y6, y7, y8, y9, y10⟩ ?_
  rotate_left
  · (intro w hSw; (try dsimp only at hSw); go_simp; (try (with_reducible rfl)))
  change wpAnyH _ _ _ _ _ _ _ (Act.put _ (some 50) _) _
  simp only [Act.put, List.setIfInBounds_toArray, List.set_cons_succ, List.set_cons_zero]
  refine wpAnyH_take (i := 2) (v := ?_) rfl (by kernel_rfl) (by kernel_rfl) (by kernel_rfl) (fun c a w h => hP c a _ _ w h) (Or.inl ⟨by rfl, ?_⟩) ⟨y0, y4, y5, y6, y7, y8, y9, y10⟩ ?_
  rotate_left
  · (intro w hSw; (try dsimp only at hSw); go_simp; (try (with_reducible rfl)))
  change wpAnyH _ _ _ _ _ _ _ (Act.put _ (some 51) _) _
  simp only [Act.put, List.setIfInBounds_toArray, List.set_cons_succ, List.set_cons_zero]
  refine wpAnyH_take (i := 4) (v := ?_) rfl (by kernel_rfl) (by kernel_rfl) (by kernel_rfl) (fun c a w h => hP c a _ _ w h) (Or.inl ⟨by rfl, ?_⟩) ⟨y0, y4, y5, y6, y7, y8, y9, y10⟩ ?_
  rotate_left
  · (intro w hSw; (try dsimp only at hSw); go_simp; (try (with_reducible rfl)))
  change wpAnyH _ _ _ _ _ _ _ (Act.put _ (some 53) _) _
  simp only [Act.put, List.setIfInBounds_toArray, List.set_cons_succ, List.set_cons_zero]
  refine wpAnyH_take (i := 5) (v := ?_) rfl (by kernel_rfl) (by kernel_rfl) (by kernel_rfl) (fun c a w h => hP c a _ _ w h) (Or.inl ⟨by rfl, ?_⟩) ⟨y0, y4, y5, y6, y7, y8, y9, y10⟩ ?_
  rotate_left
  · (intro w hSw; (try dsimp only at hSw); go_simp; (try (with_reducible rfl)))
  change wpAnyH _ _ _ _ _ _ _ (Act.put _ (some 54) _) _
  simp only [Act.put, List.setIfInBounds_toArray, List.set_cons_succ, List.set_cons_zero]
  refine wpAnyH_take (i := 6) (v := ?_) rfl (by kernel_rfl) (by kernel_rfl) (by kernel_rfl) (fun c a w h => hP c a _ _ w h) (Or.inl ⟨by rfl, ?_⟩) ⟨y0, y4, y5, y6, y7, y8, y9, y10⟩ ?_
  rotate_left
  · (intro w hSw; (try dsimp only at hSw); go_simp; (try (with_reducible rfl)))
  change wpAnyH _ _ _ _ _ _ _ (Act.put _ (some 55) _) _
  simp only [Act.put, List.setIfInBounds_toArray, List.set_cons_succ, List.set_cons_zero]
  refine wpAnyH_take (i := 7) (v := ?_) rfl (by kernel_rfl) (by kernel_rfl) (by kernel_rfl) (fun c a w h => hP c a _ _ w h) (Or.inl ⟨by rfl, ?_⟩) ⟨y0, y4, y5, y6, y7, y8, y9, y10⟩ ?_
  rotate_left
  · (intro w hSw; (try dsimp only at hSw); go_simp; (try (with_reducible rfl)))
  change wpAnyH _ _ _ _ _ _ _ (Act.put _ (some 56) _) _
  simp only [Act.put, List.setIfInBounds_toArray, List.set_cons_succ, List.set_cons_zero]
  refine wpAnyH_take (i := 8) (v := ?_) rfl (by kernel_rfl) (by kernel_rfl) (by kernel_rfl) (fun c a w h => hP c a _ _ w h) (Or.inl ⟨by rfl, ?_⟩) ⟨y0, y4, y5, y6, y7, y8, y9, y10⟩ ?_
  rotate_left
  · (intro w hSw; (try dsimp only at hSw); go_simp; (try (with_reducible rfl)))
  change wpAnyH _ _ _ _ _ _ _ (Act.put _ (some 57) _) _
  simp only [Act.put, List.setIfInBounds_toArray, List.set_cons_succ, List.set_cons_zero]
  refine wpAnyH_ready (rs := [3]) (by kernel_rfl) (by simp) (AllReadyH.cons rfl (fun K hK => ?_) AllReadyH.nil)
  go_simp
  refine (way_any 3 _).mono ?_
  rintro e w3 ⟨rfl, rfl⟩
  go_wp2_with fail
  refine hK.out _ _ ⟨y0, y4, y5, y6, y7, y8, y9, y10⟩ (fun hHeld => ?_)
  clear hK K
  refine wpAnyH_ready (rs := [9]) (by kernel_rfl) (by simp) (AllReadyH.cons rfl (fun K hK => ?_) AllReadyH.nil)
  go_simp
  refine HM.mono ?_
  rintro e w3 ⟨a3, d3, rfl, hP3⟩
  have hz3 := HS.out a3 d3 w3 hP3
  obtain ⟨r0, r1, r2, r3, f0, f1, f2, f3⟩ := HFZ.out a3 d3 w3 hP3
  go_wp2_with fail
  refine hK.out _ _ hz3 (fun hHeld => ?_)
  clear hK K
  refine wpAnyH_ready (rs := [10]) (by kernel_rfl) (by simp) (AllReadyH.cons rfl (fun K hK => ?_) AllReadyH.nil)
  go_simp
  refine hK.out _ _ (HS2.out a3 d3 w3 hP3) (fun hHeld => ?_)
  clear hK K
  refine wpAnyH_done (by kernel_rfl) ?_ _
  exact hQ _ _ _ hP3 _ _ _ _ _ _ _ _ _ _
set_option maxRecDepth 1000000 in
set_option maxHeartbeats 8000000 in
theorem done_reg4 {Q : Exit → Act → World → Prop} {u1 u2 u5 u6 u7 u8 u9 u10 u11 u12 u13 u14 u15 u16 u17 u18 u19 u20 u21 u22 u23 u24 u25 u26 u27 u28 u29 u30 u31 u32 u33 u34 u35 u36 u37 u38 u39 u40 u41 u42 u43 u44 u45 u46 u47 u48 u49 u50 u51 u52 u53 u54 u55 u56 u57 u58 : Value} (hP : ∀ c a d v w, Q (.panic c) (Act.put a d v) w → Q (.panic c) a w) {l ge g1 nT : Nat} {c : Int} {t : Txx} {r : Rcp} {W : World} {P : Option Addr → Nat → World → Prop} (HM : Calls Tryz.prog 166 #[.pointer (some ⟨l, 0, none⟩), .int .i64 c, .agg #[.int .i64 4, .int .i64 t.asset, .int .i64 t.dst, .bool t.buy, .int .u64 t.price, .int .u64 t.qty, .int .i64 t.id]] W.drew fun e w' => ∃ a d, e = .returned (rcv r a nT d) ∧ P a d w') (HS : Hid (∀ a d w', P a d w' → w'.cell? ⟨ge, 0, none⟩ = some (.int .i64 c) ∧ w'.cell? ⟨ge, 4, none⟩ = some (.int .i64 4) ∧ w'.cell? ⟨ge, 5, none⟩ = some (.int .i64 t.asset) ∧ w'.cell? ⟨ge, 6, none⟩ = some (.int .i64 t.dst) ∧ w'.cell? ⟨ge, 7, none⟩ = some (.bool t.buy) ∧ w'.cell? ⟨ge, 8, none⟩ = some (.int .u64 t.price) ∧ w'.cell? ⟨ge, 9, none⟩ = some (.int .u64 t.qty) ∧ w'.cell? ⟨ge, 10, none⟩ = some (.int .i64 t.id))) (HS2 : Hid (∀ a d w', P a d w' → (stoR w' g1 r.code r.paid r.id a nT d).cell? ⟨ge, 0, none⟩ = some (.int .i64 c) ∧ (stoR w' g1 r.code r.paid r.id a nT d).cell? ⟨ge, 4, none⟩ = some (.int .i64 4) ∧ (stoR w' g1 r.code r.paid r.id a nT d).cell? ⟨ge, 5, none⟩ = some (.int .i64 t.asset) ∧ (stoR w' g1 r.code r.paid r.id a nT d).cell? ⟨ge, 6, none⟩ = some (.int .i64 t.dst) ∧ (stoR w' g1 r.code r.paid r.id a nT d).cell? ⟨ge, 7, none⟩ = some (.bool t.buy) ∧ (stoR w' g1 r.code r.paid r.id a nT d).cell? ⟨ge, 8, none⟩ = some (.int .u64 t.price) ∧ (stoR w' g1 r.code r.paid r.id a nT d).cell? ⟨ge, 9, none⟩ = some (.int .u64 t.qty) ∧ (stoR w' g1 r.code r.paid r.id a nT d).cell? ⟨ge, 10, none⟩ = some (.int .i64 t.id))) (HFZ : Hid (∀ a d w', P a d w' → w'.cell? ⟨g1, 0, none⟩ = some (.int .i64 0) ∧ w'.cell? ⟨g1, 1, none⟩ = some (.int .u64 0) ∧ w'.cell? ⟨g1, 2, none⟩ = some (.int .i64 0) ∧ w'.cell? ⟨g1, 3, none⟩ = some (.slice none 0 0) ∧ w'.frozen? ⟨g1, 0, none⟩ = false ∧ w'.frozen? ⟨g1, 1, none⟩ = false ∧ w'.frozen? ⟨g1, 2, none⟩ = false ∧ w'.frozen? ⟨g1, 3, none⟩ = false)) (y0 : W.cell? ⟨ge, 0, none⟩ = some (.int .i64 c)) (y4 : W.cell? ⟨ge, 4, none⟩ = some (.int .i64 4)) (y5 : W.cell? ⟨ge, 5, none⟩ = some (.int .i64 t.asset)) (y6 : W.cell? ⟨ge, 6, none⟩ = some (.int .i64 t.dst)) (y7 : W.cell? ⟨ge, 7, none⟩ = some (.bool t.buy)) (y8 : W.cell? ⟨ge, 8, none⟩ = some (.int .u64 t.price)) (y9 : W.cell? ⟨ge, 9, none⟩ = some (.int .u64 t.qty)) (y10 : W.cell? ⟨ge, 10, none⟩ = some (.int .i64 t.id))
    (hQ : ∀ (a3 : Option Addr) (d3 : Nat) (w3 : World) (_ : P a3 d3 w3) (x49 x50 x51 x52 x53 x54 x55 x56 x57 x58 : Value), Q .normal ⟨#[.pointer (some ⟨l, 0, none⟩), u1, u2, .pointer (some ⟨ge, 0, none⟩), .pointer (some ⟨g1, 0, none⟩), u5, u6, u7, u8, u9, u10, u11, u12, u13, u14, u15, u16, u17, u18, u19, u20, u21, u22, u23, u24, u25, u26, u27, u28, u29, u30, u31, u32, u33, u34, u35, u36, u37, u38, u39, u40, u41, u42, u43, u44, u45, u46, u47, u48, x49, x50, x51, x52, x53, x54, x55, x56, x57, x58], []⟩ (stoR w3 g1 r.code r.paid r.id a3 nT d3)) :
    Code.wp Tryz.prog (regionOf Tryz.f75 8) Q ⟨#[.pointer (some ⟨l, 0, none⟩), u1, u2, .pointer (some ⟨ge, 0, none⟩), .pointer (some ⟨g1, 0, none⟩), u5, u6, u7, u8, u9, u10, u11, u12, u13, u14, u15, u16, u17, u18, u19, u20, u21, u22, u23, u24, u25, u26, u27, u28, u29, u30, u31, u32, u33, u34, u35, u36, u37, u38, u39, u40, u41, u42, u43, u44, u45, u46, u47, u48, u49, u50, u51, u52, u53, u54, u55, u56, u57, u58], []⟩ W := by
  conv => arg 2; whnf
  refine wp_region_held_drew (S := (fun w' => w'.cell? ⟨ge, 0, none⟩ = some (.int .i64 c) ∧ w'.cell? ⟨ge, 4, none⟩ = some (.int .i64 4) ∧ w'.cell? ⟨ge, 5, none⟩ = some (.int .i64 t.asset) ∧ w'.cell? ⟨ge, 6, none⟩ = some (.int .i64 t.dst) ∧ w'.cell? ⟨ge, 7, none⟩ = some (.bool t.buy) ∧ w'.cell? ⟨ge, 8, none⟩ = some (.int .u64 t.price) ∧ w'.cell? ⟨ge, 9, none⟩ = some (.int .u64 t.qty) ∧ w'.cell? ⟨ge, 10, none⟩ = some (.int .i64 t.id))) (by kernel_rfl) ⟨y0, y4, y5, y6, y7, y8, y9, y10⟩ (fun _ => ?_)
  refine wpAnyH_take (i := 0) (v := ?_) rfl (by kernel_rfl) (by kernel_rfl) (by kernel_rfl) (fun c a w h => hP c a _ _ w h) (Or.inl ⟨by rfl, ?_⟩) ⟨y0, y4, y5, y6, y7, y8, y9, y10⟩ ?_
  rotate_left
  · (intro w hSw; (try dsimp only at hSw); go_simp; (try (with_reducible rfl)))
  change wpAnyH _ _ _ _ _ _ _ (Act.put _ (some 49) _) _
  simp only [Act.put, List.setIfInBounds_toArray, List.set_cons_succ, List.set_cons_zero]
  refine wpAnyH_take (i := 1) (v := ?_) rfl (by kernel_rfl) (by kernel_rfl) (by kernel_rfl) (fun c a w h => hP c a _ _ w h) (Or.inl ⟨by rfl, ?_⟩) ⟨y0, y4, y5, y6, y7, y8, y9, y10⟩ ?_
  rotate_left
  · (intro w hSw; (try dsimp only at hSw); go_simp; (try (with_reducible rfl)))
  change wpAnyH _ _ _ _ _ _ _ (Act.put _ (some 50) _) _
  simp only [Act.put, List.setIfInBounds_toArray, List.set_cons_succ, List.set_cons_zero]
  refine wpAnyH_take (i := 2) (v := ?_) rfl (by kernel_rfl) (by kernel_rfl) (by kernel_rfl) (fun c a w h => hP c a _ _ w h) (Or.inl ⟨by rfl, ?_⟩) ⟨y0, y4, y5, y6, y7, y8, y9, y10⟩ ?_
  rotate_left
  · (intro w hSw; (try dsimp only at hSw); go_simp; (try (with_reducible rfl)))
  change wpAnyH _ _ _ _ _ _ _ (Act.put _ (some 51) _) _
  simp only [Act.put, List.setIfInBounds_toArray, List.set_cons_succ, List.set_cons_zero]
  refine wpAnyH_take (i := 4) (v := ?_) rfl (by kernel_rfl) (by kernel_rfl) (by kernel_rfl) (fun c a w h => hP c a _ _ w h) (Or.inl ⟨by rfl, ?_⟩) ⟨y0, y4, y5, y6, y7, y8, y9, y10⟩ ?_
  rotate_left
  · (intro w hSw; (try dsimp only at hSw); go_simp; (try (with_reducible rfl)))
  change wpAnyH _ _ _ _ _ _ _ (Act.put _ (some 53) _) _
  simp only [Act.put, List.setIfInBounds_toArray, List.set_cons_succ, List.set_cons_zero]
  refine wpAnyH_take (i := 5) (v := ?_) rfl (by kernel_rfl) (by kernel_rfl) (by kernel_rfl) (fun c a w h => hP c a _ _ w h) (Or.inl ⟨by rfl, ?_⟩) ⟨y0, y4, y5, y6, y7, y8, y9, y10⟩ ?_
  rotate_left
  · (intro w hSw; (try dsimp only at hSw); go_simp; (try (with_reducible rfl)))
  change wpAnyH _ _ _ _ _ _ _ (Act.put _ (some 54) _) _
  simp only [Act.put, List.setIfInBounds_toArray, List.set_cons_succ, List.set_cons_zero]
  refine wpAnyH_take (i := 6) (v := ?_) rfl (by kernel_rfl) (by kernel_rfl) (by kernel_rfl) (fun c a w h => hP c a _ _ w h) (Or.inl ⟨by rfl, ?_⟩) ⟨y0, y4, y5, y6, y7, y8, y9, y10⟩ ?_
  rotate_left
  · (intro w hSw; (try dsimp only at hSw); go_simp; (try (with_reducible rfl)))
  change wpAnyH _ _ _ _ _ _ _ (Act.put _ (some 55) _) _
  simp only [Act.put, List.setIfInBounds_toArray, List.set_cons_succ, List.set_cons_zero]
  refine wpAnyH_take (i := 7) (v := ?_) rfl (by kernel_rfl) (by kernel_rfl) (by kernel_rfl) (fun c a w h => hP c a _ _ w h) (Or.inl ⟨by rfl, ?_⟩) ⟨y0, y4, y5, y6, y7, y8, y9, y10⟩ ?_
  rotate_left
  · (intro w hSw; (try dsimp only at hSw); go_simp; (try (with_reducible rfl)))
  change wpAnyH _ _ _ _ _ _ _ (Act.put _ (some 56) _) _
  simp only [Act.put, List.setIfInBounds_toArray, List.set_cons_succ, List.set_cons_zero]
  refine wpAnyH_take (i := 8) (v := ?_) rfl (by kernel_rfl) (by kernel_rfl) (by kernel_rfl) (fun c a w h => hP c a _ _ w h) (Or.inl ⟨by rfl, ?_⟩) ⟨y0, y4, y5, y6, y7, y8, y9, y10⟩ ?_
  rotate_left
  · (intro w hSw; (try dsimp only at hSw); go_simp; (try (with_reducible rfl)))
  change wpAnyH _ _ _ _ _ _ _ (Act.put _ (some 57) _) _
  simp only [Act.put, List.setIfInBounds_toArray, List.set_cons_succ, List.set_cons_zero]
  refine wpAnyH_ready (rs := [3]) (by kernel_rfl) (by simp) (AllReadyH.cons rfl (fun K hK => ?_) AllReadyH.nil)
  go_simp
  refine (way_any 4 _).mono ?_
  rintro e w3 ⟨rfl, rfl⟩
  go_wp2_with fail
  refine hK.out _ _ ⟨y0, y4, y5, y6, y7, y8, y9, y10⟩ (fun hHeld => ?_)
  clear hK K
  refine wpAnyH_ready (rs := [9]) (by kernel_rfl) (by simp) (AllReadyH.cons rfl (fun K hK => ?_) AllReadyH.nil)
  go_simp
  refine HM.mono ?_
  rintro e w3 ⟨a3, d3, rfl, hP3⟩
  have hz3 := HS.out a3 d3 w3 hP3
  obtain ⟨r0, r1, r2, r3, f0, f1, f2, f3⟩ := HFZ.out a3 d3 w3 hP3
  go_wp2_with fail
  refine hK.out _ _ hz3 (fun hHeld => ?_)
  clear hK K
  refine wpAnyH_ready (rs := [10]) (by kernel_rfl) (by simp) (AllReadyH.cons rfl (fun K hK => ?_) AllReadyH.nil)
  go_simp
  refine hK.out _ _ (HS2.out a3 d3 w3 hP3) (fun hHeld => ?_)
  clear hK K
  refine wpAnyH_done (by kernel_rfl) ?_ _
  exact hQ _ _ _ hP3 _ _ _ _ _ _ _ _ _ _
set_option maxRecDepth 1000000 in
set_option maxHeartbeats 8000000 in
theorem done_reg5 {Q : Exit → Act → World → Prop} {u1 u2 u5 u6 u7 u8 u9 u10 u11 u12 u13 u14 u15 u16 u17 u18 u19 u20 u21 u22 u23 u24 u25 u26 u27 u28 u29 u30 u31 u32 u33 u34 u35 u36 u37 u38 u39 u40 u41 u42 u43 u44 u45 u46 u47 u48 u49 u50 u51 u52 u53 u54 u55 u56 u57 u58 : Value} (hP : ∀ c a d v w, Q (.panic c) (Act.put a d v) w → Q (.panic c) a w) {l ge g1 nT : Nat} {c : Int} {t : Txx} {r : Rcp} {W : World} {P : Option Addr → Nat → World → Prop} (HM : Calls Tryz.prog 167 #[.pointer (some ⟨l, 0, none⟩), .int .i64 c, .agg #[.int .i64 5, .int .i64 t.asset, .int .i64 t.dst, .bool t.buy, .int .u64 t.price, .int .u64 t.qty, .int .i64 t.id]] W.drew fun e w' => ∃ a d, e = .returned (rcv r a nT d) ∧ P a d w') (HS : Hid (∀ a d w', P a d w' → w'.cell? ⟨ge, 0, none⟩ = some (.int .i64 c) ∧ w'.cell? ⟨ge, 4, none⟩ = some (.int .i64 5) ∧ w'.cell? ⟨ge, 5, none⟩ = some (.int .i64 t.asset) ∧ w'.cell? ⟨ge, 6, none⟩ = some (.int .i64 t.dst) ∧ w'.cell? ⟨ge, 7, none⟩ = some (.bool t.buy) ∧ w'.cell? ⟨ge, 8, none⟩ = some (.int .u64 t.price) ∧ w'.cell? ⟨ge, 9, none⟩ = some (.int .u64 t.qty) ∧ w'.cell? ⟨ge, 10, none⟩ = some (.int .i64 t.id))) (HS2 : Hid (∀ a d w', P a d w' → (stoR w' g1 r.code r.paid r.id a nT d).cell? ⟨ge, 0, none⟩ = some (.int .i64 c) ∧ (stoR w' g1 r.code r.paid r.id a nT d).cell? ⟨ge, 4, none⟩ = some (.int .i64 5) ∧ (stoR w' g1 r.code r.paid r.id a nT d).cell? ⟨ge, 5, none⟩ = some (.int .i64 t.asset) ∧ (stoR w' g1 r.code r.paid r.id a nT d).cell? ⟨ge, 6, none⟩ = some (.int .i64 t.dst) ∧ (stoR w' g1 r.code r.paid r.id a nT d).cell? ⟨ge, 7, none⟩ = some (.bool t.buy) ∧ (stoR w' g1 r.code r.paid r.id a nT d).cell? ⟨ge, 8, none⟩ = some (.int .u64 t.price) ∧ (stoR w' g1 r.code r.paid r.id a nT d).cell? ⟨ge, 9, none⟩ = some (.int .u64 t.qty) ∧ (stoR w' g1 r.code r.paid r.id a nT d).cell? ⟨ge, 10, none⟩ = some (.int .i64 t.id))) (HFZ : Hid (∀ a d w', P a d w' → w'.cell? ⟨g1, 0, none⟩ = some (.int .i64 0) ∧ w'.cell? ⟨g1, 1, none⟩ = some (.int .u64 0) ∧ w'.cell? ⟨g1, 2, none⟩ = some (.int .i64 0) ∧ w'.cell? ⟨g1, 3, none⟩ = some (.slice none 0 0) ∧ w'.frozen? ⟨g1, 0, none⟩ = false ∧ w'.frozen? ⟨g1, 1, none⟩ = false ∧ w'.frozen? ⟨g1, 2, none⟩ = false ∧ w'.frozen? ⟨g1, 3, none⟩ = false)) (y0 : W.cell? ⟨ge, 0, none⟩ = some (.int .i64 c)) (y4 : W.cell? ⟨ge, 4, none⟩ = some (.int .i64 5)) (y5 : W.cell? ⟨ge, 5, none⟩ = some (.int .i64 t.asset)) (y6 : W.cell? ⟨ge, 6, none⟩ = some (.int .i64 t.dst)) (y7 : W.cell? ⟨ge, 7, none⟩ = some (.bool t.buy)) (y8 : W.cell? ⟨ge, 8, none⟩ = some (.int .u64 t.price)) (y9 : W.cell? ⟨ge, 9, none⟩ = some (.int .u64 t.qty)) (y10 : W.cell? ⟨ge, 10, none⟩ = some (.int .i64 t.id))
    (hQ : ∀ (a3 : Option Addr) (d3 : Nat) (w3 : World) (_ : P a3 d3 w3) (x49 x50 x51 x52 x53 x54 x55 x56 x57 x58 : Value), Q .normal ⟨#[.pointer (some ⟨l, 0, none⟩), u1, u2, .pointer (some ⟨ge, 0, none⟩), .pointer (some ⟨g1, 0, none⟩), u5, u6, u7, u8, u9, u10, u11, u12, u13, u14, u15, u16, u17, u18, u19, u20, u21, u22, u23, u24, u25, u26, u27, u28, u29, u30, u31, u32, u33, u34, u35, u36, u37, u38, u39, u40, u41, u42, u43, u44, u45, u46, u47, u48, x49, x50, x51, x52, x53, x54, x55, x56, x57, x58], []⟩ (stoR w3 g1 r.code r.paid r.id a3 nT d3)) :
    Code.wp Tryz.prog (regionOf Tryz.f75 8) Q ⟨#[.pointer (some ⟨l, 0, none⟩), u1, u2, .pointer (some ⟨ge, 0, none⟩), .pointer (some ⟨g1, 0, none⟩), u5, u6, u7, u8, u9, u10, u11, u12, u13, u14, u15, u16, u17, u18, u19, u20, u21, u22, u23, u24, u25, u26, u27, u28, u29, u30, u31, u32, u33, u34, u35, u36, u37, u38, u39, u40, u41, u42, u43, u44, u45, u46, u47, u48, u49, u50, u51, u52, u53, u54, u55, u56, u57, u58], []⟩ W := by
  conv => arg 2; whnf
  refine wp_region_held_drew (S := (fun w' => w'.cell? ⟨ge, 0, none⟩ = some (.int .i64 c) ∧ w'.cell? ⟨ge, 4, none⟩ = some (.int .i64 5) ∧ w'.cell? ⟨ge, 5, none⟩ = some (.int .i64 t.asset) ∧ w'.cell? ⟨ge, 6, none⟩ = some (.int .i64 t.dst) ∧ w'.cell? ⟨ge, 7, none⟩ = some (.bool t.buy) ∧ w'.cell? ⟨ge, 8, none⟩ = some (.int .u64 t.price) ∧ w'.cell? ⟨ge, 9, none⟩ = some (.int .u64 t.qty) ∧ w'.cell? ⟨ge, 10, none⟩ = some (.int .i64 t.id))) (by kernel_rfl) ⟨y0, y4, y5, y6, y7, y8, y9, y10⟩ (fun _ => ?_)
  refine wpAnyH_take (i := 0) (v := ?_) rfl (by kernel_rfl) (by kernel_rfl) (by kernel_rfl) (fun c a w h => hP c a _ _ w h) (Or.inl ⟨by rfl, ?_⟩) ⟨y0, y4, y5, y6, y7, y8, y9, y10⟩ ?_
  rotate_left
  · (intro w hSw; (try dsimp only at hSw); go_simp; (try (with_reducible rfl)))
  change wpAnyH _ _ _ _ _ _ _ (Act.put _ (some 49) _) _
  simp only [Act.put, List.setIfInBounds_toArray, List.set_cons_succ, List.set_cons_zero]
  refine wpAnyH_take (i := 1) (v := ?_) rfl (by kernel_rfl) (by kernel_rfl) (by kernel_rfl) (fun c a w h => hP c a _ _ w h) (Or.inl ⟨by rfl, ?_⟩) ⟨y0, y4, y5, y6, y7, y8, y9, y10⟩ ?_
  rotate_left
  · (intro w hSw; (try dsimp only at hSw); go_simp; (try (with_reducible rfl)))
  change wpAnyH _ _ _ _ _ _ _ (Act.put _ (some 50) _) _
  simp only [Act.put, List.setIfInBounds_toArray, List.set_cons_succ, List.set_cons_zero]
  refine wpAnyH_take (i := 2) (v := ?_) rfl (by kernel_rfl) (by kernel_rfl) (by kernel_rfl) (fun c a w h => hP c a _ _ w h) (Or.inl ⟨by rfl, ?_⟩) ⟨y0, y4, y5, y6, y7, y8, y9, y10⟩ ?_
  rotate_left
  · (intro w hSw; (try dsimp only at hSw); go_simp; (try (with_reducible rfl)))
  change wpAnyH _ _ _ _ _ _ _ (Act.put _ (some 51) _) _
  simp only [Act.put, List.setIfInBounds_toArray, List.set_cons_succ, List.set_cons_zero]
  refine wpAnyH_take (i := 4) (v := ?_) rfl (by kernel_rfl) (by kernel_rfl) (by kernel_rfl) (fun c a w h => hP c a _ _ w h) (Or.inl ⟨by rfl, ?_⟩) ⟨y0, y4, y5, y6, y7, y8, y9, y10⟩ ?_
  rotate_left
  · (intro w hSw; (try dsimp only at hSw); go_simp; (try (with_reducible rfl)))
  change wpAnyH _ _ _ _ _ _ _ (Act.put _ (some 53) _) _
  simp only [Act.put, List.setIfInBounds_toArray, List.set_cons_succ, List.set_cons_zero]
  refine wpAnyH_take (i := 5) (v := ?_) rfl (by kernel_rfl) (by kernel_rfl) (by kernel_rfl) (fun c a w h => hP c a _ _ w h) (Or.inl ⟨by rfl, ?_⟩) ⟨y0, y4, y5, y6, y7, y8, y9, y10⟩ ?_
  rotate_left
  · (intro w hSw; (try dsimp only at hSw); go_simp; (try (with_reducible rfl)))
  change wpAnyH _ _ _ _ _ _ _ (Act.put _ (some 54) _) _
  simp only [Act.put, List.setIfInBounds_toArray, List.set_cons_succ, List.set_cons_zero]
  refine wpAnyH_take (i := 6) (v := ?_) rfl (by kernel_rfl) (by kernel_rfl) (by kernel_rfl) (fun c a w h => hP c a _ _ w h) (Or.inl ⟨by rfl, ?_⟩) ⟨y0, y4, y5, y6, y7, y8, y9, y10⟩ ?_
  rotate_left
  · (intro w hSw; (try dsimp only at hSw); go_simp; (try (with_reducible rfl)))
  change wpAnyH _ _ _ _ _ _ _ (Act.put _ (some 55) _) _
  simp only [Act.put, List.setIfInBounds_toArray, List.set_cons_succ, List.set_cons_zero]
  refine wpAnyH_take (i := 7) (v := ?_) rfl (by kernel_rfl) (by kernel_rfl) (by kernel_rfl) (fun c a w h => hP c a _ _ w h) (Or.inl ⟨by rfl, ?_⟩) ⟨y0, y4, y5, y6, y7, y8, y9, y10⟩ ?_
  rotate_left
  · (intro w hSw; (try dsimp only at hSw); go_simp; (try (with_reducible rfl)))
  change wpAnyH _ _ _ _ _ _ _ (Act.put _ (some 56) _) _
  simp only [Act.put, List.setIfInBounds_toArray, List.set_cons_succ, List.set_cons_zero]
  refine wpAnyH_take (i := 8) (v := ?_) rfl (by kernel_rfl) (by kernel_rfl) (by kernel_rfl) (fun c a w h => hP c a _ _ w h) (Or.inl ⟨by rfl, ?_⟩) ⟨y0, y4, y5, y6, y7, y8, y9, y10⟩ ?_
  rotate_left
  · (intro w hSw; (try dsimp only at hSw); go_simp; (try (with_reducible rfl)))
  change wpAnyH _ _ _ _ _ _ _ (Act.put _ (some 57) _) _
  simp only [Act.put, List.setIfInBounds_toArray, List.set_cons_succ, List.set_cons_zero]
  refine wpAnyH_ready (rs := [3]) (by kernel_rfl) (by simp) (AllReadyH.cons rfl (fun K hK => ?_) AllReadyH.nil)
  go_simp
  refine (way_any 5 _).mono ?_
  rintro e w3 ⟨rfl, rfl⟩
  go_wp2_with fail
  refine hK.out _ _ ⟨y0, y4, y5, y6, y7, y8, y9, y10⟩ (fun hHeld => ?_)
  clear hK K
  refine wpAnyH_ready (rs := [9]) (by kernel_rfl) (by simp) (AllReadyH.cons rfl (fun K hK => ?_) AllReadyH.nil)
  go_simp
  refine HM.mono ?_
  rintro e w3 ⟨a3, d3, rfl, hP3⟩
  have hz3 := HS.out a3 d3 w3 hP3
  obtain ⟨r0, r1, r2, r3, f0, f1, f2, f3⟩ := HFZ.out a3 d3 w3 hP3
  go_wp2_with fail
  refine hK.out _ _ hz3 (fun hHeld => ?_)
  clear hK K
  refine wpAnyH_ready (rs := [10]) (by kernel_rfl) (by simp) (AllReadyH.cons rfl (fun K hK => ?_) AllReadyH.nil)
  go_simp
  refine hK.out _ _ (HS2.out a3 d3 w3 hP3) (fun hHeld => ?_)
  clear hK K
  refine wpAnyH_done (by kernel_rfl) ?_ _
  exact hQ _ _ _ hP3 _ _ _ _ _ _ _ _ _ _
set_option maxRecDepth 1000000 in
set_option maxHeartbeats 8000000 in
theorem done_reg6 {Q : Exit → Act → World → Prop} {u1 u2 u5 u6 u7 u8 u9 u10 u11 u12 u13 u14 u15 u16 u17 u18 u19 u20 u21 u22 u23 u24 u25 u26 u27 u28 u29 u30 u31 u32 u33 u34 u35 u36 u37 u38 u39 u40 u41 u42 u43 u44 u45 u46 u47 u48 u49 u50 u51 u52 u53 u54 u55 u56 u57 u58 : Value} (hP : ∀ c a d v w, Q (.panic c) (Act.put a d v) w → Q (.panic c) a w) {l ge g1 nT : Nat} {c : Int} {t : Txx} {r : Rcp} {W : World} {P : Option Addr → Nat → World → Prop} (HM : Calls Tryz.prog 168 #[.pointer (some ⟨l, 0, none⟩), .int .i64 c, .agg #[.int .i64 6, .int .i64 t.asset, .int .i64 t.dst, .bool t.buy, .int .u64 t.price, .int .u64 t.qty, .int .i64 t.id]] W.drew fun e w' => ∃ a d, e = .returned (rcv r a nT d) ∧ P a d w') (HS : Hid (∀ a d w', P a d w' → w'.cell? ⟨ge, 0, none⟩ = some (.int .i64 c) ∧ w'.cell? ⟨ge, 4, none⟩ = some (.int .i64 6) ∧ w'.cell? ⟨ge, 5, none⟩ = some (.int .i64 t.asset) ∧ w'.cell? ⟨ge, 6, none⟩ = some (.int .i64 t.dst) ∧ w'.cell? ⟨ge, 7, none⟩ = some (.bool t.buy) ∧ w'.cell? ⟨ge, 8, none⟩ = some (.int .u64 t.price) ∧ w'.cell? ⟨ge, 9, none⟩ = some (.int .u64 t.qty) ∧ w'.cell? ⟨ge, 10, none⟩ = some (.int .i64 t.id))) (HS2 : Hid (∀ a d w', P a d w' → (stoR w' g1 r.code r.paid r.id a nT d).cell? ⟨ge, 0, none⟩ = some (.int .i64 c) ∧ (stoR w' g1 r.code r.paid r.id a nT d).cell? ⟨ge, 4, none⟩ = some (.int .i64 6) ∧ (stoR w' g1 r.code r.paid r.id a nT d).cell? ⟨ge, 5, none⟩ = some (.int .i64 t.asset) ∧ (stoR w' g1 r.code r.paid r.id a nT d).cell? ⟨ge, 6, none⟩ = some (.int .i64 t.dst) ∧ (stoR w' g1 r.code r.paid r.id a nT d).cell? ⟨ge, 7, none⟩ = some (.bool t.buy) ∧ (stoR w' g1 r.code r.paid r.id a nT d).cell? ⟨ge, 8, none⟩ = some (.int .u64 t.price) ∧ (stoR w' g1 r.code r.paid r.id a nT d).cell? ⟨ge, 9, none⟩ = some (.int .u64 t.qty) ∧ (stoR w' g1 r.code r.paid r.id a nT d).cell? ⟨ge, 10, none⟩ = some (.int .i64 t.id))) (HFZ : Hid (∀ a d w', P a d w' → w'.cell? ⟨g1, 0, none⟩ = some (.int .i64 0) ∧ w'.cell? ⟨g1, 1, none⟩ = some (.int .u64 0) ∧ w'.cell? ⟨g1, 2, none⟩ = some (.int .i64 0) ∧ w'.cell? ⟨g1, 3, none⟩ = some (.slice none 0 0) ∧ w'.frozen? ⟨g1, 0, none⟩ = false ∧ w'.frozen? ⟨g1, 1, none⟩ = false ∧ w'.frozen? ⟨g1, 2, none⟩ = false ∧ w'.frozen? ⟨g1, 3, none⟩ = false)) (y0 : W.cell? ⟨ge, 0, none⟩ = some (.int .i64 c)) (y4 : W.cell? ⟨ge, 4, none⟩ = some (.int .i64 6)) (y5 : W.cell? ⟨ge, 5, none⟩ = some (.int .i64 t.asset)) (y6 : W.cell? ⟨ge, 6, none⟩ = some (.int .i64 t.dst)) (y7 : W.cell? ⟨ge, 7, none⟩ = some (.bool t.buy)) (y8 : W.cell? ⟨ge, 8, none⟩ = some (.int .u64 t.price)) (y9 : W.cell? ⟨ge, 9, none⟩ = some (.int .u64 t.qty)) (y10 : W.cell? ⟨ge, 10, none⟩ = some (.int .i64 t.id))
    (hQ : ∀ (a3 : Option Addr) (d3 : Nat) (w3 : World) (_ : P a3 d3 w3) (x49 x50 x51 x52 x53 x54 x55 x56 x57 x58 : Value), Q .normal ⟨#[.pointer (some ⟨l, 0, none⟩), u1, u2, .pointer (some ⟨ge, 0, none⟩), .pointer (some ⟨g1, 0, none⟩), u5, u6, u7, u8, u9, u10, u11, u12, u13, u14, u15, u16, u17, u18, u19, u20, u21, u22, u23, u24, u25, u26, u27, u28, u29, u30, u31, u32, u33, u34, u35, u36, u37, u38, u39, u40, u41, u42, u43, u44, u45, u46, u47, u48, x49, x50, x51, x52, x53, x54, x55, x56, x57, x58], []⟩ (stoR w3 g1 r.code r.paid r.id a3 nT d3)) :
    Code.wp Tryz.prog (regionOf Tryz.f75 8) Q ⟨#[.pointer (some ⟨l, 0, none⟩), u1, u2, .pointer (some ⟨ge, 0, none⟩), .pointer (some ⟨g1, 0, none⟩), u5, u6, u7, u8, u9, u10, u11, u12, u13, u14, u15, u16, u17, u18, u19, u20, u21, u22, u23, u24, u25, u26, u27, u28, u29, u30, u31, u32, u33, u34, u35, u36, u37, u38, u39, u40, u41, u42, u43, u44, u45, u46, u47, u48, u49, u50, u51, u52, u53, u54, u55, u56, u57, u58], []⟩ W := by
  conv => arg 2; whnf
  refine wp_region_held_drew (S := (fun w' => w'.cell? ⟨ge, 0, none⟩ = some (.int .i64 c) ∧ w'.cell? ⟨ge, 4, none⟩ = some (.int .i64 6) ∧ w'.cell? ⟨ge, 5, none⟩ = some (.int .i64 t.asset) ∧ w'.cell? ⟨ge, 6, none⟩ = some (.int .i64 t.dst) ∧ w'.cell? ⟨ge, 7, none⟩ = some (.bool t.buy) ∧ w'.cell? ⟨ge, 8, none⟩ = some (.int .u64 t.price) ∧ w'.cell? ⟨ge, 9, none⟩ = some (.int .u64 t.qty) ∧ w'.cell? ⟨ge, 10, none⟩ = some (.int .i64 t.id))) (by kernel_rfl) ⟨y0, y4, y5, y6, y7, y8, y9, y10⟩ (fun _ => ?_)
  refine wpAnyH_take (i := 0) (v := ?_) rfl (by kernel_rfl) (by kernel_rfl) (by kernel_rfl) (fun c a w h => hP c a _ _ w h) (Or.inl ⟨by rfl, ?_⟩) ⟨y0, y4, y5, y6, y7, y8, y9, y10⟩ ?_
  rotate_left
  · (intro w hSw; (try dsimp only at hSw); go_simp; (try (with_reducible rfl)))
  change wpAnyH _ _ _ _ _ _ _ (Act.put _ (some 49) _) _
  simp only [Act.put, List.setIfInBounds_toArray, List.set_cons_succ, List.set_cons_zero]
  refine wpAnyH_take (i := 1) (v := ?_) rfl (by kernel_rfl) (by kernel_rfl) (by kernel_rfl) (fun c a w h => hP c a _ _ w h) (Or.inl ⟨by rfl, ?_⟩) ⟨y0, y4, y5, y6, y7, y8, y9, y10⟩ ?_
  rotate_left
  · (intro w hSw; (try dsimp only at hSw); go_simp; (try (with_reducible rfl)))
  change wpAnyH _ _ _ _ _ _ _ (Act.put _ (some 50) _) _
  simp only [Act.put, List.setIfInBounds_toArray, List.set_cons_succ, List.set_cons_zero]
  refine wpAnyH_take (i := 2) (v := ?_) rfl (by kernel_rfl) (by kernel_rfl) (by kernel_rfl) (fun c a w h => hP c a _ _ w h) (Or.inl ⟨by rfl, ?_⟩) ⟨y0, y4, y5, y6, y7, y8, y9, y10⟩ ?_
  rotate_left
  · (intro w hSw; (try dsimp only at hSw); go_simp; (try (with_reducible rfl)))
  change wpAnyH _ _ _ _ _ _ _ (Act.put _ (some 51) _) _
  simp only [Act.put, List.setIfInBounds_toArray, List.set_cons_succ, List.set_cons_zero]
  refine wpAnyH_take (i := 4) (v := ?_) rfl (by kernel_rfl) (by kernel_rfl) (by kernel_rfl) (fun c a w h => hP c a _ _ w h) (Or.inl ⟨by rfl, ?_⟩) ⟨y0, y4, y5, y6, y7, y8, y9, y10⟩ ?_
  rotate_left
  · (intro w hSw; (try dsimp only at hSw); go_simp; (try (with_reducible rfl)))
  change wpAnyH _ _ _ _ _ _ _ (Act.put _ (some 53) _) _
  simp only [Act.put, List.setIfInBounds_toArray, List.set_cons_succ, List.set_cons_zero]
  refine wpAnyH_take (i := 5) (v := ?_) rfl (by kernel_rfl) (by kernel_rfl) (by kernel_rfl) (fun c a w h => hP c a _ _ w h) (Or.inl ⟨by rfl, ?_⟩) ⟨y0, y4, y5, y6, y7, y8, y9, y10⟩ ?_
  rotate_left
  · (intro w hSw; (try dsimp only at hSw); go_simp; (try (with_reducible rfl)))
  change wpAnyH _ _ _ _ _ _ _ (Act.put _ (some 54) _) _
  simp only [Act.put, List.setIfInBounds_toArray, List.set_cons_succ, List.set_cons_zero]
  refine wpAnyH_take (i := 6) (v := ?_) rfl (by kernel_rfl) (by kernel_rfl) (by kernel_rfl) (fun c a w h => hP c a _ _ w h) (Or.inl ⟨by rfl, ?_⟩) ⟨y0, y4, y5, y6, y7, y8, y9, y10⟩ ?_
  rotate_left
  · (intro w hSw; (try dsimp only at hSw); go_simp; (try (with_reducible rfl)))
  change wpAnyH _ _ _ _ _ _ _ (Act.put _ (some 55) _) _
  simp only [Act.put, List.setIfInBounds_toArray, List.set_cons_succ, List.set_cons_zero]
  refine wpAnyH_take (i := 7) (v := ?_) rfl (by kernel_rfl) (by kernel_rfl) (by kernel_rfl) (fun c a w h => hP c a _ _ w h) (Or.inl ⟨by rfl, ?_⟩) ⟨y0, y4, y5, y6, y7, y8, y9, y10⟩ ?_
  rotate_left
  · (intro w hSw; (try dsimp only at hSw); go_simp; (try (with_reducible rfl)))
  change wpAnyH _ _ _ _ _ _ _ (Act.put _ (some 56) _) _
  simp only [Act.put, List.setIfInBounds_toArray, List.set_cons_succ, List.set_cons_zero]
  refine wpAnyH_take (i := 8) (v := ?_) rfl (by kernel_rfl) (by kernel_rfl) (by kernel_rfl) (fun c a w h => hP c a _ _ w h) (Or.inl ⟨by rfl, ?_⟩) ⟨y0, y4, y5, y6, y7, y8, y9, y10⟩ ?_
  rotate_left
  · (intro w hSw; (try dsimp only at hSw); go_simp; (try (with_reducible rfl)))
  change wpAnyH _ _ _ _ _ _ _ (Act.put _ (some 57) _) _
  simp only [Act.put, List.setIfInBounds_toArray, List.set_cons_succ, List.set_cons_zero]
  refine wpAnyH_ready (rs := [3]) (by kernel_rfl) (by simp) (AllReadyH.cons rfl (fun K hK => ?_) AllReadyH.nil)
  go_simp
  refine (way_any 6 _).mono ?_
  rintro e w3 ⟨rfl, rfl⟩
  go_wp2_with fail
  refine hK.out _ _ ⟨y0, y4, y5, y6, y7, y8, y9, y10⟩ (fun hHeld => ?_)
  clear hK K
  refine wpAnyH_ready (rs := [9]) (by kernel_rfl) (by simp) (AllReadyH.cons rfl (fun K hK => ?_) AllReadyH.nil)
  go_simp
  refine HM.mono ?_
  rintro e w3 ⟨a3, d3, rfl, hP3⟩
  have hz3 := HS.out a3 d3 w3 hP3
  obtain ⟨r0, r1, r2, r3, f0, f1, f2, f3⟩ := HFZ.out a3 d3 w3 hP3
  go_wp2_with fail
  refine hK.out _ _ hz3 (fun hHeld => ?_)
  clear hK K
  refine wpAnyH_ready (rs := [10]) (by kernel_rfl) (by simp) (AllReadyH.cons rfl (fun K hK => ?_) AllReadyH.nil)
  go_simp
  refine hK.out _ _ (HS2.out a3 d3 w3 hP3) (fun hHeld => ?_)
  clear hK K
  refine wpAnyH_done (by kernel_rfl) ?_ _
  exact hQ _ _ _ hP3 _ _ _ _ _ _ _ _ _ _
end Go.Proofs.YteabcpmpcbjicaaGreat

namespace Go.Proofs.YteabcpmpcbjicaaGreat
set_option linter.unusedVariables false
open Go Go.Proofs Go.RowKit
attribute [local go_sem ↓] Go.wp_at_zero Go.wp_at_succ

theorem actK1 {w wr : World} {l ab s fb mb x kb ns n : Nat} {F : List Nat} {m : Nat} {S : LS} (h : Led w wr l ab s fb mb x kb ns n F m S) (hk : S.k < 1000000) (c : Int) (t : Txx) (ht : t.Ok) (hc : I c) (ha : t.asset = 0 ∨ t.asset = 1) (hK : t.kind = 1) :
    Calls Tryz.prog 163 #[.pointer (some ⟨l, 0, none⟩), .int .i64 c, txv t] wr fun e w' => ActR w wr l ab s fb mb x kb ns n F m (lAct n S c t) e w' := by
  have e : lAct n S c t = lDep n S c t := by unfold lAct; simp [hK]
  rw [e]
  rcases ha with ha | ha
  · exact dep0 h c t ht ha
  · exact dep1 h c t ht ha
theorem actK2 {w wr : World} {l ab s fb mb x kb ns n : Nat} {F : List Nat} {m : Nat} {S : LS} (h : Led w wr l ab s fb mb x kb ns n F m S) (hk : S.k < 1000000) (c : Int) (t : Txx) (ht : t.Ok) (hc : I c) (ha : t.asset = 0 ∨ t.asset = 1) (hK : t.kind = 2) :
    Calls Tryz.prog 164 #[.pointer (some ⟨l, 0, none⟩), .int .i64 c, txv t] wr fun e w' => ActR w wr l ab s fb mb x kb ns n F m (lAct n S c t) e w' := by
  have e : lAct n S c t = lWd n S c t := by unfold lAct; simp [hK]
  rw [e]
  rcases ha with ha | ha
  · exact wd0 h c t ht ha
  · exact wd1 h c t ht ha
theorem actK3 {w wr : World} {l ab s fb mb x kb ns n : Nat} {F : List Nat} {m : Nat} {S : LS} (h : Led w wr l ab s fb mb x kb ns n F m S) (hk : S.k < 1000000) (c : Int) (t : Txx) (ht : t.Ok) (hc : I c) (ha : t.asset = 0 ∨ t.asset = 1) (hK : t.kind = 3) :
    Calls Tryz.prog 165 #[.pointer (some ⟨l, 0, none⟩), .int .i64 c, txv t] wr fun e w' => ActR w wr l ab s fb mb x kb ns n F m (lAct n S c t) e w' := by
  have e : lAct n S c t = lTr n S c t := by unfold lAct; simp [hK]
  rw [e]
  exact tr_any h c t ht
theorem actK4 {w wr : World} {l ab s fb mb x kb ns n : Nat} {F : List Nat} {m : Nat} {S : LS} (h : Led w wr l ab s fb mb x kb ns n F m S) (hk : S.k < 1000000) (c : Int) (t : Txx) (ht : t.Ok) (hc : I c) (ha : t.asset = 0 ∨ t.asset = 1) (hK : t.kind = 4) :
    Calls Tryz.prog 166 #[.pointer (some ⟨l, 0, none⟩), .int .i64 c, txv t] wr fun e w' => ActR w wr l ab s fb mb x kb ns n F m (lAct n S c t) e w' := by
  have e : lAct n S c t = lLim n S c t := by unfold lAct; simp [hK]
  rw [e]
  exact lim_any h hk c t ht hc
theorem actK5 {w wr : World} {l ab s fb mb x kb ns n : Nat} {F : List Nat} {m : Nat} {S : LS} (h : Led w wr l ab s fb mb x kb ns n F m S) (hk : S.k < 1000000) (c : Int) (t : Txx) (ht : t.Ok) (hc : I c) (ha : t.asset = 0 ∨ t.asset = 1) (hK : t.kind = 5) :
    Calls Tryz.prog 167 #[.pointer (some ⟨l, 0, none⟩), .int .i64 c, txv t] wr fun e w' => ActR w wr l ab s fb mb x kb ns n F m (lAct n S c t) e w' := by
  have e : lAct n S c t = lNow n S c t := by unfold lAct; simp [hK]
  rw [e]
  exact now_any h hk c t ht hc
theorem actK6 {w wr : World} {l ab s fb mb x kb ns n : Nat} {F : List Nat} {m : Nat} {S : LS} (h : Led w wr l ab s fb mb x kb ns n F m S) (hk : S.k < 1000000) (c : Int) (t : Txx) (ht : t.Ok) (hc : I c) (ha : t.asset = 0 ∨ t.asset = 1) (hK : t.kind = 6) :
    Calls Tryz.prog 168 #[.pointer (some ⟨l, 0, none⟩), .int .i64 c, txv t] wr fun e w' => ActR w wr l ab s fb mb x kb ns n F m (lAct n S c t) e w' := by
  have e : lAct n S c t = lCan n S c t := by unfold lAct; simp [hK]
  rw [e]
  exact can_any h hk c t ht
theorem stoR_blk {w : World} {g : Nat} (h : Blk w g 46 [.int .i64 0, .int .u64 0, .int .i64 0, .slice none 0 0]) (c p i : Int) (a : Option Addr) (n k : Nat) : Blk (stoR w g c p i a n k) g 46 [.int .i64 c, .int .u64 p, .int .i64 i, .slice a n k] := (((h.set 0 _).set 1 _).set 2 _).set 3 _
set_option maxRecDepth 100000 in
set_option maxHeartbeats 8000000 in
theorem done_any {w wr : World} {l ab s fb mb x kb ns n : Nat} {F : List Nat} {m : Nat} {S : LS} (h : Led w wr l ab s fb mb x kb ns n F m S) (hk : S.k < 1000000) (e : Ent) (he : e.Ok) :
    Calls Tryz.prog 75 #[.pointer (some ⟨l, 0, none⟩), ev e] wr fun y w' => ActR w wr l ab s fb mb x kb ns n F m (lDone n S e) y w' := by
  obtain ⟨i1, i2, i3, i4⟩ := he
  have HKB := Lib.hid hk
  have HTX := Lib.hid i4
  clear hk i4
  have hC : Chg [] wr ((wr.alloc (.cells #[.int .i64 e.client, .int .u64 e.nonce, .int .u64 e.fee, .bool e.good, .int .i64 e.tx.kind, .int .i64 e.tx.asset, .int .i64 e.tx.dst, .bool e.tx.buy, .int .u64 e.tx.price, .int .u64 e.tx.qty, .int .i64 e.tx.id] 51)).alloc (.cells #[.int .i64 0, .int .u64 0, .int .i64 0, .slice none 0 0] 46)) := ((Chg.refl _ _).alloc _).alloc _
  have h1 := h.to hC
  have hT : Blk ((wr.alloc (.cells #[.int .i64 e.client, .int .u64 e.nonce, .int .u64 e.fee, .bool e.good, .int .i64 e.tx.kind, .int .i64 e.tx.asset, .int .i64 e.tx.dst, .bool e.tx.buy, .int .u64 e.tx.price, .int .u64 e.tx.qty, .int .i64 e.tx.id] 51)).alloc (.cells #[.int .i64 0, .int .u64 0, .int .i64 0, .slice none 0 0] 46)) wr.heap.size 51 (ec e) := (Blk.new wr (ec e) 51).alloc _
  have hR : Blk ((wr.alloc (.cells #[.int .i64 e.client, .int .u64 e.nonce, .int .u64 e.fee, .bool e.good, .int .i64 e.tx.kind, .int .i64 e.tx.asset, .int .i64 e.tx.dst, .bool e.tx.buy, .int .u64 e.tx.price, .int .u64 e.tx.qty, .int .i64 e.tx.id] 51)).alloc (.cells #[.int .i64 0, .int .u64 0, .int .i64 0, .slice none 0 0] 46)) (wr.heap.size + 1) 46 [.int .i64 0, .int .u64 0, .int .i64 0, .slice none 0 0] := by
    have := Blk.new (wr.alloc (.cells #[.int .i64 e.client, .int .u64 e.nonce, .int .u64 e.fee, .bool e.good, .int .i64 e.tx.kind, .int .i64 e.tx.asset, .int .i64 e.tx.dst, .bool e.tx.buy, .int .u64 e.tx.price, .int .u64 e.tx.qty, .int .i64 e.tx.id] 51)) [.int .i64 0, .int .u64 0, .int .i64 0, .slice none 0 0] 46
    rwa [World.size_alloc] at this
  have HC := Lib.hid hC
  have o1 := Lib.hid (h.old (z := wr.heap.size + 1) (by omega))
  have o0 := Lib.hid (h.old (z := wr.heap.size) (by omega))
  have hgl : wr.heap.size + 1 < ((wr.alloc (.cells #[.int .i64 e.client, .int .u64 e.nonce, .int .u64 e.fee, .bool e.good, .int .i64 e.tx.kind, .int .i64 e.tx.asset, .int .i64 e.tx.dst, .bool e.tx.buy, .int .u64 e.tx.price, .int .u64 e.tx.qty, .int .i64 e.tx.id] 51)).alloc (.cells #[.int .i64 0, .int .u64 0, .int .i64 0, .slice none 0 0] 46)).heap.size := hR.lt
  have HW0 : Hid (∀ z, z = wr.heap.size + 1 → wr.heap.size ≤ z) := fun z e => by omega
  clear h hC
  go_enter Tryz.func75, Tryz.ntmps75
  go_upto_region 1 with (fail)
  generalize hgg : wr.heap.size + 1 = g1 at *
  generalize hg0 : wr.heap.size = ge at *
  generalize (wr.alloc _).alloc _ = W at *
  have HGG := Lib.hid hgg
  have HG0 := Lib.hid hg0
  clear hgg
  have HW1 : Hid (wr.heap.size ≤ g1) := by show wr.heap.size ≤ g1; rw [HG0.out]; exact HW0.out g1 rfl
  obtain ⟨hh, hh0⟩ : ∃ z, aHas n e.client = z := ⟨_, rfl⟩
  have HH0 := Lib.hid hh0
  have y0 := hT.at (i := 0) rfl
  obtain ⟨cap, _, _, hd⟩ := h1.hd
  have d0 := hd.at (i := 0) rfl
  go_still_tail 6, (by kernel_rfl)
  change wpList _ _ _ _ _ W.drew
  have h2 := h1.to (Chg.refl [] W).drew
  have hT2 := hT.drew
  have hR2 := hR.drew
  have C2 := Lib.hid HC.out.drew
  clear y0 d0 h1 hT hR HC hd
  generalize W.drew = W2 at *
  cases hh
  · have HEQ : Hid (lDone n S e = (S, no 1)) := by show _ = _; unfold lDone; rw [HH0.out]; rfl
    clear hh0
    go_wp2_with fail
    refine (has_is h2.ex.a e.client false HH0.out).mono ?_
    rintro y w6 ⟨rfl, rfl⟩
    have r0 := hR2.at (i := 0) rfl
    have f0 := hR2.free 0
    have r1 := hR2.at (i := 1) rfl
    have f1 := hR2.free 1
    have r2 := hR2.at (i := 2) rfl
    have f2 := hR2.free 2
    have r3 := hR2.at (i := 3) rfl
    have f3 := hR2.free 3
    have hz := h2.fresh (stoR_chg (Chg.refl [g1] W2) g1 1 0 0 none 0 0 (.inl (by simp))) o1.out
    have hcz := stoR_chg C2.out g1 1 0 0 none 0 0 (.inr (HW1.out))
    go_wp2_with fail
    exact bodyPost_ret (v := rcv (no 1) none 0 0) (by simp [results, Tryz.results75, go_sem, r0, r1, r2, r3, rcv, no]) rfl (by rw [HEQ.out]; exact ActR.of hz hcz (by simp))
  · obtain ⟨k, hck, hkn⟩ := aHas_nat hh0
    have HCK := Lib.hid hck
    have HIC : Hid (I (k : Int)) := by rw [← hck]; exact i1
    clear hh0 hck
    go_wp2_with fail
    refine (has_is h2.ex.a e.client true HH0.out).mono ?_
    rintro y w6 ⟨rfl, rfl⟩
    cases hgd : e.good
    · have HEQ : Hid (lDone n S e = (S, no 2)) := by show _ = _; unfold lDone; rw [HH0.out, hgd]; rfl
      have y3 : W2.cell? ⟨ge, 3, none⟩ = some (.bool false) := by rw [← hgd]; exact hT2.at (i := 3) rfl
      clear hgd
      have r0 := hR2.at (i := 0) rfl
      have f0 := hR2.free 0
      have r1 := hR2.at (i := 1) rfl
      have f1 := hR2.free 1
      have r2 := hR2.at (i := 2) rfl
      have f2 := hR2.free 2
      have r3 := hR2.at (i := 3) rfl
      have f3 := hR2.free 3
      have hz := h2.fresh (stoR_chg (Chg.refl [g1] W2) g1 2 0 0 none 0 0 (.inl (by simp))) o1.out
      have hcz := stoR_chg C2.out g1 2 0 0 none 0 0 (.inr (HW1.out))
      go_wp2_with fail
      exact bodyPost_ret (v := rcv (no 2) none 0 0) (by simp [results, Tryz.results75, go_sem, r0, r1, r2, r3, rcv, no]) rfl (by rw [HEQ.out]; exact ActR.of hz hcz (by simp))
    · have y3 : W2.cell? ⟨ge, 3, none⟩ = some (.bool true) := by rw [← hgd]; exact hT2.at (i := 3) rfl
      have HGD := Lib.hid hgd
      clear hgd
      have y4 := hT2.at (i := 4) rfl
      have y5 := hT2.at (i := 5) rfl
      have y6 := hT2.at (i := 6) rfl
      have y7 := hT2.at (i := 7) rfl
      have y8 := hT2.at (i := 8) rfl
      have y9 := hT2.at (i := 9) rfl
      have y10 := hT2.at (i := 10) rfl
      obtain ⟨ok, hok⟩ : ∃ z, txOk e.tx = z := ⟨_, rfl⟩
      have HOK := Lib.hid hok
      clear hok
      go_wp2_with fail
      refine (txok_any e.tx W2).mono ?_
      rw [HOK.out]
      rintro y w3 ⟨rfl, c3⟩
      have h3 := h2.to c3
      have hT3 := hT2.chg c3 (by simp)
      have hR3 := hR2.chg c3 (by simp)
      have C3 := Lib.hid (C2.out.trans c3)
      clear h2 hT2 hR2 C2 c3 y3 y4 y5 y6 y7 y8 y9 y10
      cases ok
      · have HEQ : Hid (lDone n S e = (S, no 2)) := by show _ = _; unfold lDone; rw [HH0.out, HGD.out, HOK.out]; rfl
        have r0 := hR3.at (i := 0) rfl
        have f0 := hR3.free 0
        have r1 := hR3.at (i := 1) rfl
        have f1 := hR3.free 1
        have r2 := hR3.at (i := 2) rfl
        have f2 := hR3.free 2
        have r3 := hR3.at (i := 3) rfl
        have f3 := hR3.free 3
        have hz := h3.fresh (stoR_chg (Chg.refl [g1] w3) g1 2 0 0 none 0 0 (.inl (by simp))) o1.out
        have hcz := stoR_chg C3.out g1 2 0 0 none 0 0 (.inr (HW1.out))
        go_wp2_with fail
        exact bodyPost_ret (v := rcv (no 2) none 0 0) (by simp [results, Tryz.results75, go_sem, r0, r1, r2, r3, rcv, no]) rfl (by rw [HEQ.out]; exact ActR.of hz hcz (by simp))
      · obtain ⟨v, hv⟩ : ∃ z, lNx S e.client = z := ⟨_, rfl⟩
        have hvk : (S.nx.map (Value.int .u64))[k]? = some (.int .u64 v) := by
          have hkl : k < S.nx.length := by rw [h3.nl]; exact hkn
          rw [← hv]
          unfold lNx
          rw [HCK.out]
          simp [List.getD, hkl]
        have hvU : U v := by
          have := List.mem_of_getElem? hvk
          simp at this
          exact h3.nu _ this
        have HVU := Lib.hid hvU
        have hnc := h3.nx.at hvk
        have y0 : w3.cell? ⟨ge, 0, none⟩ = some (.int .i64 (k : Int)) := by rw [← HCK.out]; exact hT3.at (i := 0) rfl
        have y1 := hT3.at (i := 1) rfl
        obtain ⟨cap3, hcap3, hcap4, hd3⟩ := h3.hd
        have d3 := hd3.at (i := 3) rfl
        have hkI : (0 : Int) ≤ (k : Int) ∧ (k : Int) < (n : Int) := ⟨by omega, by omega⟩
        obtain ⟨hk1, hk2⟩ := hkI
        by_cases hne : e.nonce = v
        · have db : (e.nonce != v) = false := by simp [hne]
          have HEQ2 : Hid (lDone n S e = lAct n ({ S with nx := S.nx.set k (uW (v + 1)) }) (k : Int) e.tx) := by
            show _ = _
            unfold lDone
            have hv2 : lNx S (k : Int) = v := by rw [← HCK.out]; exact hv
            rw [HH0.out, HGD.out, HOK.out]
            simp only [HCK.out, hv2, hne]
            simp
          have HV := Lib.hid hv
          have hTX := HOK.out
          have hkd : 1 ≤ e.tx.kind ∧ e.tx.kind ≤ 6 := by
            unfold txOk txK at hTX
            simp at hTX
            exact hTX.1.1.1.1
          have HAX : Hid (e.tx.asset = 0 ∨ e.tx.asset = 1) := by
            show _ ∨ _
            unfold txOk tIn at hTX
            simp at hTX
            have := hTX.1.1.2
            omega
          have HKD := Lib.hid hkd
          clear hne hv hkd hTX hvk
          go_upto_region 5 with (fail)
          go_quiet (fail)
          have h4 := h3.to ((Chg.refl [] _).drewN nq)
          have hT4 := hT3.chg ((Chg.refl [] _).drewN nq) (by simp)
          have hR4 := hR3.chg ((Chg.refl [] _).drewN nq) (by simp)
          have hd4 := hd3.chg ((Chg.refl [] _).drewN nq) (by simp)
          have C4 := Lib.hid (C3.out.drewN nq)
          have hvk : (S.nx.map (Value.int .u64))[k]? = some (.int .u64 v) := by
            have hkl : k < S.nx.length := by rw [h4.nl]; exact hkn
            rw [← HV.out]
            unfold lNx
            rw [HCK.out]
            simp [List.getD, hkl]
          clear y0 y1 d3 hnc h3 hT3 hR3 hd3 C3
          generalize w3.drewN nq = W4 at *
          have hnc := h4.nx.at hvk
          have hnf := h4.nx.free k
          have HVK := Lib.hid hvk
          clear hvk
          have y0 : W4.cell? ⟨ge, 0, none⟩ = some (.int .i64 (k : Int)) := by rw [← HCK.out]; exact hT4.at (i := 0) rfl
          have d3 := hd4.at (i := 3) rfl
          have wq := uW_wrap (v + 1)
          go_upto_region 7 with (fail)
          go_still_tail 10, (by kernel_rfl)
          change wpList _ _ _ _ _ W4.drew
          have h5 := h4.to (Chg.refl [] W4).drew
          have hT5 := hT4.drew
          have hR5 := hR4.drew
          have C5 := Lib.hid C4.out.drew
          clear y0 d3 hnc hnf h4 hT4 hR4 hd4 C4
          generalize W4.drew = W5 at *
          have hnc := h5.nx.at HVK.out
          have hnf := h5.nx.free k
          go_upto_region 8 with (fail)
          have cs : Chg [ns] W5 (W5.setCell ⟨ns, k, none⟩ (.int .u64 (uW (v + 1)))) := (Chg.refl _ _).setCell _ _ (by simp)
          have h6 : Led w (W5.setCell ⟨ns, k, none⟩ (.int .u64 (uW (v + 1)))) l ab s fb mb x kb ns n F m ({ S with nx := S.nx.set k (uW (v + 1)) }) := by
            refine h5.next k (uW (v + 1)) (uW_U _) ?_ cs
            rw [List.map_set]
            exact Beg.set h5.nx k _ (by simp [h5.nl]; omega)
          have hT6 := hT5.chg cs (by simp; exact o0.out.ns)
          have hR6 := hR5.chg cs (by simp; exact o1.out.ns)
          have C6 := Lib.hid ((C5.out.mono (R := l :: ns :: x :: s :: F) (by simp)).trans (cs.mono (by simp)))
          clear h5 hT5 hR5 C5 hnc hnf cs wq
          generalize W5.setCell _ _ = V at *
          rcases (by have := HKD.out; omega : e.tx.kind = 1 ∨ e.tx.kind = 2 ∨ e.tx.kind = 3 ∨ e.tx.kind = 4 ∨ e.tx.kind = 5 ∨ e.tx.kind = 6) with hK | hK | hK | hK | hK | hK
          · have hK : e.tx.kind = 1 := hK
            obtain ⟨S', r, hr⟩ : ∃ S' r, lAct n ({ S with nx := S.nx.set k (uW (v + 1)) }) (k : Int) e.tx = (S', r) := ⟨_, _, rfl⟩
            have HR := Lib.hid hr
            obtain ⟨nT, hnT⟩ : ∃ j, r.T.length = j := ⟨_, rfl⟩
            have HNT := Lib.hid hnT
            have HM : Calls Tryz.prog 163 #[.pointer (some ⟨l, 0, none⟩), .int .i64 (k : Int), .agg #[.int .i64 1, .int .i64 e.tx.asset, .int .i64 e.tx.dst, .bool e.tx.buy, .int .u64 e.tx.price, .int .u64 e.tx.qty, .int .i64 e.tx.id]] V.drew fun y w' => ∃ a d, y = .returned (rcv r a nT d) ∧ (fun a d w' => ∃ F', NewF tc w' V.drew.heap.size 99 a r.T ∧ Led w w' l ab s fb mb x kb ns n F' m S' ∧ Chg (l :: ns :: x :: s :: F) wr w' ∧ Grw V.drew.heap.size F F' ∧ Blk w' ge 51 (ec e) ∧ Blk w' g1 46 [.int .i64 0, .int .u64 0, .int .i64 0, .slice none 0 0] ∧ g1 < w'.heap.size) a d w' := by
              have hD : Chg [] V V.drew := (Chg.refl [] V).drew
              have hx := actK1 (h6.to hD) HKB.out (k : Int) e.tx HTX.out HIC.out HAX.out hK
              unfold txv at hx
              rw [hK, hr] at hx
              refine hx.mono ?_
              rintro y w6 ⟨a6, d6, F6, hy, hN6, h7, c6, gr6⟩
              rw [hnT] at hy
              have hZ : g1 < V.drew.heap.size := hR6.lt
              have n0 : ge ∉ l :: ns :: x :: s :: F := by simp; exact ⟨o0.out.l, o0.out.ns, o0.out.x, o0.out.s, o0.out.f⟩
              have n1 : g1 ∉ l :: ns :: x :: s :: F := by simp; exact ⟨o1.out.l, o1.out.ns, o1.out.x, o1.out.s, o1.out.f⟩
              exact ⟨a6, d6, hy, F6, hN6, h7, (C6.out.drew).trans c6, gr6, (hT6.chg hD (by simp)).chg c6 n0, (hR6.chg hD (by simp)).chg c6 n1, Nat.lt_of_lt_of_le hZ c6.size⟩
            have hgV : g1 < V.drew.heap.size := hR6.lt
            have hgs : ge < g1 := by have := HGG.out; omega
            have hng : ge ≠ g1 := by omega
            refine done_reg1 (r := r) (t := e.tx) (by intro c a d v w h; cases d <;> exact h) HM ?_ ?_ ?_ (hT6.at (i := 0) (by rw [← HCK.out]; rfl)) (hT6.at (i := 4) (by rw [← hK]; rfl)) (hT6.at (i := 5) rfl) (hT6.at (i := 6) rfl) (hT6.at (i := 7) rfl) (hT6.at (i := 8) rfl) (hT6.at (i := 9) rfl) (hT6.at (i := 10) rfl) ?_
            · rintro a d w' ⟨F', hw⟩
              have hb := hw.2.2.2.2.1
              exact ⟨hb.at (i := 0) (by rw [← HCK.out]; rfl), hb.at (i := 4) (by rw [← hK]; rfl), hb.at (i := 5) rfl, hb.at (i := 6) rfl, hb.at (i := 7) rfl, hb.at (i := 8) rfl, hb.at (i := 9) rfl, hb.at (i := 10) rfl⟩
            · rintro a d w' ⟨F', hw⟩
              have hb := hw.2.2.2.2.1.chg (stoR_chg (Chg.refl [g1] w') g1 r.code r.paid r.id a nT d (.inl (by simp))) (by simpa using hng)
              exact ⟨hb.at (i := 0) (by rw [← HCK.out]; rfl), hb.at (i := 4) (by rw [← hK]; rfl), hb.at (i := 5) rfl, hb.at (i := 6) rfl, hb.at (i := 7) rfl, hb.at (i := 8) rfl, hb.at (i := 9) rfl, hb.at (i := 10) rfl⟩
            · rintro a d w' ⟨F', hw⟩
              have hb := hw.2.2.2.2.2.1
              exact ⟨hb.at (i := 0) rfl, hb.at (i := 1) rfl, hb.at (i := 2) rfl, hb.at (i := 3) rfl, hb.free 0, hb.free 1, hb.free 2, hb.free 3⟩
            · rintro a3 d3 w3 ⟨F', hN3, h3, c3, g3, hT3, hR3, hg3⟩
              intros
              clear HM hr hnT h6 hT6 hR6 C6
              have hL3 := Lib.hid (Lfar.grow o1.out g3 hgV)
              have hg4 : Hid (Grw ge F F') := fun z hz => (g3 z hz).imp id fun e => by omega
              have hz := h3.fresh (stoR_chg (Chg.refl [g1] w3) g1 r.code r.paid r.id a3 nT d3 (.inl (by simp))) hL3.out
              have hcz := stoR_chg c3 g1 r.code r.paid r.id a3 nT d3 (.inr HW1.out)
              have hNz := hN3.chg (stoR_chg (Chg.refl [g1] w3) g1 r.code r.paid r.id a3 nT d3 (.inl (by simp))) (by simp; exact hgV) |>.mono (D := ge) (by omega)
              have hb := stoR_blk hR3 r.code r.paid r.id a3 nT d3
              have r0 := hb.at (i := 0) rfl
              have r1 := hb.at (i := 1) rfl
              have r2 := hb.at (i := 2) rfl
              have r3 := hb.at (i := 3) rfl
              clear hR3 hT3 h3 c3 hN3 hb
              generalize stoR _ _ _ _ _ _ _ _ = W9 at *
              go_wp2_with fail
              exact bodyPost_ret (v := rcv r a3 nT d3) (by simp [results, Tryz.results75, go_sem, r0, r1, r2, r3, rcv]) rfl (by rw [HEQ2.out, HR.out]; exact ⟨a3, d3, F', by rw [HNT.out], by rw [HG0.out]; exact hNz, hz, hcz, by rw [HG0.out]; exact hg4.out⟩)
          · have hK : e.tx.kind = 2 := hK
            obtain ⟨S', r, hr⟩ : ∃ S' r, lAct n ({ S with nx := S.nx.set k (uW (v + 1)) }) (k : Int) e.tx = (S', r) := ⟨_, _, rfl⟩
            have HR := Lib.hid hr
            obtain ⟨nT, hnT⟩ : ∃ j, r.T.length = j := ⟨_, rfl⟩
            have HNT := Lib.hid hnT
            have HM : Calls Tryz.prog 164 #[.pointer (some ⟨l, 0, none⟩), .int .i64 (k : Int), .agg #[.int .i64 2, .int .i64 e.tx.asset, .int .i64 e.tx.dst, .bool e.tx.buy, .int .u64 e.tx.price, .int .u64 e.tx.qty, .int .i64 e.tx.id]] V.drew fun y w' => ∃ a d, y = .returned (rcv r a nT d) ∧ (fun a d w' => ∃ F', NewF tc w' V.drew.heap.size 99 a r.T ∧ Led w w' l ab s fb mb x kb ns n F' m S' ∧ Chg (l :: ns :: x :: s :: F) wr w' ∧ Grw V.drew.heap.size F F' ∧ Blk w' ge 51 (ec e) ∧ Blk w' g1 46 [.int .i64 0, .int .u64 0, .int .i64 0, .slice none 0 0] ∧ g1 < w'.heap.size) a d w' := by
              have hD : Chg [] V V.drew := (Chg.refl [] V).drew
              have hx := actK2 (h6.to hD) HKB.out (k : Int) e.tx HTX.out HIC.out HAX.out hK
              unfold txv at hx
              rw [hK, hr] at hx
              refine hx.mono ?_
              rintro y w6 ⟨a6, d6, F6, hy, hN6, h7, c6, gr6⟩
              rw [hnT] at hy
              have hZ : g1 < V.drew.heap.size := hR6.lt
              have n0 : ge ∉ l :: ns :: x :: s :: F := by simp; exact ⟨o0.out.l, o0.out.ns, o0.out.x, o0.out.s, o0.out.f⟩
              have n1 : g1 ∉ l :: ns :: x :: s :: F := by simp; exact ⟨o1.out.l, o1.out.ns, o1.out.x, o1.out.s, o1.out.f⟩
              exact ⟨a6, d6, hy, F6, hN6, h7, (C6.out.drew).trans c6, gr6, (hT6.chg hD (by simp)).chg c6 n0, (hR6.chg hD (by simp)).chg c6 n1, Nat.lt_of_lt_of_le hZ c6.size⟩
            have hgV : g1 < V.drew.heap.size := hR6.lt
            have hgs : ge < g1 := by have := HGG.out; omega
            have hng : ge ≠ g1 := by omega
            refine done_reg2 (r := r) (t := e.tx) (by intro c a d v w h; cases d <;> exact h) HM ?_ ?_ ?_ (hT6.at (i := 0) (by rw [← HCK.out]; rfl)) (hT6.at (i := 4) (by rw [← hK]; rfl)) (hT6.at (i := 5) rfl) (hT6.at (i := 6) rfl) (hT6.at (i := 7) rfl) (hT6.at (i := 8) rfl) (hT6.at (i := 9) rfl) (hT6.at (i := 10) rfl) ?_
            · rintro a d w' ⟨F', hw⟩
              have hb := hw.2.2.2.2.1
              exact ⟨hb.at (i := 0) (by rw [← HCK.out]; rfl), hb.at (i := 4) (by rw [← hK]; rfl), hb.at (i := 5) rfl, hb.at (i := 6) rfl, hb.at (i := 7) rfl, hb.at (i := 8) rfl, hb.at (i := 9) rfl, hb.at (i := 10) rfl⟩
            · rintro a d w' ⟨F', hw⟩
              have hb := hw.2.2.2.2.1.chg (stoR_chg (Chg.refl [g1] w') g1 r.code r.paid r.id a nT d (.inl (by simp))) (by simpa using hng)
              exact ⟨hb.at (i := 0) (by rw [← HCK.out]; rfl), hb.at (i := 4) (by rw [← hK]; rfl), hb.at (i := 5) rfl, hb.at (i := 6) rfl, hb.at (i := 7) rfl, hb.at (i := 8) rfl, hb.at (i := 9) rfl, hb.at (i := 10) rfl⟩
            · rintro a d w' ⟨F', hw⟩
              have hb := hw.2.2.2.2.2.1
              exact ⟨hb.at (i := 0) rfl, hb.at (i := 1) rfl, hb.at (i := 2) rfl, hb.at (i := 3) rfl, hb.free 0, hb.free 1, hb.free 2, hb.free 3⟩
            · rintro a3 d3 w3 ⟨F', hN3, h3, c3, g3, hT3, hR3, hg3⟩
              intros
              clear HM hr hnT h6 hT6 hR6 C6
              have hL3 := Lib.hid (Lfar.grow o1.out g3 hgV)
              have hg4 : Hid (Grw ge F F') := fun z hz => (g3 z hz).imp id fun e => by omega
              have hz := h3.fresh (stoR_chg (Chg.refl [g1] w3) g1 r.code r.paid r.id a3 nT d3 (.inl (by simp))) hL3.out
              have hcz := stoR_chg c3 g1 r.code r.paid r.id a3 nT d3 (.inr HW1.out)
              have hNz := hN3.chg (stoR_chg (Chg.refl [g1] w3) g1 r.code r.paid r.id a3 nT d3 (.inl (by simp))) (by simp; exact hgV) |>.mono (D := ge) (by omega)
              have hb := stoR_blk hR3 r.code r.paid r.id a3 nT d3
              have r0 := hb.at (i := 0) rfl
              have r1 := hb.at (i := 1) rfl
              have r2 := hb.at (i := 2) rfl
              have r3 := hb.at (i := 3) rfl
              clear hR3 hT3 h3 c3 hN3 hb
              generalize stoR _ _ _ _ _ _ _ _ = W9 at *
              go_wp2_with fail
              exact bodyPost_ret (v := rcv r a3 nT d3) (by simp [results, Tryz.results75, go_sem, r0, r1, r2, r3, rcv]) rfl (by rw [HEQ2.out, HR.out]; exact ⟨a3, d3, F', by rw [HNT.out], by rw [HG0.out]; exact hNz, hz, hcz, by rw [HG0.out]; exact hg4.out⟩)
          · have hK : e.tx.kind = 3 := hK
            obtain ⟨S', r, hr⟩ : ∃ S' r, lAct n ({ S with nx := S.nx.set k (uW (v + 1)) }) (k : Int) e.tx = (S', r) := ⟨_, _, rfl⟩
            have HR := Lib.hid hr
            obtain ⟨nT, hnT⟩ : ∃ j, r.T.length = j := ⟨_, rfl⟩
            have HNT := Lib.hid hnT
            have HM : Calls Tryz.prog 165 #[.pointer (some ⟨l, 0, none⟩), .int .i64 (k : Int), .agg #[.int .i64 3, .int .i64 e.tx.asset, .int .i64 e.tx.dst, .bool e.tx.buy, .int .u64 e.tx.price, .int .u64 e.tx.qty, .int .i64 e.tx.id]] V.drew fun y w' => ∃ a d, y = .returned (rcv r a nT d) ∧ (fun a d w' => ∃ F', NewF tc w' V.drew.heap.size 99 a r.T ∧ Led w w' l ab s fb mb x kb ns n F' m S' ∧ Chg (l :: ns :: x :: s :: F) wr w' ∧ Grw V.drew.heap.size F F' ∧ Blk w' ge 51 (ec e) ∧ Blk w' g1 46 [.int .i64 0, .int .u64 0, .int .i64 0, .slice none 0 0] ∧ g1 < w'.heap.size) a d w' := by
              have hD : Chg [] V V.drew := (Chg.refl [] V).drew
              have hx := actK3 (h6.to hD) HKB.out (k : Int) e.tx HTX.out HIC.out HAX.out hK
              unfold txv at hx
              rw [hK, hr] at hx
              refine hx.mono ?_
              rintro y w6 ⟨a6, d6, F6, hy, hN6, h7, c6, gr6⟩
              rw [hnT] at hy
              have hZ : g1 < V.drew.heap.size := hR6.lt
              have n0 : ge ∉ l :: ns :: x :: s :: F := by simp; exact ⟨o0.out.l, o0.out.ns, o0.out.x, o0.out.s, o0.out.f⟩
              have n1 : g1 ∉ l :: ns :: x :: s :: F := by simp; exact ⟨o1.out.l, o1.out.ns, o1.out.x, o1.out.s, o1.out.f⟩
              exact ⟨a6, d6, hy, F6, hN6, h7, (C6.out.drew).trans c6, gr6, (hT6.chg hD (by simp)).chg c6 n0, (hR6.chg hD (by simp)).chg c6 n1, Nat.lt_of_lt_of_le hZ c6.size⟩
            have hgV : g1 < V.drew.heap.size := hR6.lt
            have hgs : ge < g1 := by have := HGG.out; omega
            have hng : ge ≠ g1 := by omega
            refine done_reg3 (r := r) (t := e.tx) (by intro c a d v w h; cases d <;> exact h) HM ?_ ?_ ?_ (hT6.at (i := 0) (by rw [← HCK.out]; rfl)) (hT6.at (i := 4) (by rw [← hK]; rfl)) (hT6.at (i := 5) rfl) (hT6.at (i := 6) rfl) (hT6.at (i := 7) rfl) (hT6.at (i := 8) rfl) (hT6.at (i := 9) rfl) (hT6.at (i := 10) rfl) ?_
            · rintro a d w' ⟨F', hw⟩
              have hb := hw.2.2.2.2.1
              exact ⟨hb.at (i := 0) (by rw [← HCK.out]; rfl), hb.at (i := 4) (by rw [← hK]; rfl), hb.at (i := 5) rfl, hb.at (i := 6) rfl, hb.at (i := 7) rfl, hb.at (i := 8) rfl, hb.at (i := 9) rfl, hb.at (i := 10) rfl⟩
            · rintro a d w' ⟨F', hw⟩
              have hb := hw.2.2.2.2.1.chg (stoR_chg (Chg.refl [g1] w') g1 r.code r.paid r.id a nT d (.inl (by simp))) (by simpa using hng)
              exact ⟨hb.at (i := 0) (by rw [← HCK.out]; rfl), hb.at (i := 4) (by rw [← hK]; rfl), hb.at (i := 5) rfl, hb.at (i := 6) rfl, hb.at (i := 7) rfl, hb.at (i := 8) rfl, hb.at (i := 9) rfl, hb.at (i := 10) rfl⟩
            · rintro a d w' ⟨F', hw⟩
              have hb := hw.2.2.2.2.2.1
              exact ⟨hb.at (i := 0) rfl, hb.at (i := 1) rfl, hb.at (i := 2) rfl, hb.at (i := 3) rfl, hb.free 0, hb.free 1, hb.free 2, hb.free 3⟩
            · rintro a3 d3 w3 ⟨F', hN3, h3, c3, g3, hT3, hR3, hg3⟩
              intros
              clear HM hr hnT h6 hT6 hR6 C6
              have hL3 := Lib.hid (Lfar.grow o1.out g3 hgV)
              have hg4 : Hid (Grw ge F F') := fun z hz => (g3 z hz).imp id fun e => by omega
              have hz := h3.fresh (stoR_chg (Chg.refl [g1] w3) g1 r.code r.paid r.id a3 nT d3 (.inl (by simp))) hL3.out
              have hcz := stoR_chg c3 g1 r.code r.paid r.id a3 nT d3 (.inr HW1.out)
              have hNz := hN3.chg (stoR_chg (Chg.refl [g1] w3) g1 r.code r.paid r.id a3 nT d3 (.inl (by simp))) (by simp; exact hgV) |>.mono (D := ge) (by omega)
              have hb := stoR_blk hR3 r.code r.paid r.id a3 nT d3
              have r0 := hb.at (i := 0) rfl
              have r1 := hb.at (i := 1) rfl
              have r2 := hb.at (i := 2) rfl
              have r3 := hb.at (i := 3) rfl
              clear hR3 hT3 h3 c3 hN3 hb
              generalize stoR _ _ _ _ _ _ _ _ = W9 at *
              go_wp2_with fail
              exact bodyPost_ret (v := rcv r a3 nT d3) (by simp [results, Tryz.results75, go_sem, r0, r1, r2, r3, rcv]) rfl (by rw [HEQ2.out, HR.out]; exact ⟨a3, d3, F', by rw [HNT.out], by rw [HG0.out]; exact hNz, hz, hcz, by rw [HG0.out]; exact hg4.out⟩)
          · have hK : e.tx.kind = 4 := hK
            obtain ⟨S', r, hr⟩ : ∃ S' r, lAct n ({ S with nx := S.nx.set k (uW (v + 1)) }) (k : Int) e.tx = (S', r) := ⟨_, _, rfl⟩
            have HR := Lib.hid hr
            obtain ⟨nT, hnT⟩ : ∃ j, r.T.length = j := ⟨_, rfl⟩
            have HNT := Lib.hid hnT
            have HM : Calls Tryz.prog 166 #[.pointer (some ⟨l, 0, none⟩), .int .i64 (k : Int), .agg #[.int .i64 4, .int .i64 e.tx.asset, .int .i64 e.tx.dst, .bool e.tx.buy, .int .u64 e.tx.price, .int .u64 e.tx.qty, .int .i64 e.tx.id]] V.drew fun y w' => ∃ a d, y = .returned (rcv r a nT d) ∧ (fun a d w' => ∃ F', NewF tc w' V.drew.heap.size 99 a r.T ∧ Led w w' l ab s fb mb x kb ns n F' m S' ∧ Chg (l :: ns :: x :: s :: F) wr w' ∧ Grw V.drew.heap.size F F' ∧ Blk w' ge 51 (ec e) ∧ Blk w' g1 46 [.int .i64 0, .int .u64 0, .int .i64 0, .slice none 0 0] ∧ g1 < w'.heap.size) a d w' := by
              have hD : Chg [] V V.drew := (Chg.refl [] V).drew
              have hx := actK4 (h6.to hD) HKB.out (k : Int) e.tx HTX.out HIC.out HAX.out hK
              unfold txv at hx
              rw [hK, hr] at hx
              refine hx.mono ?_
              rintro y w6 ⟨a6, d6, F6, hy, hN6, h7, c6, gr6⟩
              rw [hnT] at hy
              have hZ : g1 < V.drew.heap.size := hR6.lt
              have n0 : ge ∉ l :: ns :: x :: s :: F := by simp; exact ⟨o0.out.l, o0.out.ns, o0.out.x, o0.out.s, o0.out.f⟩
              have n1 : g1 ∉ l :: ns :: x :: s :: F := by simp; exact ⟨o1.out.l, o1.out.ns, o1.out.x, o1.out.s, o1.out.f⟩
              exact ⟨a6, d6, hy, F6, hN6, h7, (C6.out.drew).trans c6, gr6, (hT6.chg hD (by simp)).chg c6 n0, (hR6.chg hD (by simp)).chg c6 n1, Nat.lt_of_lt_of_le hZ c6.size⟩
            have hgV : g1 < V.drew.heap.size := hR6.lt
            have hgs : ge < g1 := by have := HGG.out; omega
            have hng : ge ≠ g1 := by omega
            refine done_reg4 (r := r) (t := e.tx) (by intro c a d v w h; cases d <;> exact h) HM ?_ ?_ ?_ (hT6.at (i := 0) (by rw [← HCK.out]; rfl)) (hT6.at (i := 4) (by rw [← hK]; rfl)) (hT6.at (i := 5) rfl) (hT6.at (i := 6) rfl) (hT6.at (i := 7) rfl) (hT6.at (i := 8) rfl) (hT6.at (i := 9) rfl) (hT6.at (i := 10) rfl) ?_
            · rintro a d w' ⟨F', hw⟩
              have hb := hw.2.2.2.2.1
              exact ⟨hb.at (i := 0) (by rw [← HCK.out]; rfl), hb.at (i := 4) (by rw [← hK]; rfl), hb.at (i := 5) rfl, hb.at (i := 6) rfl, hb.at (i := 7) rfl, hb.at (i := 8) rfl, hb.at (i := 9) rfl, hb.at (i := 10) rfl⟩
            · rintro a d w' ⟨F', hw⟩
              have hb := hw.2.2.2.2.1.chg (stoR_chg (Chg.refl [g1] w') g1 r.code r.paid r.id a nT d (.inl (by simp))) (by simpa using hng)
              exact ⟨hb.at (i := 0) (by rw [← HCK.out]; rfl), hb.at (i := 4) (by rw [← hK]; rfl), hb.at (i := 5) rfl, hb.at (i := 6) rfl, hb.at (i := 7) rfl, hb.at (i := 8) rfl, hb.at (i := 9) rfl, hb.at (i := 10) rfl⟩
            · rintro a d w' ⟨F', hw⟩
              have hb := hw.2.2.2.2.2.1
              exact ⟨hb.at (i := 0) rfl, hb.at (i := 1) rfl, hb.at (i := 2) rfl, hb.at (i := 3) rfl, hb.free 0, hb.free 1, hb.free 2, hb.free 3⟩
            · rintro a3 d3 w3 ⟨F', hN3, h3, c3, g3, hT3, hR3, hg3⟩
              intros
              clear HM hr hnT h6 hT6 hR6 C6
              have hL3 := Lib.hid (Lfar.grow o1.out g3 hgV)
              have hg4 : Hid (Grw ge F F') := fun z hz => (g3 z hz).imp id fun e => by omega
              have hz := h3.fresh (stoR_chg (Chg.refl [g1] w3) g1 r.code r.paid r.id a3 nT d3 (.inl (by simp))) hL3.out
              have hcz := stoR_chg c3 g1 r.code r.paid r.id a3 nT d3 (.inr HW1.out)
              have hNz := hN3.chg (stoR_chg (Chg.refl [g1] w3) g1 r.code r.paid r.id a3 nT d3 (.inl (by simp))) (by simp; exact hgV) |>.mono (D := ge) (by omega)
              have hb := stoR_blk hR3 r.code r.paid r.id a3 nT d3
              have r0 := hb.at (i := 0) rfl
              have r1 := hb.at (i := 1) rfl
              have r2 := hb.at (i := 2) rfl
              have r3 := hb.at (i := 3) rfl
              clear hR3 hT3 h3 c3 hN3 hb
              generalize stoR _ _ _ _ _ _ _ _ = W9 at *
              go_wp2_with fail
              exact bodyPost_ret (v := rcv r a3 nT d3) (by simp [results, Tryz.results75, go_sem, r0, r1, r2, r3, rcv]) rfl (by rw [HEQ2.out, HR.out]; exact ⟨a3, d3, F', by rw [HNT.out], by rw [HG0.out]; exact hNz, hz, hcz, by rw [HG0.out]; exact hg4.out⟩)
          · have hK : e.tx.kind = 5 := hK
            obtain ⟨S', r, hr⟩ : ∃ S' r, lAct n ({ S with nx := S.nx.set k (uW (v + 1)) }) (k : Int) e.tx = (S', r) := ⟨_, _, rfl⟩
            have HR := Lib.hid hr
            obtain ⟨nT, hnT⟩ : ∃ j, r.T.length = j := ⟨_, rfl⟩
            have HNT := Lib.hid hnT
            have HM : Calls Tryz.prog 167 #[.pointer (some ⟨l, 0, none⟩), .int .i64 (k : Int), .agg #[.int .i64 5, .int .i64 e.tx.asset, .int .i64 e.tx.dst, .bool e.tx.buy, .int .u64 e.tx.price, .int .u64 e.tx.qty, .int .i64 e.tx.id]] V.drew fun y w' => ∃ a d, y = .returned (rcv r a nT d) ∧ (fun a d w' => ∃ F', NewF tc w' V.drew.heap.size 99 a r.T ∧ Led w w' l ab s fb mb x kb ns n F' m S' ∧ Chg (l :: ns :: x :: s :: F) wr w' ∧ Grw V.drew.heap.size F F' ∧ Blk w' ge 51 (ec e) ∧ Blk w' g1 46 [.int .i64 0, .int .u64 0, .int .i64 0, .slice none 0 0] ∧ g1 < w'.heap.size) a d w' := by
              have hD : Chg [] V V.drew := (Chg.refl [] V).drew
              have hx := actK5 (h6.to hD) HKB.out (k : Int) e.tx HTX.out HIC.out HAX.out hK
              unfold txv at hx
              rw [hK, hr] at hx
              refine hx.mono ?_
              rintro y w6 ⟨a6, d6, F6, hy, hN6, h7, c6, gr6⟩
              rw [hnT] at hy
              have hZ : g1 < V.drew.heap.size := hR6.lt
              have n0 : ge ∉ l :: ns :: x :: s :: F := by simp; exact ⟨o0.out.l, o0.out.ns, o0.out.x, o0.out.s, o0.out.f⟩
              have n1 : g1 ∉ l :: ns :: x :: s :: F := by simp; exact ⟨o1.out.l, o1.out.ns, o1.out.x, o1.out.s, o1.out.f⟩
              exact ⟨a6, d6, hy, F6, hN6, h7, (C6.out.drew).trans c6, gr6, (hT6.chg hD (by simp)).chg c6 n0, (hR6.chg hD (by simp)).chg c6 n1, Nat.lt_of_lt_of_le hZ c6.size⟩
            have hgV : g1 < V.drew.heap.size := hR6.lt
            have hgs : ge < g1 := by have := HGG.out; omega
            have hng : ge ≠ g1 := by omega
            refine done_reg5 (r := r) (t := e.tx) (by intro c a d v w h; cases d <;> exact h) HM ?_ ?_ ?_ (hT6.at (i := 0) (by rw [← HCK.out]; rfl)) (hT6.at (i := 4) (by rw [← hK]; rfl)) (hT6.at (i := 5) rfl) (hT6.at (i := 6) rfl) (hT6.at (i := 7) rfl) (hT6.at (i := 8) rfl) (hT6.at (i := 9) rfl) (hT6.at (i := 10) rfl) ?_
            · rintro a d w' ⟨F', hw⟩
              have hb := hw.2.2.2.2.1
              exact ⟨hb.at (i := 0) (by rw [← HCK.out]; rfl), hb.at (i := 4) (by rw [← hK]; rfl), hb.at (i := 5) rfl, hb.at (i := 6) rfl, hb.at (i := 7) rfl, hb.at (i := 8) rfl, hb.at (i := 9) rfl, hb.at (i := 10) rfl⟩
            · rintro a d w' ⟨F', hw⟩
              have hb := hw.2.2.2.2.1.chg (stoR_chg (Chg.refl [g1] w') g1 r.code r.paid r.id a nT d (.inl (by simp))) (by simpa using hng)
              exact ⟨hb.at (i := 0) (by rw [← HCK.out]; rfl), hb.at (i := 4) (by rw [← hK]; rfl), hb.at (i := 5) rfl, hb.at (i := 6) rfl, hb.at (i := 7) rfl, hb.at (i := 8) rfl, hb.at (i := 9) rfl, hb.at (i := 10) rfl⟩
            · rintro a d w' ⟨F', hw⟩
              have hb := hw.2.2.2.2.2.1
              exact ⟨hb.at (i := 0) rfl, hb.at (i := 1) rfl, hb.at (i := 2) rfl, hb.at (i := 3) rfl, hb.free 0, hb.free 1, hb.free 2, hb.free 3⟩
            · rintro a3 d3 w3 ⟨F', hN3, h3, c3, g3, hT3, hR3, hg3⟩
              intros
              clear HM hr hnT h6 hT6 hR6 C6
              have hL3 := Lib.hid (Lfar.grow o1.out g3 hgV)
              have hg4 : Hid (Grw ge F F') := fun z hz => (g3 z hz).imp id fun e => by omega
              have hz := h3.fresh (stoR_chg (Chg.refl [g1] w3) g1 r.code r.paid r.id a3 nT d3 (.inl (by simp))) hL3.out
              have hcz := stoR_chg c3 g1 r.code r.paid r.id a3 nT d3 (.inr HW1.out)
              have hNz := hN3.chg (stoR_chg (Chg.refl [g1] w3) g1 r.code r.paid r.id a3 nT d3 (.inl (by simp))) (by simp; exact hgV) |>.mono (D := ge) (by omega)
              have hb := stoR_blk hR3 r.code r.paid r.id a3 nT d3
              have r0 := hb.at (i := 0) rfl
              have r1 := hb.at (i := 1) rfl
              have r2 := hb.at (i := 2) rfl
              have r3 := hb.at (i := 3) rfl
              clear hR3 hT3 h3 c3 hN3 hb
              generalize stoR _ _ _ _ _ _ _ _ = W9 at *
              go_wp2_with fail
              exact bodyPost_ret (v := rcv r a3 nT d3) (by simp [results, Tryz.results75, go_sem, r0, r1, r2, r3, rcv]) rfl (by rw [HEQ2.out, HR.out]; exact ⟨a3, d3, F', by rw [HNT.out], by rw [HG0.out]; exact hNz, hz, hcz, by rw [HG0.out]; exact hg4.out⟩)
          · have hK : e.tx.kind = 6 := hK
            obtain ⟨S', r, hr⟩ : ∃ S' r, lAct n ({ S with nx := S.nx.set k (uW (v + 1)) }) (k : Int) e.tx = (S', r) := ⟨_, _, rfl⟩
            have HR := Lib.hid hr
            obtain ⟨nT, hnT⟩ : ∃ j, r.T.length = j := ⟨_, rfl⟩
            have HNT := Lib.hid hnT
            have HM : Calls Tryz.prog 168 #[.pointer (some ⟨l, 0, none⟩), .int .i64 (k : Int), .agg #[.int .i64 6, .int .i64 e.tx.asset, .int .i64 e.tx.dst, .bool e.tx.buy, .int .u64 e.tx.price, .int .u64 e.tx.qty, .int .i64 e.tx.id]] V.drew fun y w' => ∃ a d, y = .returned (rcv r a nT d) ∧ (fun a d w' => ∃ F', NewF tc w' V.drew.heap.size 99 a r.T ∧ Led w w' l ab s fb mb x kb ns n F' m S' ∧ Chg (l :: ns :: x :: s :: F) wr w' ∧ Grw V.drew.heap.size F F' ∧ Blk w' ge 51 (ec e) ∧ Blk w' g1 46 [.int .i64 0, .int .u64 0, .int .i64 0, .slice none 0 0] ∧ g1 < w'.heap.size) a d w' := by
              have hD : Chg [] V V.drew := (Chg.refl [] V).drew
              have hx := actK6 (h6.to hD) HKB.out (k : Int) e.tx HTX.out HIC.out HAX.out hK
              unfold txv at hx
              rw [hK, hr] at hx
              refine hx.mono ?_
              rintro y w6 ⟨a6, d6, F6, hy, hN6, h7, c6, gr6⟩
              rw [hnT] at hy
              have hZ : g1 < V.drew.heap.size := hR6.lt
              have n0 : ge ∉ l :: ns :: x :: s :: F := by simp; exact ⟨o0.out.l, o0.out.ns, o0.out.x, o0.out.s, o0.out.f⟩
              have n1 : g1 ∉ l :: ns :: x :: s :: F := by simp; exact ⟨o1.out.l, o1.out.ns, o1.out.x, o1.out.s, o1.out.f⟩
              exact ⟨a6, d6, hy, F6, hN6, h7, (C6.out.drew).trans c6, gr6, (hT6.chg hD (by simp)).chg c6 n0, (hR6.chg hD (by simp)).chg c6 n1, Nat.lt_of_lt_of_le hZ c6.size⟩
            have hgV : g1 < V.drew.heap.size := hR6.lt
            have hgs : ge < g1 := by have := HGG.out; omega
            have hng : ge ≠ g1 := by omega
            refine done_reg6 (r := r) (t := e.tx) (by intro c a d v w h; cases d <;> exact h) HM ?_ ?_ ?_ (hT6.at (i := 0) (by rw [← HCK.out]; rfl)) (hT6.at (i := 4) (by rw [← hK]; rfl)) (hT6.at (i := 5) rfl) (hT6.at (i := 6) rfl) (hT6.at (i := 7) rfl) (hT6.at (i := 8) rfl) (hT6.at (i := 9) rfl) (hT6.at (i := 10) rfl) ?_
            · rintro a d w' ⟨F', hw⟩
              have hb := hw.2.2.2.2.1
              exact ⟨hb.at (i := 0) (by rw [← HCK.out]; rfl), hb.at (i := 4) (by rw [← hK]; rfl), hb.at (i := 5) rfl, hb.at (i := 6) rfl, hb.at (i := 7) rfl, hb.at (i := 8) rfl, hb.at (i := 9) rfl, hb.at (i := 10) rfl⟩
            · rintro a d w' ⟨F', hw⟩
              have hb := hw.2.2.2.2.1.chg (stoR_chg (Chg.refl [g1] w') g1 r.code r.paid r.id a nT d (.inl (by simp))) (by simpa using hng)
              exact ⟨hb.at (i := 0) (by rw [← HCK.out]; rfl), hb.at (i := 4) (by rw [← hK]; rfl), hb.at (i := 5) rfl, hb.at (i := 6) rfl, hb.at (i := 7) rfl, hb.at (i := 8) rfl, hb.at (i := 9) rfl, hb.at (i := 10) rfl⟩
            · rintro a d w' ⟨F', hw⟩
              have hb := hw.2.2.2.2.2.1
              exact ⟨hb.at (i := 0) rfl, hb.at (i := 1) rfl, hb.at (i := 2) rfl, hb.at (i := 3) rfl, hb.free 0, hb.free 1, hb.free 2, hb.free 3⟩
            · rintro a3 d3 w3 ⟨F', hN3, h3, c3, g3, hT3, hR3, hg3⟩
              intros
              clear HM hr hnT h6 hT6 hR6 C6
              have hL3 := Lib.hid (Lfar.grow o1.out g3 hgV)
              have hg4 : Hid (Grw ge F F') := fun z hz => (g3 z hz).imp id fun e => by omega
              have hz := h3.fresh (stoR_chg (Chg.refl [g1] w3) g1 r.code r.paid r.id a3 nT d3 (.inl (by simp))) hL3.out
              have hcz := stoR_chg c3 g1 r.code r.paid r.id a3 nT d3 (.inr HW1.out)
              have hNz := hN3.chg (stoR_chg (Chg.refl [g1] w3) g1 r.code r.paid r.id a3 nT d3 (.inl (by simp))) (by simp; exact hgV) |>.mono (D := ge) (by omega)
              have hb := stoR_blk hR3 r.code r.paid r.id a3 nT d3
              have r0 := hb.at (i := 0) rfl
              have r1 := hb.at (i := 1) rfl
              have r2 := hb.at (i := 2) rfl
              have r3 := hb.at (i := 3) rfl
              clear hR3 hT3 h3 c3 hN3 hb
              generalize stoR _ _ _ _ _ _ _ _ = W9 at *
              go_wp2_with fail
              exact bodyPost_ret (v := rcv r a3 nT d3) (by simp [results, Tryz.results75, go_sem, r0, r1, r2, r3, rcv]) rfl (by rw [HEQ2.out, HR.out]; exact ⟨a3, d3, F', by rw [HNT.out], by rw [HG0.out]; exact hNz, hz, hcz, by rw [HG0.out]; exact hg4.out⟩)
        · have db : (e.nonce != v) = true := by simp [hne]
          have HEQ : Hid (lDone n S e = (S, no 3)) := by show _ = _; unfold lDone; rw [HH0.out, HGD.out, HOK.out]; simp only [hv, if_neg hne]; rfl
          clear hne hv hvk
          go_upto_region 5 with (fail)
          go_quiet (fail)
          have h4 := h3.to ((Chg.refl [] _).drewN nq)
          have hR4 := hR3.chg ((Chg.refl [] _).drewN nq) (by simp)
          have C4 := Lib.hid (C3.out.drewN nq)
          clear y0 y1 d3 hnc h3 hT3 hR3 hd3 C3
          generalize w3.drewN nq = W4 at *
          have r0 := hR4.at (i := 0) rfl
          have f0 := hR4.free 0
          have r1 := hR4.at (i := 1) rfl
          have f1 := hR4.free 1
          have r2 := hR4.at (i := 2) rfl
          have f2 := hR4.free 2
          have r3 := hR4.at (i := 3) rfl
          have f3 := hR4.free 3
          have hz := h4.fresh (stoR_chg (Chg.refl [g1] W4) g1 3 0 0 none 0 0 (.inl (by simp))) o1.out
          have hcz := stoR_chg C4.out g1 3 0 0 none 0 0 (.inr (HW1.out))
          go_wp2_with fail
          exact bodyPost_ret (v := rcv (no 3) none 0 0) (by simp [results, Tryz.results75, go_sem, r0, r1, r2, r3, rcv, no]) rfl (by rw [HEQ.out]; exact ActR.of hz hcz (by simp))
end Go.Proofs.YteabcpmpcbjicaaGreat

namespace Go.Proofs.YteabcpmpcbjicaaGreat
set_option linter.unusedVariables false
open Go Go.Proofs Go.RowKit
attribute [local go_sem ↓] Go.wp_at_zero Go.wp_at_succ

set_option maxRecDepth 1000000 in
set_option maxHeartbeats 8000000 in
theorem do_reg4 {Q : Exit → Act → World → Prop} {u1 u2 u4 u6 u7 u8 u9 u10 u11 u12 u13 u14 u15 u16 u17 u18 u19 u20 u21 u22 u23 u24 u25 u26 u27 u28 u29 u30 u31 u32 u33 u34 u35 u36 u37 : Value} (hP : ∀ c a d v w, Q (.panic c) (Act.put a d v) w → Q (.panic c) a w) {l fb ge g5 : Nat} {c v : Int} {W : World} {P : World → Prop} (HM : Calls Tryz.prog 76 #[.pointer (some ⟨fb, 0, none⟩), .int .i64 c, .int .u64 1] W.drew fun e w' => e = .returned (.int .u64 v) ∧ P w') (HS : Hid (∀ w', P w' → w'.cell? ⟨l, 1, none⟩ = some (.pointer (some ⟨fb, 0, none⟩)) ∧ w'.cell? ⟨ge, 0, none⟩ = some (.int .i64 c))) (HS2 : Hid (∀ w', P w' → (w'.setCell ⟨g5, 1, none⟩ (.int .u64 v)).cell? ⟨l, 1, none⟩ = some (.pointer (some ⟨fb, 0, none⟩)) ∧ (w'.setCell ⟨g5, 1, none⟩ (.int .u64 v)).cell? ⟨ge, 0, none⟩ = some (.int .i64 c))) (HFZ : Hid (∀ w', P w' → w'.cell? ⟨g5, 1, none⟩ = some (.int .u64 0) ∧ w'.frozen? ⟨g5, 1, none⟩ = false)) (l1 : W.cell? ⟨l, 1, none⟩ = some (.pointer (some ⟨fb, 0, none⟩))) (y0 : W.cell? ⟨ge, 0, none⟩ = some (.int .i64 c))
    (hQ : ∀ (w3 : World) (_ : P w3) (x21 x22 x23 x24 x25 x26 x27 x28 : Value), Q .normal ⟨#[.pointer (some ⟨l, 0, none⟩), u1, u2, .pointer (some ⟨ge, 0, none⟩), u4, .pointer (some ⟨g5, 0, none⟩), u6, u7, u8, u9, u10, u11, u12, u13, u14, u15, u16, u17, u18, u19, u20, x21, x22, x23, x24, x25, x26, x27, x28, u29, u30, u31, u32, u33, u34, u35, u36, u37], []⟩ (w3.setCell ⟨g5, 1, none⟩ (.int .u64 v))) :
    Code.wp Tryz.prog (regionOf Tryz.f26 4) Q ⟨#[.pointer (some ⟨l, 0, none⟩), u1, u2, .pointer (some ⟨ge, 0, none⟩), u4, .pointer (some ⟨g5, 0, none⟩), u6, u7, u8, u9, u10, u11, u12, u13, u14, u15, u16, u17, u18, u19, u20, u21, u22, u23, u24, u25, u26, u27, u28, u29, u30, u31, u32, u33, u34, u35, u36, u37], []⟩ W := by
  conv => arg 2; whnf
  refine wp_region_held_drew (S := (fun w' => w'.cell? ⟨l, 1, none⟩ = some (.pointer (some ⟨fb, 0, none⟩)) ∧ w'.cell? ⟨ge, 0, none⟩ = some (.int .i64 c))) (by kernel_rfl) ⟨l1, y0⟩ (fun _ => ?_)
  refine wpAnyH_take (i := 0) (v := ?_) rfl (by kernel_rfl) (by kernel_rfl) (by kernel_rfl) (fun c a w h => hP c a _ _ w h) (Or.inl ⟨by rfl, ?_⟩) ⟨l1, y0⟩ ?_
  rotate_left
  · (intro w hSw; (try dsimp only at hSw); go_simp; (try (with_reducible rfl)))
  change wpAnyH _ _ _ _ _ _ _ (Act.put _ (some 21) _) _
  simp only [Act.put, List.setIfInBounds_toArray, List.set_cons_succ, List.set_cons_zero]
  refine wpAnyH_take (i := 1) (v := ?_) rfl (by kernel_rfl) (by kernel_rfl) (by kernel_rfl) (fun c a w h => hP c a _ _ w h) (Or.inl ⟨by rfl, ?_⟩) ⟨l1, y0⟩ ?_
  rotate_left
  · (intro w hSw; (try dsimp only at hSw); go_simp; (try (with_reducible rfl)))
  change wpAnyH _ _ _ _ _ _ _ (Act.put _ (some 22) _) _
  simp only [Act.put, List.setIfInBounds_toArray, List.set_cons_succ, List.set_cons_zero]
  refine wpAnyH_take (i := 2) (v := ?_) rfl (by kernel_rfl) (by kernel_rfl) (by kernel_rfl) (fun c a w h => hP c a _ _ w h) (Or.inl ⟨by rfl, ?_⟩) ⟨l1, y0⟩ ?_
  rotate_left
  · (intro w hSw; (try dsimp only at hSw); go_simp; (try (with_reducible rfl)))
  change wpAnyH _ _ _ _ _ _ _ (Act.put _ (some 23) _) _
  simp only [Act.put, List.setIfInBounds_toArray, List.set_cons_succ, List.set_cons_zero]
  refine wpAnyH_take (i := 3) (v := ?_) rfl (by kernel_rfl) (by kernel_rfl) (by kernel_rfl) (fun c a w h => hP c a _ _ w h) (Or.inl ⟨by rfl, ?_⟩) ⟨l1, y0⟩ ?_
  rotate_left
  · (intro w hSw; (try dsimp only at hSw); go_simp; (try (with_reducible rfl)))
  change wpAnyH _ _ _ _ _ _ _ (Act.put _ (some 24) _) _
  simp only [Act.put, List.setIfInBounds_toArray, List.set_cons_succ, List.set_cons_zero]
  refine wpAnyH_take (i := 4) (v := ?_) rfl (by kernel_rfl) (by kernel_rfl) (by kernel_rfl) (fun c a w h => hP c a _ _ w h) (Or.inl ⟨by rfl, ?_⟩) ⟨l1, y0⟩ ?_
  rotate_left
  · (intro w hSw; (try dsimp only at hSw); go_simp; (try (with_reducible rfl)))
  change wpAnyH _ _ _ _ _ _ _ (Act.put _ (some 25) _) _
  simp only [Act.put, List.setIfInBounds_toArray, List.set_cons_succ, List.set_cons_zero]
  refine wpAnyH_take (i := 5) (v := ?_) rfl (by kernel_rfl) (by kernel_rfl) (by kernel_rfl) (fun c a w h => hP c a _ _ w h) (Or.inl ⟨by rfl, ?_⟩) ⟨l1, y0⟩ ?_
  rotate_left
  · (intro w hSw; (try dsimp only at hSw); go_simp; (try (with_reducible rfl)))
  change wpAnyH _ _ _ _ _ _ _ (Act.put _ (some 26) _) _
  simp only [Act.put, List.setIfInBounds_toArray, List.set_cons_succ, List.set_cons_zero]
  refine wpAnyH_ready (rs := [6]) (by kernel_rfl) (by simp) (AllReadyH.cons rfl (fun K hK => ?_) AllReadyH.nil)
  go_simp
  refine HM.mono ?_
  rintro e w3 ⟨rfl, hP3⟩
  have hz3 := HS.out w3 hP3
  obtain ⟨r1, f1⟩ := HFZ.out w3 hP3
  go_wp2_with fail
  refine hK.out _ _ hz3 (fun hHeld => ?_)
  clear hK K
  refine wpAnyH_take (i := 7) (v := ?_) rfl (by kernel_rfl) (by kernel_rfl) (by kernel_rfl) (fun c a w h => hP c a _ _ w h) (Or.inl ⟨by rfl, ?_⟩) hz3 ?_
  rotate_left
  · (intro w hSw; (try dsimp only at hSw); go_simp; (try (with_reducible rfl)))
  change wpAnyH _ _ _ _ _ _ _ (Act.put _ (some 28) _) _
  simp only [Act.put, List.setIfInBounds_toArray, List.set_cons_succ, List.set_cons_zero]
  refine wpAnyH_ready (rs := [8]) (by kernel_rfl) (by simp) (AllReadyH.cons rfl (fun K hK => ?_) AllReadyH.nil)
  go_simp
  refine hK.out _ _ (HS2.out w3 hP3) (fun hHeld => ?_)
  clear hK K
  refine wpAnyH_done (by kernel_rfl) ?_ _
  exact hQ _ hP3 _ _ _ _ _ _ _ _
set_option maxRecDepth 1000000 in
set_option maxHeartbeats 8000000 in
theorem do_reg5 {Q : Exit → Act → World → Prop} {u1 u2 u4 u6 u7 u8 u9 u10 u11 u12 u13 u14 u15 u16 u17 u18 u19 u20 u21 u22 u23 u24 u25 u26 u27 u28 u29 u30 u31 u32 u33 u34 u35 u36 u37 : Value} (hP : ∀ c a d v w, Q (.panic c) (Act.put a d v) w → Q (.panic c) a w) {l fb ge g5 : Nat} {c v : Int} {W : World} {P : World → Prop} (HM : Calls Tryz.prog 77 #[.pointer (some ⟨fb, 0, none⟩), .int .i64 c] W.drew fun e w' => e = .returned (.int .u64 v) ∧ P w') (HS : Hid (∀ w', P w' → w'.cell? ⟨l, 1, none⟩ = some (.pointer (some ⟨fb, 0, none⟩)) ∧ w'.cell? ⟨ge, 0, none⟩ = some (.int .i64 c))) (HS2 : Hid (∀ w', P w' → (w'.setCell ⟨g5, 1, none⟩ (.int .u64 v)).cell? ⟨l, 1, none⟩ = some (.pointer (some ⟨fb, 0, none⟩)) ∧ (w'.setCell ⟨g5, 1, none⟩ (.int .u64 v)).cell? ⟨ge, 0, none⟩ = some (.int .i64 c))) (HFZ : Hid (∀ w', P w' → w'.cell? ⟨g5, 1, none⟩ = some (.int .u64 0) ∧ w'.frozen? ⟨g5, 1, none⟩ = false)) (l1 : W.cell? ⟨l, 1, none⟩ = some (.pointer (some ⟨fb, 0, none⟩))) (y0 : W.cell? ⟨ge, 0, none⟩ = some (.int .i64 c))
    (hQ : ∀ (w3 : World) (_ : P w3) (x29 x30 x31 x32 x33 x34 x35 x36 : Value), Q .normal ⟨#[.pointer (some ⟨l, 0, none⟩), u1, u2, .pointer (some ⟨ge, 0, none⟩), u4, .pointer (some ⟨g5, 0, none⟩), u6, u7, u8, u9, u10, u11, u12, u13, u14, u15, u16, u17, u18, u19, u20, u21, u22, u23, u24, u25, u26, u27, u28, x29, x30, x31, x32, x33, x34, x35, x36, u37], []⟩ (w3.setCell ⟨g5, 1, none⟩ (.int .u64 v))) :
    Code.wp Tryz.prog (regionOf Tryz.f26 5) Q ⟨#[.pointer (some ⟨l, 0, none⟩), u1, u2, .pointer (some ⟨ge, 0, none⟩), u4, .pointer (some ⟨g5, 0, none⟩), u6, u7, u8, u9, u10, u11, u12, u13, u14, u15, u16, u17, u18, u19, u20, u21, u22, u23, u24, u25, u26, u27, u28, u29, u30, u31, u32, u33, u34, u35, u36, u37], []⟩ W := by
  conv => arg 2; whnf
  refine wp_region_held_drew (S := (fun w' => w'.cell? ⟨l, 1, none⟩ = some (.pointer (some ⟨fb, 0, none⟩)) ∧ w'.cell? ⟨ge, 0, none⟩ = some (.int .i64 c))) (by kernel_rfl) ⟨l1, y0⟩ (fun _ => ?_)
  refine wpAnyH_take (i := 0) (v := ?_) rfl (by kernel_rfl) (by kernel_rfl) (by kernel_rfl) (fun c a w h => hP c a _ _ w h) (Or.inl ⟨by rfl, ?_⟩) ⟨l1, y0⟩ ?_
  rotate_left
  · (intro w hSw; (try dsimp only at hSw); go_simp; (try (with_reducible rfl)))
  change wpAnyH _ _ _ _ _ _ _ (Act.put _ (some 29) _) _
  simp only [Act.put, List.setIfInBounds_toArray, List.set_cons_succ, List.set_cons_zero]
  refine wpAnyH_take (i := 1) (v := ?_) rfl (by kernel_rfl) (by kernel_rfl) (by kernel_rfl) (fun c a w h => hP c a _ _ w h) (Or.inl ⟨by rfl, ?_⟩) ⟨l1, y0⟩ ?_
  rotate_left
  · (intro w hSw; (try dsimp only at hSw); go_simp; (try (with_reducible rfl)))
  change wpAnyH _ _ _ _ _ _ _ (Act.put _ (some 30) _) _
  simp only [Act.put, List.setIfInBounds_toArray, List.set_cons_succ, List.set_cons_zero]
  refine wpAnyH_take (i := 2) (v := ?_) rfl (by kernel_rfl) (by kernel_rfl) (by kernel_rfl) (fun c a w h => hP c a _ _ w h) (Or.inl ⟨by rfl, ?_⟩) ⟨l1, y0⟩ ?_
  rotate_left
  · (intro w hSw; (try dsimp only at hSw); go_simp; (try (with_reducible rfl)))
  change wpAnyH _ _ _ _ _ _ _ (Act.put _ (some 31) _) _
  simp only [Act.put, List.setIfInBounds_toArray, List.set_cons_succ, List.set_cons_zero]
  refine wpAnyH_take (i := 3) (v := ?_) rfl (by kernel_rfl) (by kernel_rfl) (by kernel_rfl) (fun c a w h => hP c a _ _ w h) (Or.inl ⟨by rfl, ?_⟩) ⟨l1, y0⟩ ?_
  rotate_left
  · (intro w hSw; (try dsimp only at hSw); go_simp; (try (with_reducible rfl)))
  change wpAnyH _ _ _ _ _ _ _ (Act.put _ (some 32) _) _
  simp only [Act.put, List.setIfInBounds_toArray, List.set_cons_succ, List.set_cons_zero]
  refine wpAnyH_take (i := 4) (v := ?_) rfl (by kernel_rfl) (by kernel_rfl) (by kernel_rfl) (fun c a w h => hP c a _ _ w h) (Or.inl ⟨by rfl, ?_⟩) ⟨l1, y0⟩ ?_
  rotate_left
  · (intro w hSw; (try dsimp only at hSw); go_simp; (try (with_reducible rfl)))
  change wpAnyH _ _ _ _ _ _ _ (Act.put _ (some 33) _) _
  simp only [Act.put, List.setIfInBounds_toArray, List.set_cons_succ, List.set_cons_zero]
  refine wpAnyH_take (i := 5) (v := ?_) rfl (by kernel_rfl) (by kernel_rfl) (by kernel_rfl) (fun c a w h => hP c a _ _ w h) (Or.inl ⟨by rfl, ?_⟩) ⟨l1, y0⟩ ?_
  rotate_left
  · (intro w hSw; (try dsimp only at hSw); go_simp; (try (with_reducible rfl)))
  change wpAnyH _ _ _ _ _ _ _ (Act.put _ (some 34) _) _
  simp only [Act.put, List.setIfInBounds_toArray, List.set_cons_succ, List.set_cons_zero]
  refine wpAnyH_ready (rs := [6]) (by kernel_rfl) (by simp) (AllReadyH.cons rfl (fun K hK => ?_) AllReadyH.nil)
  go_simp
  refine HM.mono ?_
  rintro e w3 ⟨rfl, hP3⟩
  have hz3 := HS.out w3 hP3
  obtain ⟨r1, f1⟩ := HFZ.out w3 hP3
  go_wp2_with fail
  refine hK.out _ _ hz3 (fun hHeld => ?_)
  clear hK K
  refine wpAnyH_take (i := 7) (v := ?_) rfl (by kernel_rfl) (by kernel_rfl) (by kernel_rfl) (fun c a w h => hP c a _ _ w h) (Or.inl ⟨by rfl, ?_⟩) hz3 ?_
  rotate_left
  · (intro w hSw; (try dsimp only at hSw); go_simp; (try (with_reducible rfl)))
  change wpAnyH _ _ _ _ _ _ _ (Act.put _ (some 36) _) _
  simp only [Act.put, List.setIfInBounds_toArray, List.set_cons_succ, List.set_cons_zero]
  refine wpAnyH_ready (rs := [8]) (by kernel_rfl) (by simp) (AllReadyH.cons rfl (fun K hK => ?_) AllReadyH.nil)
  go_simp
  refine hK.out _ _ (HS2.out w3 hP3) (fun hHeld => ?_)
  clear hK K
  refine wpAnyH_done (by kernel_rfl) ?_ _
  exact hQ _ hP3 _ _ _ _ _ _ _ _
end Go.Proofs.YteabcpmpcbjicaaGreat

namespace Go.Proofs.YteabcpmpcbjicaaGreat
set_option linter.unusedVariables false
open Go Go.Proofs Go.RowKit
attribute [local go_sem ↓] Go.wp_at_zero Go.wp_at_succ

theorem lAct_paid (n : Nat) (S : LS) (c : Int) (t : Txx) : (lAct n S c t).2.paid = 0 := by
  unfold lAct lDep lWd lTr lLim lNow lCan no
  repeat (first | rfl | split)
theorem lDone_paid (n : Nat) (S : LS) (e : Ent) : (lDone n S e).2.paid = 0 := by
  unfold lDone
  split
  · split
    · split
      · exact lAct_paid _ _ _ _
      · rfl
    · rfl
  · rfl
/-- What Do tells and leaves. -/
def DoR (w wr : World) (l ab s fb mb x kb ns n : Nat) (F : List Nat) (m : Nat) (r : LS × Rcp) (e : Ending) (w' : World) : Prop :=
  ∃ a cap F', e = .returned (rcv r.2 a r.2.T.length cap) ∧ NewF tc w' wr.heap.size 99 a r.2.T ∧ Led w w' l ab s fb mb x kb ns n F' (m + 4) r.1 ∧ Chg (fb :: mb :: l :: ns :: x :: s :: F) wr w' ∧ Grw wr.heap.size F F'
set_option maxRecDepth 100000 in
set_option maxHeartbeats 4000000 in
theorem do_any {w wr : World} {l ab s fb mb x kb ns n : Nat} {F : List Nat} {m : Nat} {S : LS} (h : Led w wr l ab s fb mb x kb ns n F m S) (hk : S.k < 1000000) (hm : m + 8 < maxLen) (e : Ent) (he : e.Ok) :
    Calls Tryz.prog 26 #[.pointer (some ⟨l, 0, none⟩), ev e] wr fun y w' => DoR w wr l ab s fb mb x kb ns n F m (lDo n S e) y w' := by
  have HKB := Lib.hid hk
  have HE := Lib.hid he
  have i1 := he.client
  have i3 := he.fee
  clear hk he
  have hC : Chg [] wr ((wr.alloc (.cells #[.int .i64 e.client, .int .u64 e.nonce, .int .u64 e.fee, .bool e.good, .int .i64 e.tx.kind, .int .i64 e.tx.asset, .int .i64 e.tx.dst, .bool e.tx.buy, .int .u64 e.tx.price, .int .u64 e.tx.qty, .int .i64 e.tx.id] 51)).alloc (.cells #[.int .i64 0, .int .u64 0, .int .i64 0, .slice none 0 0] 46)) := ((Chg.refl _ _).alloc _).alloc _
  have h1 := h.to hC
  have hT : Blk ((wr.alloc (.cells #[.int .i64 e.client, .int .u64 e.nonce, .int .u64 e.fee, .bool e.good, .int .i64 e.tx.kind, .int .i64 e.tx.asset, .int .i64 e.tx.dst, .bool e.tx.buy, .int .u64 e.tx.price, .int .u64 e.tx.qty, .int .i64 e.tx.id] 51)).alloc (.cells #[.int .i64 0, .int .u64 0, .int .i64 0, .slice none 0 0] 46)) wr.heap.size 51 (ec e) := (Blk.new wr (ec e) 51).alloc _
  have hR : Blk ((wr.alloc (.cells #[.int .i64 e.client, .int .u64 e.nonce, .int .u64 e.fee, .bool e.good, .int .i64 e.tx.kind, .int .i64 e.tx.asset, .int .i64 e.tx.dst, .bool e.tx.buy, .int .u64 e.tx.price, .int .u64 e.tx.qty, .int .i64 e.tx.id] 51)).alloc (.cells #[.int .i64 0, .int .u64 0, .int .i64 0, .slice none 0 0] 46)) (wr.heap.size + 1) 46 [.int .i64 0, .int .u64 0, .int .i64 0, .slice none 0 0] := by
    have := Blk.new (wr.alloc (.cells #[.int .i64 e.client, .int .u64 e.nonce, .int .u64 e.fee, .bool e.good, .int .i64 e.tx.kind, .int .i64 e.tx.asset, .int .i64 e.tx.dst, .bool e.tx.buy, .int .u64 e.tx.price, .int .u64 e.tx.qty, .int .i64 e.tx.id] 51)) [.int .i64 0, .int .u64 0, .int .i64 0, .slice none 0 0] 46
    rwa [World.size_alloc] at this
  have HC := Lib.hid hC
  have o1 := Lib.hid (h.old (z := wr.heap.size + 1) (by omega))
  have o0 := Lib.hid (h.old (z := wr.heap.size) (by omega))
  have hgl : wr.heap.size + 1 < ((wr.alloc (.cells #[.int .i64 e.client, .int .u64 e.nonce, .int .u64 e.fee, .bool e.good, .int .i64 e.tx.kind, .int .i64 e.tx.asset, .int .i64 e.tx.dst, .bool e.tx.buy, .int .u64 e.tx.price, .int .u64 e.tx.qty, .int .i64 e.tx.id] 51)).alloc (.cells #[.int .i64 0, .int .u64 0, .int .i64 0, .slice none 0 0] 46)).heap.size := hR.lt
  have HW0 : Hid (∀ z, z = wr.heap.size + 1 → wr.heap.size ≤ z) := fun z e => by omega
  clear h hC
  go_enter Tryz.func26, Tryz.ntmps26
  go_upto_region 1 with (fail)
  generalize hgg : wr.heap.size + 1 = g1 at *
  generalize hg0 : wr.heap.size = ge at *
  generalize (wr.alloc _).alloc _ = W at *
  have HGG := Lib.hid hgg
  have HG0 := Lib.hid hg0
  clear hgg
  have HW1 : Hid (wr.heap.size ≤ g1) := by show wr.heap.size ≤ g1; rw [HG0.out]; exact HW0.out g1 rfl
  have y0 := hT.at (i := 0) rfl
  have y2 := hT.at (i := 2) rfl
  obtain ⟨cap, _, _, hd⟩ := h1.hd
  have d1 := hd.at (i := 1) rfl
  have hgs : ge < g1 := by have := HGG.out; omega
  go_still_tail 8, (by kernel_rfl)
  change wpList _ _ _ _ _ W.drew
  have h2 := h1.to (Chg.refl [] W).drew
  have hT2 := hT.drew
  have hR2 := hR.drew
  have C2 := Lib.hid HC.out.drew
  clear y0 y2 d1 h1 hT hR HC hd
  generalize W.drew = W2 at *
  obtain ⟨hv0, hv⟩ : ∃ z, hHold n S.xs S.f e.client e.fee = z := ⟨_, rfl⟩
  go_wp2_with fail
  refine (hold_is h2.fe e.client e.fee hv0 _ _ i1 i3 (by omega) hv rfl rfl).mono ?_
  rintro y w6 ⟨rfl, hf6, c6⟩
  have h3 := h2.fee hf6 c6
  have hT3 := hT2.chg c6 (by simp; exact ⟨o0.out.fb, o0.out.mb, o0.out.s⟩)
  have hR3 := hR2.chg c6 (by simp; exact ⟨o1.out.fb, o1.out.mb, o1.out.s⟩)
  have C3 := Lib.hid ((C2.out.mono (R := [fb, mb, s]) (by simp)).trans c6)
  clear h2 hT2 hR2 C2 hf6 c6 hv
  obtain ⟨SH, hSH⟩ : ∃ z, z = lHeld n S e := ⟨_, rfl⟩
  have h3 : Led w w6 l ab s fb mb x kb ns n F (m + 2) SH := by rw [hSH]; exact h3
  have hkH : SH.k < 1000000 := by rw [hSH]; exact HKB.out
  obtain ⟨S1, ⟨rc, rp, ri, T⟩, hr⟩ : ∃ S1 r, lDone n SH e = (S1, r) := ⟨_, _, rfl⟩
  have HLD : Hid (lDone n (lHeld n S e) e = (S1, ⟨rc, rp, ri, T⟩)) := by rw [← hSH]; exact hr
  have HRP : Hid (rp = 0) := by
    have := lDone_paid n SH e
    rw [hr] at this
    exact this
  have y0 := hT3.at (i := 0) rfl
  have y1 := hT3.at (i := 1) rfl
  have y2 := hT3.at (i := 2) rfl
  have y3 := hT3.at (i := 3) rfl
  have y4 := hT3.at (i := 4) rfl
  have y5 := hT3.at (i := 5) rfl
  have y6 := hT3.at (i := 6) rfl
  have y7 := hT3.at (i := 7) rfl
  have y8 := hT3.at (i := 8) rfl
  have y9 := hT3.at (i := 9) rfl
  have y10 := hT3.at (i := 10) rfl
  go_wp2_with fail
  have hdn := done_any h3 hkH e HE.out
  rw [hr] at hdn
  refine hdn.mono ?_
  rintro y wD ⟨a3, d3, F', rfl, hND, hD3, cD, gD⟩
  obtain ⟨nT, hnT⟩ : ∃ k, T.length = k := ⟨_, rfl⟩
  dsimp only at hND hD3 ⊢
  rw [hnT]
  have HNT := Lib.hid hnT
  have HND := Lib.hid hND
  have hg1w : g1 < w6.heap.size := hR3.lt
  have n0 : ge ∉ l :: ns :: x :: s :: F := by simp; exact ⟨o0.out.l, o0.out.ns, o0.out.x, o0.out.s, o0.out.f⟩
  have n1 : g1 ∉ l :: ns :: x :: s :: F := by simp; exact ⟨o1.out.l, o1.out.ns, o1.out.x, o1.out.s, o1.out.f⟩
  have HL1 : Hid (Lfar g1 w.heap.size l ab s fb mb x ns F') := Lfar.grow o1.out gD hg1w
  have HGR : Hid (Grw ge F F') := fun z hz => (gD z hz).imp id fun q => by omega
  have HBG : Hid (ge ≤ w6.heap.size) := by show ge ≤ _; omega
  have HBD : Hid (∀ z ∈ [fb, mb, s, g1], z < w6.heap.size) := by
    obtain ⟨q1, q2, q3, q4⟩ := h3.lt
    obtain ⟨p1, p2, p3, p4, p5⟩ := h3.ex.lt
    intro z hz
    simp at hz
    rcases hz with e | e | e | e <;> omega
  have HL5 : Hid (Lfar wD.heap.size w.heap.size l ab s fb mb x ns F') := hD3.old (Nat.le_refl _)
  have hT4 := (hT3.chg cD n0).alloc (.cells #[.int .i64 rc, .int .u64 rp, .int .i64 ri, .slice a3 nT d3] 46)
  have hR4 := (hR3.chg cD n1).alloc (.cells #[.int .i64 rc, .int .u64 rp, .int .i64 ri, .slice a3 nT d3] 46)
  have hQ4 : Blk (wD.alloc (.cells #[.int .i64 rc, .int .u64 rp, .int .i64 ri, .slice a3 nT d3] 46)) wD.heap.size 46 [.int .i64 rc, .int .u64 rp, .int .i64 ri, .slice a3 nT d3] := Blk.new wD _ _
  have h4 := hD3.to ((Chg.refl [] wD).alloc (.cells #[.int .i64 rc, .int .u64 rp, .int .i64 ri, .slice a3 nT d3] 46))
  have HCW : Hid (Chg (fb :: mb :: l :: ns :: x :: s :: F) wr wD) := (C3.out.mono (by simp +contextual)).trans (cD.mono (by intro z hz; simp at hz ⊢; rcases hz with e | e | e | e | e <;> simp [e]))
  have HCD5 : Hid (Chg [] wD (wD.alloc (.cells #[.int .i64 rc, .int .u64 rp, .int .i64 ri, .slice a3 nT d3] 46))) := (Chg.refl _ _).alloc _
  have hg15 : g1 < wD.heap.size := Nat.lt_of_lt_of_le hg1w cD.size
  have HG5 : Hid (wD.heap.size ≤ wD.heap.size) := Nat.le_refl _
  clear h3 hT3 hR3 C3 hSH hr hdn hND hD3 cD gD hnT n0 n1 y0 y1 y2 y3 y4 y5 y6 y7 y8 y9 y10
  go_upto_region 3 with (fail)
  have HGW : Hid (∀ z, z = wD.heap.size → wD.heap.size ≤ z) := fun z e => by omega
  generalize hg5 : wD.heap.size = g5 at *
  have HG5 : Hid (wD.heap.size ≤ g5) := by rw [hg5]; exact Nat.le_refl _
  generalize wD.alloc _ = W5 at *
  have q0 := hQ4.at (i := 0) rfl
  by_cases hcd : rc = 0
  · have dc : (rc == 0) = true := by simp [hcd]
    have HCD := Lib.hid hcd
    clear hcd
    go_upto_region 4 with (fail)
    clear q0
    obtain ⟨v, hv⟩ : ∃ z, sV S1.f S1.got e.client 1 = z := ⟨_, rfl⟩
    obtain ⟨S2, hS2⟩ : ∃ z, z = ({ S1 with xs := sX n S1.xs S1.f S1.got e.client 1, f := sF n S1.xs S1.f S1.got e.client 1, got := sGot S1.f S1.got e.client 1 } : LS) := ⟨_, rfl⟩
    have HEQ3 : Hid (lDo n S e = (S2, ⟨rc, v, ri, T⟩)) := by
      show _ = _
      unfold lDo
      rw [HLD.out]
      unfold lEnd
      dsimp only
      rw [if_pos HCD.out, hv, ← hS2]
    have HM : Calls Tryz.prog 76 #[.pointer (some ⟨fb, 0, none⟩), .int .i64 e.client, .int .u64 1] W5.drew fun y w' => y = .returned (.int .u64 v) ∧ (fun w' => Led w w' l ab s fb mb x kb ns n F' (m + 4) S2 ∧ Chg [fb, mb, s] W5 w' ∧ Blk w' ge 51 (ec e) ∧ Blk w' g1 46 [.int .i64 0, .int .u64 0, .int .i64 0, .slice none 0 0] ∧ Blk w' g5 46 [.int .i64 rc, .int .u64 rp, .int .i64 ri, .slice a3 nT d3]) w' := by
      have hD : Chg [] W5 W5.drew := (Chg.refl [] W5).drew
      refine (settle_is (h4.to hD).fe e.client 1 v _ _ _ i1 ⟨by omega, by omega⟩ (by omega) hv rfl rfl rfl).mono ?_
      rintro y w6 ⟨rfl, h6, c6⟩
      refine ⟨rfl, ?_, (Chg.refl _ W5).drew.trans c6, (hT4.chg hD (by simp)).chg c6 ?_, (hR4.chg hD (by simp)).chg c6 ?_, (hQ4.chg hD (by simp)).chg c6 ?_⟩
      · rw [hS2]; exact (h4.to hD).fee h6 c6
      · simp; exact ⟨o0.out.fb, o0.out.mb, o0.out.s⟩
      · simp; exact ⟨o1.out.fb, o1.out.mb, o1.out.s⟩
      · simp; exact ⟨HL5.out.fb, HL5.out.mb, HL5.out.s⟩
    obtain ⟨cap, _, _, hd⟩ := h4.hd
    refine do_reg4 (by intro c a d v w h; cases d <;> exact h) HM ?_ ?_ ?_ (hd.at (i := 1) rfl) (hT4.at (i := 0) rfl) ?_
    · rintro w' hw
      exact ⟨(hw.1.hd.elim fun _ z => z.2.2.at (i := 1) rfl), hw.2.2.1.at (i := 0) rfl⟩
    · rintro w' hw
      have c8 : Chg [g5] w' (w'.setCell ⟨g5, 1, none⟩ (.int .u64 v)) := (Chg.refl _ _).setCell _ _ (by simp)
      exact ⟨((hw.1.fresh c8 HL5.out).hd.elim fun _ z => z.2.2.at (i := 1) rfl), (hw.2.2.1.chg c8 (by simp; omega)).at (i := 0) rfl⟩
    · rintro w' hw
      exact ⟨by rw [← HRP.out]; exact hw.2.2.2.2.at (i := 1) rfl, hw.2.2.2.2.free 1⟩
    · rintro w3 ⟨h7, c7, hT7, hR7, hQ7⟩
      intros
      clear HM hv hS2 h4 hT4 hR4 hQ4 hd
      have c8 : Chg [g5] w3 (w3.setCell ⟨g5, 1, none⟩ (.int .u64 v)) := (Chg.refl _ _).setCell _ _ (by simp)
      have h8 := h7.fresh c8 HL5.out
      have hR8 := hR7.chg c8 (by simp; omega)
      have hQ8 : Blk (w3.setCell ⟨g5, 1, none⟩ (.int .u64 v)) g5 46 [.int .i64 rc, .int .u64 v, .int .i64 ri, .slice a3 nT d3] := hQ7.set 1 _
      have C8 : Hid (Chg [fb, mb, s] wD (w3.setCell ⟨g5, 1, none⟩ (.int .u64 v))) := (HCD5.out.mono (by simp)).trans c7 |>.setCell _ _ (.inr HG5.out)
      clear h7 c7 hT7 hR7 hQ7 c8
      generalize w3.setCell _ _ = W8 at *
      have r0 := hR8.at (i := 0) rfl
      have f0 := hR8.free 0
      have r1 := hR8.at (i := 1) rfl
      have f1 := hR8.free 1
      have r2 := hR8.at (i := 2) rfl
      have f2 := hR8.free 2
      have r3 := hR8.at (i := 3) rfl
      have f3 := hR8.free 3
      have q0 := hQ8.at (i := 0) rfl
      have q1 := hQ8.at (i := 1) rfl
      have q2 := hQ8.at (i := 2) rfl
      have q3 := hQ8.at (i := 3) rfl
      have hz := h8.fresh (stoR_chg (Chg.refl [g1] W8) g1 rc v ri a3 nT d3 (.inl (by simp))) HL1.out
      have cz : Chg [fb, mb, s, g1] wD (stoR W8 g1 rc v ri a3 nT d3) := stoR_chg (C8.out.mono (by simp +contextual)) g1 rc v ri a3 nT d3 (.inl (by simp))
      have hNz := HND.out.chg cz HBD.out
      have hcz : Chg (fb :: mb :: l :: ns :: x :: s :: F) wr (stoR W8 g1 rc v ri a3 nT d3) := HCW.out.trans' cz (fun z hz => by
        simp at hz
        rcases hz with rfl | rfl | rfl | rfl
        · exact .inl (by simp)
        · exact .inl (by simp)
        · exact .inl (by simp)
        · exact .inr HW1.out)
      clear h8 C8 hR8 hQ8 cz
      go_wp2_with fail
      exact bodyPost_ret (v := rcv ⟨rc, v, ri, T⟩ a3 nT d3) (by simp [results, Tryz.results26, go_sem, r0, r1, r2, r3, rcv]) rfl (by rw [HEQ3.out]; exact ⟨a3, d3, F', by rw [HNT.out], hNz.mono (by rw [HG0.out]; exact HBG.out), hz, hcz, by rw [HG0.out]; exact HGR.out⟩)
  · have dc : (rc == 0) = false := by simp [hcd]
    have HCD := Lib.hid hcd
    clear hcd
    go_upto_region 5 with (fail)
    clear q0
    obtain ⟨v, hv⟩ : ∃ z, fV S1.f S1.got e.client = z := ⟨_, rfl⟩
    obtain ⟨S2, hS2⟩ : ∃ z, z = ({ S1 with f := fF S1.f S1.got e.client, got := fGot S1.f S1.got e.client } : LS) := ⟨_, rfl⟩
    have HEQ3 : Hid (lDo n S e = (S2, ⟨rc, v, ri, T⟩)) := by
      show _ = _
      unfold lDo
      rw [HLD.out]
      unfold lEnd
      dsimp only
      rw [if_neg HCD.out, hv, ← hS2]
    have HM : Calls Tryz.prog 77 #[.pointer (some ⟨fb, 0, none⟩), .int .i64 e.client] W5.drew fun y w' => y = .returned (.int .u64 v) ∧ (fun w' => Led w w' l ab s fb mb x kb ns n F' (m + 4) S2 ∧ Chg [fb, mb, s] W5 w' ∧ Blk w' ge 51 (ec e) ∧ Blk w' g1 46 [.int .i64 0, .int .u64 0, .int .i64 0, .slice none 0 0] ∧ Blk w' g5 46 [.int .i64 rc, .int .u64 rp, .int .i64 ri, .slice a3 nT d3]) w' := by
      have hD : Chg [] W5 W5.drew := (Chg.refl [] W5).drew
      refine (forfeit_is (h4.to hD).fe e.client v _ _ i1 (by omega) hv rfl rfl).mono ?_
      rintro y w6 ⟨rfl, h6, c6⟩
      refine ⟨rfl, ?_, (Chg.refl _ W5).drew.trans c6, (hT4.chg hD (by simp)).chg c6 ?_, (hR4.chg hD (by simp)).chg c6 ?_, (hQ4.chg hD (by simp)).chg c6 ?_⟩
      · rw [hS2]; exact (h4.to hD).fee h6 c6
      · simp; exact ⟨o0.out.fb, o0.out.mb, o0.out.s⟩
      · simp; exact ⟨o1.out.fb, o1.out.mb, o1.out.s⟩
      · simp; exact ⟨HL5.out.fb, HL5.out.mb, HL5.out.s⟩
    obtain ⟨cap, _, _, hd⟩ := h4.hd
    refine do_reg5 (by intro c a d v w h; cases d <;> exact h) HM ?_ ?_ ?_ (hd.at (i := 1) rfl) (hT4.at (i := 0) rfl) ?_
    · rintro w' hw
      exact ⟨(hw.1.hd.elim fun _ z => z.2.2.at (i := 1) rfl), hw.2.2.1.at (i := 0) rfl⟩
    · rintro w' hw
      have c8 : Chg [g5] w' (w'.setCell ⟨g5, 1, none⟩ (.int .u64 v)) := (Chg.refl _ _).setCell _ _ (by simp)
      exact ⟨((hw.1.fresh c8 HL5.out).hd.elim fun _ z => z.2.2.at (i := 1) rfl), (hw.2.2.1.chg c8 (by simp; omega)).at (i := 0) rfl⟩
    · rintro w' hw
      exact ⟨by rw [← HRP.out]; exact hw.2.2.2.2.at (i := 1) rfl, hw.2.2.2.2.free 1⟩
    · rintro w3 ⟨h7, c7, hT7, hR7, hQ7⟩
      intros
      clear HM hv hS2 h4 hT4 hR4 hQ4 hd
      have c8 : Chg [g5] w3 (w3.setCell ⟨g5, 1, none⟩ (.int .u64 v)) := (Chg.refl _ _).setCell _ _ (by simp)
      have h8 := h7.fresh c8 HL5.out
      have hR8 := hR7.chg c8 (by simp; omega)
      have hQ8 : Blk (w3.setCell ⟨g5, 1, none⟩ (.int .u64 v)) g5 46 [.int .i64 rc, .int .u64 v, .int .i64 ri, .slice a3 nT d3] := hQ7.set 1 _
      have C8 : Hid (Chg [fb, mb, s] wD (w3.setCell ⟨g5, 1, none⟩ (.int .u64 v))) := (HCD5.out.mono (by simp)).trans c7 |>.setCell _ _ (.inr HG5.out)
      clear h7 c7 hT7 hR7 hQ7 c8
      generalize w3.setCell _ _ = W8 at *
      have r0 := hR8.at (i := 0) rfl
      have f0 := hR8.free 0
      have r1 := hR8.at (i := 1) rfl
      have f1 := hR8.free 1
      have r2 := hR8.at (i := 2) rfl
      have f2 := hR8.free 2
      have r3 := hR8.at (i := 3) rfl
      have f3 := hR8.free 3
      have q0 := hQ8.at (i := 0) rfl
      have q1 := hQ8.at (i := 1) rfl
      have q2 := hQ8.at (i := 2) rfl
      have q3 := hQ8.at (i := 3) rfl
      have hz := h8.fresh (stoR_chg (Chg.refl [g1] W8) g1 rc v ri a3 nT d3 (.inl (by simp))) HL1.out
      have cz : Chg [fb, mb, s, g1] wD (stoR W8 g1 rc v ri a3 nT d3) := stoR_chg (C8.out.mono (by simp +contextual)) g1 rc v ri a3 nT d3 (.inl (by simp))
      have hNz := HND.out.chg cz HBD.out
      have hcz : Chg (fb :: mb :: l :: ns :: x :: s :: F) wr (stoR W8 g1 rc v ri a3 nT d3) := HCW.out.trans' cz (fun z hz => by
        simp at hz
        rcases hz with rfl | rfl | rfl | rfl
        · exact .inl (by simp)
        · exact .inl (by simp)
        · exact .inl (by simp)
        · exact .inr HW1.out)
      clear h8 C8 hR8 hQ8 cz
      go_wp2_with fail
      exact bodyPost_ret (v := rcv ⟨rc, v, ri, T⟩ a3 nT d3) (by simp [results, Tryz.results26, go_sem, r0, r1, r2, r3, rcv]) rfl (by rw [HEQ3.out]; exact ⟨a3, d3, F', by rw [HNT.out], hNz.mono (by rw [HG0.out]; exact HBG.out), hz, hcz, by rw [HG0.out]; exact HGR.out⟩)
end Go.Proofs.YteabcpmpcbjicaaGreat
