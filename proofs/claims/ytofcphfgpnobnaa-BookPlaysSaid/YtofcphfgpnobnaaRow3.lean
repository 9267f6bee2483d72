import Derived.Test.YtofcphfgpnobnaaRow2
namespace Go.Proofs.Ytofcphfgpnobnaa
set_option linter.unusedVariables false
open Go Go.Proofs Go.RowKit
attribute [local go_sem ↓] Go.wp_at_zero Go.wp_at_succ

set_option maxRecDepth 100000 in
set_option maxHeartbeats 4000000 in
/-- (*row).Swap. -/
theorem rowSwap {w : World} {b s : Nat} {up : Bool} {l : List Ord} (h : Row w b s up l) {i j : Nat} (hi : i < l.length) (hj : j < l.length) (hij : i ≠ j) :
    Calls Try.prog 90 #[.pointer (some ⟨b, 0, none⟩), .int .i64 i, .int .i64 j] w fun e w' => e = .returned (.tuple #[]) ∧ Row w' b s up (sw Ord.zero l i j) ∧ Chg [s] w w' := by
  obtain ⟨cap, hne, hlc, hcm, h0, hr⟩ := h.full (by rintro rfl; simp at hi)
  obtain ⟨x0, x1, x2, x3, x4⟩ := hr.at hi
  obtain ⟨y0, y1, y2, y3, y4⟩ := hr.at hj
  have f : ∀ k, w.frozen? ⟨s, k, none⟩ = false := fun k => Beg.free hr k
  have HS : Hid (Row (sto (sto w s (i * 5) (l.getD j Ord.zero)) s (j * 5) (l.getD i Ord.zero)) b s up (sw Ord.zero l i j)) := (h.sto hi (h.okAt j)).sto (by simpa using hj) (h.okAt i)
  generalize l.getD i Ord.zero = x at *
  generalize l.getD j Ord.zero = y at *
  have hi1 : (0 : Int) ≤ (i : Int) := by omega
  have hi2 : (i : Int) < (l.length : Int) := by omega
  have hj1 : (0 : Int) ≤ (j : Int) := by omega
  have hj2 : (j : Int) < (l.length : Int) := by omega
  unfold maxLen at hcm
  clear hr h
  go_enter Try.func90, Try.ntmps90
  go_wp2_with fail
  go_region
  go_end0
  exact ⟨rfl, HS.out.drew, (sto_chg (sto_chg (Chg.refl [s] w) _ _ _ (by simp)) _ _ _ (by simp)).drew⟩
end Go.Proofs.Ytofcphfgpnobnaa
