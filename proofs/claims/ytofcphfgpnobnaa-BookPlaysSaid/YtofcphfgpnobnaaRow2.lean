import Derived.Test.YtofcphfgpnobnaaRow
namespace Go.Proofs.Ytofcphfgpnobnaa
set_option linter.unusedVariables false
open Go Go.Proofs Go.RowKit
attribute [local go_sem ↓] Go.wp_at_zero Go.wp_at_succ

/-- (*row).Len. -/
theorem rowLen {w : World} {b s : Nat} {up : Bool} {l : List Ord} (h : Row w b s up l) : Calls Try.prog 43 #[.pointer (some ⟨b, 0, none⟩)] w fun e w' => e = .returned (.int .i64 l.length) ∧ w = w' := by
  obtain ⟨a, cap, h0⟩ := h.head
  go_enter Try.func43, Try.ntmps43
  go_wp2
  go_ret
  exact ⟨rfl, rfl⟩

set_option maxRecDepth 100000 in
set_option maxHeartbeats 1000000 in
/-- (*row).Less. -/
theorem rowLess {w : World} {b s : Nat} {up : Bool} {l : List Ord} (h : Row w b s up l) {i j : Nat} (hi : i < l.length) (hj : j < l.length) :
    Calls Try.prog 87 #[.pointer (some ⟨b, 0, none⟩), .int .i64 i, .int .i64 j] w fun e w' => e = .returned (.bool (ahead up (l.getD i Ord.zero) (l.getD j Ord.zero))) ∧ Chg [] w w' := by
  obtain ⟨cap, hne, hlc, hcm, h0, hr⟩ := h.full (by rintro rfl; simp at hi)
  have hu := h.up
  obtain ⟨x0, x1, x2, x3, x4⟩ := hr.at hi
  obtain ⟨y0, y1, y2, y3, y4⟩ := hr.at hj
  have HO := Lib.hid (ordN_lt up (l.getD i Ord.zero) (l.getD j Ord.zero))
  generalize l.getD i Ord.zero = x at *
  generalize l.getD j Ord.zero = y at *
  have hi1 : (0 : Int) ≤ (i : Int) := by omega
  have hi2 : (i : Int) < (l.length : Int) := by omega
  have hj1 : (0 : Int) ≤ (j : Int) := by omega
  have hj2 : (j : Int) < (l.length : Int) := by omega
  unfold maxLen at hcm
  clear hr h
  go_enter Try.func87, Try.ntmps87
  go_wp2_with fail
  go_still_tail 15, (by kernel_rfl)
  change wpList _ _ _ _ _ w.drew
  have hc : Chg [] w w.drew := (Chg.refl [] w).drew
  have hu2 : w.drew.cell? ⟨b, 1, none⟩ = some (.bool up) := hu
  clear hu h0 x0 x1 x2 x3 x4 y0 y1 y2 y3 y4
  generalize w.drew = w2 at *
  go_wp2_with fail
  refine (order_any hu2 x y).mono ?_
  rintro e w' ⟨rfl, hc2⟩
  go_wp2_with fail
  go_ret
  exact ⟨ret_bool HO.out, hc.trans hc2⟩
end Go.Proofs.Ytofcphfgpnobnaa
