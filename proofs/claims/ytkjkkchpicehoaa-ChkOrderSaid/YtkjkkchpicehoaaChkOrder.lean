import Derived.Test.YtkjkkchpicehoaaLaw1
namespace Go.Proofs.Ytkjkkchpicehoaa
set_option linter.unusedVariables false
open Go Go.Proofs Go.RowKit

/-- What is greater, added, taken away, multiplied. -/
theorem order_facts (a lo hi : Int) (ha : U a) (h0 : U lo) (h1 : U hi) (h : lo ≤ hi) :
    (cAddB a hi = true → cAddB a lo = true ∧ cAddN a lo ≤ cAddN a hi) ∧ (cSubB a hi = true → cSubB a lo = true ∧ cSubN a hi ≤ cSubN a lo) ∧
      (cMulB a hi = true → cMulB a lo = true ∧ cMulN a lo ≤ cMulN a hi) ∧ (cSubB a hi = false → a ≤ hi) := by
  obtain ⟨a0, a1⟩ := ha
  have hm : a * lo ≤ a * hi := Int.mul_le_mul_of_nonneg_left h a0
  refine ⟨fun g => ?_, fun g => ?_, fun g => ?_, fun g => ?_⟩
  · unfold cAddB at g ⊢; unfold cAddN; simp at g ⊢; rw [if_pos (by omega), if_pos (by omega)]; omega
  · unfold cSubB at g ⊢; unfold cSubN; simp at g ⊢; rw [if_pos (by omega), if_pos (by omega)]; omega
  · unfold cMulB at g ⊢; unfold cMulN; simp at g ⊢; rw [if_pos (by omega), if_pos (by omega)]; omega
  · unfold cSubB at g; simp at g; omega

set_option maxHeartbeats 2000000 in
theorem order_walk (a b c : Int) (w : World) (ha : U a) (hb : U b) (hc : U c) :
    Calls Try.prog 5 #[.int .u64 a, .int .u64 b, .int .u64 c] w fun e w' => e = .returned (.bool true) ∧ Below w.heap.size w w' := by
  obtain ⟨lo, hi, hlo, h0, h1, hbc⟩ : ∃ lo hi, lo ≤ hi ∧ U lo ∧ U hi ∧ (b < c ∧ b = lo ∧ c = hi ∨ c < b ∧ c = lo ∧ b = hi ∨ b = c ∧ b = lo ∧ b = hi) := by
    by_cases h : b < c
    · exact ⟨b, c, by omega, hb, hc, .inl ⟨h, rfl, rfl⟩⟩
    by_cases g : c < b
    · exact ⟨c, b, by omega, hc, hb, .inr (.inl ⟨g, rfl, rfl⟩)⟩
    · exact ⟨b, b, by omega, hb, hb, .inr (.inr ⟨by omega, rfl, rfl⟩)⟩
  obtain ⟨f1, f2, f3, f4⟩ := order_facts a lo hi ha h0 h1 hlo
  clear hb hc hlo
  cases x1 : cAddB a hi
  case' true => obtain ⟨f11, f12⟩ := f1 x1
  all_goals cases x2 : cSubB a hi
  case' false.true | true.true => obtain ⟨f21, f22⟩ := f2 x2
  case' false.false | true.false => have f41 := f4 x2
  all_goals cases x3 : cMulB a hi
  case' false.false.true | true.false.true | false.true.true | true.true.true => obtain ⟨f31, f32⟩ := f3 x3
  all_goals
    clear f1 f2 f3 f4
    rcases hbc with ⟨h, rfl, rfl⟩ | ⟨h, rfl, rfl⟩ | ⟨rfl, rfl, rfl⟩
  all_goals
    go_enter Try.func5, Try.ntmps5
    go_wp2_with fail
    refine (add_any _ _ _ ha h0).mono ?_
    rintro e w' ⟨rfl, rfl⟩
    go_wp2_with fail
    refine (add_any _ _ _ ha h1).mono ?_
    rintro e w' ⟨rfl, rfl⟩
    go_wp2_with fail
    refine (sub_any _ _ _ ha h0).mono ?_
    rintro e w' ⟨rfl, rfl⟩
    go_wp2_with fail
    refine (sub_any _ _ _ ha h1).mono ?_
    rintro e w' ⟨rfl, rfl⟩
    go_wp2_with fail
    refine (mul_any _ _ _ ha h0).mono ?_
    rintro e w' ⟨rfl, rfl⟩
    go_wp2_with fail
    refine (mul_any _ _ _ ha h1).mono ?_
    rintro e w' ⟨rfl, rfl⟩
    go_wp2_with fail
    all_goals
      refine (awake1 _).mono ?_
      rintro e w' ⟨rfl, hw⟩
      go_wp2_with fail
      go_ret
      exact ⟨rfl, hw⟩
end Go.Proofs.Ytkjkkchpicehoaa
