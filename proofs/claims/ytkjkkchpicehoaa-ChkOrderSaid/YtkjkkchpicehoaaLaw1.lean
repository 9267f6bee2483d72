import Derived.Test.YtkjkkchpicehoaaMul
namespace Go.Proofs.Ytkjkkchpicehoaa
set_option linter.unusedVariables false
open Go Go.Proofs Go.RowKit

theorem heap_new (w : World) (o : Obj) : (w.alloc o).heap[w.heap.size]? = some o := (Go.MapKept.heap_alloc w o).1

theorem row64_new (w : World) (c : Array Value) (T : TypeId) (l : List Int) (h : c = (l.map (Value.int .u64)).toArray) : Row64 (w.alloc (.cells c T)) (some ⟨w.heap.size, 0, none⟩) l := by
  subst h
  refine .inr ⟨_, 0, rfl, fun j hj => ?_⟩
  simp only [World.cell?, heap_new]
  simp [hj, List.getD]

set_option maxHeartbeats 400000 in
theorem awake1 (w : World) : Calls Try.prog 18 #[] w fun e w' => e = .returned (.bool true) ∧ Below w.heap.size w w' := by
  go_enter Try.func18, Try.ntmps18
  go_wp2_with fail
  refine (add_is 3 4 7 true _ ⟨by omega, by omega⟩ ⟨by omega, by omega⟩ (by decide) (by decide)).mono ?_
  rintro e w' ⟨rfl, rfl⟩
  go_wp2_with fail
  refine (sub_is 1 2 0 false _ ⟨by omega, by omega⟩ ⟨by omega, by omega⟩ (by decide) (by decide)).mono ?_
  rintro e w' ⟨rfl, rfl⟩
  go_wp2_with fail
  refine (mul_is 4294967296 2147483648 9223372036854775808 true _ ⟨by omega, by omega⟩ ⟨by omega, by omega⟩ (by decide) (by decide)).mono ?_
  rintro e w' ⟨rfl, rfl⟩
  go_wp2_with fail
  refine (sum_is _ 3 _ [1, 2, 3] _ 6 true (by decide) (by decide) rfl (by simp [U]) (by simp) (row64_new _ _ _ _ rfl)).mono ?_
  rintro e w' ⟨rfl, rfl⟩
  go_wp2_with fail
  go_ret
  exact ⟨rfl, (Below.refl _ _).alloc (Nat.le_refl _) _⟩

/-- What is greater, added, taken away, multiplied. -/
theorem order_facts (a lo hi : Int) (ha : U a) (h0 : U lo) (h1 : U hi) (h : lo ≤ hi) :
    (cAddB a hi = true → cAddB a lo = true ∧ cAddN a lo ≤ cAddN a hi) ∧ (cSubB a hi = true → cSubB a lo = true ∧ cSubN a hi ≤ cSubN a lo) ∧
      (cMulB a hi = true → cMulB a lo = true ∧ cMulN a lo ≤ cMulN a hi) ∧ (cSubB a hi = false → a ≤ hi) := by
  obtain ⟨a0, a1⟩ := ha
  have hm : a * lo ≤ a * hi := Int.mul_le_mul_of_nonneg_left h a0
  refine ⟨fun g => ?_, fun g => ?_, fun g => ?_, fun g => ?_⟩
  · unfold cAddB at g ⊢; unfold cAddN; simp at g ⊢; rw [if_pos (by omega), if_pos (by omega)]; omega
  · unfold cSubB at g ⊢; unfold cSubN; simp at g ⊢; rw [if_pos (by omega), if_pos (by omega)]; omega
  · unfold cMulB at g ⊢; unfold cMulN; simp at g ⊢; rw [if_pos (by omega), if_pos (by omega)]; omega
  · unfold cSubB at g; simp at g; omega

set_option maxHeartbeats 2000000 in
theorem order_walk (a b c : Int) (w : World) (ha : U a) (hb : U b) (hc : U c) :
    Calls Try.prog 5 #[.int .u64 a, .int .u64 b, .int .u64 c] w fun e w' => e = .returned (.bool true) ∧ Below w.heap.size w w' := by
  obtain ⟨lo, hi, hlo, h0, h1, hbc⟩ : ∃ lo hi, lo ≤ hi ∧ U lo ∧ U hi ∧ (b < c ∧ b = lo ∧ c = hi ∨ c < b ∧ c = lo ∧ b = hi ∨ b = c ∧ b = lo ∧ b = hi) := by
    by_cases h : b < c
    · exact ⟨b, c, by omega, hb, hc, .inl ⟨h, rfl, rfl⟩⟩
    by_cases g : c < b
    · exact ⟨c, b, by omega, hc, hb, .inr (.inl ⟨g, rfl, rfl⟩)⟩
    · exact ⟨b, b, by omega, hb, hb, .inr (.inr ⟨by omega, rfl, rfl⟩)⟩
  obtain ⟨f1, f2, f3, f4⟩ := order_facts a lo hi ha h0 h1 hlo
  clear hb hc hlo
  cases x1 : cAddB a hi
  case' true => obtain ⟨f11, f12⟩ := f1 x1
  all_goals cases x2 : cSubB a hi
  case' false.true | true.true => obtain ⟨f21, f22⟩ := f2 x2
  case' false.false | true.false => have f41 := f4 x2
  all_goals cases x3 : cMulB a hi
  case' false.false.true | true.false.true | false.true.true | true.true.true => obtain ⟨f31, f32⟩ := f3 x3
  all_goals
    clear f1 f2 f3 f4
    rcases hbc with ⟨h, rfl, rfl⟩ | ⟨h, rfl, rfl⟩ | ⟨rfl, rfl, rfl⟩
  all_goals
    go_enter Try.func5, Try.ntmps5
    go_wp2_with fail
    refine (add_any _ _ _ ha h0).mono ?_
    rintro e w' ⟨rfl, rfl⟩
    go_wp2_with fail
    refine (add_any _ _ _ ha h1).mono ?_
    rintro e w' ⟨rfl, rfl⟩
    go_wp2_with fail
    refine (sub_any _ _ _ ha h0).mono ?_
    rintro e w' ⟨rfl, rfl⟩
    go_wp2_with fail
    refine (sub_any _ _ _ ha h1).mono ?_
    rintro e w' ⟨rfl, rfl⟩
    go_wp2_with fail
    refine (mul_any _ _ _ ha h0).mono ?_
    rintro e w' ⟨rfl, rfl⟩
    go_wp2_with fail
    refine (mul_any _ _ _ ha h1).mono ?_
    rintro e w' ⟨rfl, rfl⟩
    go_wp2_with fail
    all_goals
      refine (awake1 _).mono ?_
      rintro e w' ⟨rfl, hw⟩
      go_wp2_with fail
      go_ret
      exact ⟨rfl, hw⟩
end Go.Proofs.Ytkjkkchpicehoaa
