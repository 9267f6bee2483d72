import Derived.Test.YtkjkkchpicehoaaLaw1
namespace Go.Proofs.Ytkjkkchpicehoaa
set_option linter.unusedVariables false
open Go Go.Proofs Go.RowKit

/-- What was added and multiplied. -/
theorem cAdd_comm (a b : Int) : cAddN a b = cAddN b a ∧ cAddB a b = cAddB b a := by
  unfold cAddN cAddB; rw [Int.add_comm]; exact ⟨rfl, rfl⟩
theorem cMul_comm (a b : Int) : cMulN a b = cMulN b a ∧ cMulB a b = cMulB b a := by
  unfold cMulN cMulB; rw [Int.mul_comm]; exact ⟨rfl, rfl⟩
theorem sum3 (a b c : Int) (ha : U a) (hb : U b) (hc : U c) : cSumB [a, b, c] = (cAddB a b && cAddB (cAddN a b) c) ∧ (cSumB [a, b, c] = true → cSumN [a, b, c] = cAddN (cAddN a b) c) := by
  obtain ⟨a0, a1⟩ := ha; obtain ⟨b0, b1⟩ := hb; obtain ⟨c0, c1⟩ := hc
  have e : sumFrom 0 [a, b, c] = if a + b < 18446744073709551616 then (if a + b + c < 18446744073709551616 then some (a + b + c) else none) else none := by
    simp only [sumFrom, Int.zero_add]; rw [if_pos a1]
  unfold cSumB cSumN cAddB cAddN
  rw [e]
  by_cases h : a + b < 18446744073709551616
  · by_cases g : a + b + c < 18446744073709551616 <;> simp [h, g]
  · simp [h]

set_option maxHeartbeats 2000000 in
/-- The walk, where all that it asks is known. -/
theorem back_true (a b c s m x : Int) (yes : Bool) (w : World) (ha : U a) (hb : U b) (hc : U c) (hs : U s) (h1 : Hid (cAddN a b = s)) (h2 : Hid (cAddB a b = true)) (h3 : Hid (cSubN s b = a)) (h4 : Hid (cSubB s b = true)) (h5 : a ≤ s)
    (good : Bool) (h6 : Hid (cMulN a b = m)) (h7 : Hid (cMulB a b = good)) (h8 : good = false ∨ good = true ∧ ¬ 0 < a ∨ good = true ∧ 0 < a ∧ (IntKind.u64.wrap (m.tdiv a) != b) = false ∧ (m % a != 0) = false) (h9 : 0 ≤ m) 
    (h10 : Hid (cSumN [a, b, c] = x)) (h11 : Hid (cSumB [a, b, c] = yes)) (h12 : Hid (cAddB s c = yes)) (h13 : yes = false ∨ yes = true ∧ (x == cAddN s c) = true) :
    Calls Try.prog 7 #[.int .u64 a, .int .u64 b, .int .u64 c] w fun e w' => e = .returned (.bool true) ∧ Below w.heap.size w w' := by
  have a0 := ha.1
  have b0 := hb.1
  rcases h8 with rfl | ⟨rfl, g1⟩ | ⟨rfl, g1, g2, g3⟩ <;> rcases h13 with rfl | ⟨rfl, g4⟩
  all_goals
    go_enter Try.func7, Try.ntmps7
    go_wp2_with fail
    refine (add_is _ _ s true _ ha hb h1.out h2.out).mono ?_
    rintro e w' ⟨rfl, rfl⟩
    go_wp2_with fail
    refine (add_is _ _ s true _ hb ha ((cAdd_comm _ _).1.trans h1.out) ((cAdd_comm _ _).2.trans h2.out)).mono ?_
    rintro e w' ⟨rfl, rfl⟩
    go_wp2_with fail
    refine (sub_is _ _ a true _ hs hb h3.out h4.out).mono ?_
    rintro e w' ⟨rfl, rfl⟩
    go_wp2_with fail
    refine (mul_is _ _ m _ _ ha hb h6.out h7.out).mono ?_
    rintro e w' ⟨rfl, rfl⟩
    go_wp2_with fail
    refine (mul_is _ _ m _ _ hb ha ((cMul_comm _ _).1.trans h6.out) ((cMul_comm _ _).2.trans h7.out)).mono ?_
    rintro e w' ⟨rfl, rfl⟩
    go_wp2_with fail
    refine (sum_is _ 3 _ [a, b, c] _ x _ h10.out h11.out rfl (by simp [ha, hb, hc]) (by simp) (row64_new _ _ _ _ rfl)).mono ?_
    rintro e w' ⟨rfl, rfl⟩
    go_wp2_with fail
    refine (add_is _ _ _ _ _ hs hc rfl h12.out).mono ?_
    rintro e w' ⟨rfl, rfl⟩
    go_wp2_with fail
    refine (awake1 _).mono ?_
    rintro e w' ⟨rfl, hw⟩
    go_wp2_with fail
    go_ret
    exact ⟨rfl, ((Below.refl _ _).alloc (Nat.le_refl _) _).trans (hw.mono (by simp))⟩

set_option maxHeartbeats 2000000 in
theorem back_false (a b c m x : Int) (w : World) (ha : U a) (hb : U b) (hc : U c) (h1 : Hid (cAddN a b = 0)) (h2 : Hid (cAddB a b = false)) (h5 : ¬ a ≤ IntKind.u64.wrap (a + b))
    (good : Bool) (h6 : Hid (cMulN a b = m)) (h7 : Hid (cMulB a b = good)) (h8 : good = false ∨ good = true ∧ ¬ 0 < a ∨ good = true ∧ 0 < a ∧ (IntKind.u64.wrap (m.tdiv a) != b) = false ∧ (m % a != 0) = false) (h9 : 0 ≤ m) 
    (h10 : Hid (cSumN [a, b, c] = x)) (h11 : Hid (cSumB [a, b, c] = false)) :
    Calls Try.prog 7 #[.int .u64 a, .int .u64 b, .int .u64 c] w fun e w' => e = .returned (.bool true) ∧ Below w.heap.size w w' := by
  have a0 := ha.1
  have b0 := hb.1
  rcases h8 with rfl | ⟨rfl, g1⟩ | ⟨rfl, g1, g2, g3⟩
  all_goals
    go_enter Try.func7, Try.ntmps7
    go_wp2_with fail
    refine (add_is _ _ 0 false _ ha hb h1.out h2.out).mono ?_
    rintro e w' ⟨rfl, rfl⟩
    go_wp2_with fail
    refine (add_is _ _ 0 false _ hb ha ((cAdd_comm _ _).1.trans h1.out) ((cAdd_comm _ _).2.trans h2.out)).mono ?_
    rintro e w' ⟨rfl, rfl⟩
    go_wp2_with fail
    refine (mul_is _ _ m _ _ ha hb h6.out h7.out).mono ?_
    rintro e w' ⟨rfl, rfl⟩
    go_wp2_with fail
    refine (mul_is _ _ m _ _ hb ha ((cMul_comm _ _).1.trans h6.out) ((cMul_comm _ _).2.trans h7.out)).mono ?_
    rintro e w' ⟨rfl, rfl⟩
    go_wp2_with fail
    refine (sum_is _ 3 _ [a, b, c] _ x _ h10.out h11.out rfl (by simp [ha, hb, hc]) (by simp) (row64_new _ _ _ _ rfl)).mono ?_
    rintro e w' ⟨rfl, rfl⟩
    go_wp2_with fail
    refine (add_any 0 c _ ⟨by omega, by omega⟩ hc).mono ?_
    rintro e w' ⟨rfl, rfl⟩
    go_wp2_with fail
    refine (awake1 _).mono ?_
    rintro e w' ⟨rfl, hw⟩
    go_wp2_with fail
    go_ret
    exact ⟨rfl, ((Below.refl _ _).alloc (Nat.le_refl _) _).trans (hw.mono (by simp))⟩

theorem mul_facts (a b : Int) (ha : U a) (hb : U b) : 0 ≤ cMulN a b ∧ (cMulB a b = false ∨ cMulB a b = true ∧ ¬ 0 < a ∨ cMulB a b = true ∧ 0 < a ∧ (IntKind.u64.wrap ((cMulN a b).tdiv a) != b) = false ∧ (cMulN a b % a != 0) = false) := by
  refine ⟨(cMul_U ha hb).1, ?_⟩
  cases h : cMulB a b with
  | false => exact .inl rfl
  | true =>
    right
    by_cases h0 : 0 < a
    · right
      have : cMulN a b = a * b := by unfold cMulB at h; unfold cMulN; simp at h; rw [if_pos h]
      rw [this]
      refine ⟨rfl, h0, ?_, ?_⟩
      · rw [Int.mul_tdiv_cancel_left _ (by omega), IntKind.wrap_u64]; have := hb.1; have := hb.2; rw [Int.emod_eq_of_lt (by omega) (by omega)]; simp
      · rw [Int.mul_emod_right]; rfl
    · exact .inl ⟨rfl, h0⟩

theorem back_walk (a b c : Int) (w : World) (ha : U a) (hb : U b) (hc : U c) :
    Calls Try.prog 7 #[.int .u64 a, .int .u64 b, .int .u64 c] w fun e w' => e = .returned (.bool true) ∧ Below w.heap.size w w' := by
  obtain ⟨m0, m1⟩ := mul_facts a b ha hb
  obtain ⟨e5, e6⟩ := sum3 a b c ha hb hc
  cases h : cAddB a b with
  | true =>
    have hn : cAddN a b = a + b := by unfold cAddB at h; unfold cAddN; simp at h; rw [if_pos h]
    rw [h, Bool.true_and] at e5
    refine back_true a b c (cAddN a b) _ _ (cAddB (cAddN a b) c) w ha hb hc (cAdd_U ha hb) rfl h ?_ ?_ ?_ (cMulB a b) rfl rfl m1 m0 rfl e5 rfl ?_
    · have := ha.1; show cSubN _ _ = _; rw [hn]; unfold cSubN; rw [if_pos (by omega)]; omega
    · have := ha.1; show cSubB _ _ = _; rw [hn]; unfold cSubB; simp; omega
    · have := hb.1; rw [hn]; omega
    · cases g : cAddB (cAddN a b) c with
      | false => exact .inl rfl
      | true => exact .inr ⟨rfl, by rw [beq_iff_eq]; exact e6 (e5.trans g)⟩
  | false =>
    have hlt : ¬ a + b < 18446744073709551616 := by unfold cAddB at h; simpa using h
    refine back_false a b c _ _ w ha hb hc ?_ h ?_ (cMulB a b) rfl rfl m1 m0 rfl ?_
    · show cAddN _ _ = _; unfold cAddN; rw [if_neg hlt]
    · have := ha.1; have := ha.2; have := hb.1; have := hb.2; rw [IntKind.wrap_u64]; omega
    · show cSumB _ = _; rw [e5, h]; rfl
end Go.Proofs.Ytkjkkchpicehoaa
