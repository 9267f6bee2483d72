
import Derived.Test.YteabcpmpcbjicaaEx5
namespace Go.Proofs.Yteabcpmpcbjicaa
set_option linter.unusedVariables false
open Go Go.Proofs Go.RowKit
attribute [local go_sem ↓] Go.wp_at_zero Go.wp_at_succ

set_option maxRecDepth 100000 in
set_option maxHeartbeats 4000000 in
theorem awake10 (w : World) : Calls Try.prog 33 #[] w fun e w' => e = .returned (.bool true) ∧ Chg [] w w' := by
  go_enter Try.func33, Try.ntmps33
  go_wp2_with fail
  refine (new_is 2 2 [0, 0, 0, 0] w (by decide) (by decide)).mono ?_
  rintro e w1 ⟨ab, s, rfl, ha1, c1, ls, lb⟩
  go_wp2_with fail
  refine (put_is ha1 0 1 100 0 [0, 100, 0, 0] ⟨by omega, by omega⟩ (by decide) (by decide)).mono ?_
  rintro e w2 ⟨rfl, ha2, c2⟩
  go_wp2_with fail
  refine (put_is ha2 1 0 10 0 [0, 100, 10, 0] ⟨by omega, by omega⟩ (by decide) (by decide)).mono ?_
  rintro e w3 ⟨rfl, ha3, c3⟩
  have hc3 : Chg [] w w3 := (c1.trans' c2 (fun z hz => .inr (by simp at hz; omega))).trans' c3 (fun z hz => .inr (by simp at hz; omega))
  clear ha1 ha2 c1 c2 c3
  go_wp2_with fail
  refine (exNew ha3 hc3 lb ls).mono ?_
  rintro e w4 ⟨x, kb, F, rfl, h4⟩
  clear ha3 hc3
  go_wp2_with fail
  refine (limit_yes h4 (by omega) 1 false 7 4 ⟨by omega, by omega⟩ ⟨by omega, by omega⟩ ⟨by omega, by omega⟩ (by decide) [0, 100, 6, 0] [0, 100, 6, 0] [] 4 [] [] (by decide) (by decide) (by decide) (by decide) (by decide)).mono ?_
  rintro e w5 ⟨a5, d5, rfl, -, F5, h5, -, -, -⟩
  clear h4
  have e5 : (restL ⟨((0 : Nat) : Int) + 1, 1, false, 7, 4⟩ [], restM ⟨((0 : Nat) : Int) + 1, 1, false, 7, 4⟩ []) = (([] : List Ord), [(⟨1, 1, false, 7, 4⟩ : Ord)]) := by decide
  obtain ⟨e51, e52⟩ := Prod.mk.inj e5
  rw [e51, e52] at h5
  clear e5 e51 e52
  go_wp2_with fail
  refine (limit_yes h5 (by omega) 0 true 9 6 ⟨by omega, by omega⟩ ⟨by omega, by omega⟩ ⟨by omega, by omega⟩ (by decide) [0, 46, 6, 0] [4, 54, 6, 28] [⟨1, 2, 0, 1, 7, 4⟩] 2 [] [] (by decide) (by decide) (by decide) (by decide) (by decide)).mono ?_
  rintro e w6 ⟨a6, d6, rfl, hT, F6, h6, -, -, hG6⟩
  obtain ⟨z1, z2, z3, z4, z5⟩ := h5.lt
  clear h5
  have e6 : (restL ⟨((0 + 1 : Nat) : Int) + 1, 0, true, 9, 2⟩ [], restM ⟨((0 + 1 : Nat) : Int) + 1, 0, true, 9, 2⟩ []) = ([(⟨2, 0, true, 9, 2⟩ : Ord)], ([] : List Ord)) := by decide
  obtain ⟨e61, e62⟩ := Prod.mk.inj e6
  rw [e61, e62] at h6
  clear e6 e61 e62
  simp only [List.length_cons, List.length_nil]
  obtain ⟨gt, rfl, g1, g2, t0⟩ := tr_at hT (k := 0) (by simp)
  have hF6 : gt ∉ F6 := hG6 gt rfl (by simp)
  have hs6 : s ≠ gt := by omega
  clear hT
  go_wp2_with fail
  refine (locked_any h6 (by omega) 0 1 18 (by decide)).mono ?_
  rintro e w7 ⟨rfl, c7⟩
  have h7 := h6.to c7
  clear h6
  go_wp2_with fail
  refine (cancel_no h7 (by omega) 2 ⟨2, 0, true, 9, 2⟩ true (by decide) 1 (.inr (by decide))).mono ?_
  rintro e w8 ⟨rfl, h8, c8⟩
  clear h7
  go_wp2_with fail
  refine (cancel_yes h8 (by omega) 2 ⟨2, 0, true, 9, 2⟩ (by decide) 0 rfl).mono ?_
  rintro e w9 ⟨rfl, h9, c9⟩
  clear h8
  go_wp2_with fail
  refine (limit_no h9 (by omega) 0 true 0 1 ⟨by omega, by omega⟩ ⟨by omega, by omega⟩ ⟨by omega, by omega⟩ 6 (by decide) (by omega)).mono ?_
  rintro e w10 ⟨rfl, h10, c10⟩
  clear h9
  have cA : Chg (s :: F6) w6 w10 := (((c7.trans c8).mono (by simp)).trans c9).trans (c10.mono (by simp))
  have p4 := cA.cell t0.c4 (by simp; exact ⟨fun e => hs6 e.symm, hF6⟩)
  have p5 := cA.cell t0.c5 (by simp; exact ⟨fun e => hs6 e.symm, hF6⟩)
  simp at p4 p5
  clear cA t0 c7 c8 c9 c10
  go_wp2_with fail
  refine (free_is h10.a 0 1 72 (by decide)).mono ?_
  rintro e w11 ⟨rfl, rfl⟩
  go_wp2_with fail
  refine (free_is h10.a 1 1 28 (by decide)).mono ?_
  rintro e w11 ⟨rfl, rfl⟩
  go_wp2_with fail
  refine (free_is h10.a 0 0 4 (by decide)).mono ?_
  rintro e w11 ⟨rfl, rfl⟩
  go_wp2_with fail
  refine (free_is h10.a 1 0 6 (by decide)).mono ?_
  rintro e w11 ⟨rfl, rfl⟩
  go_wp2_with fail
  go_ret
  exact ⟨rfl, h10.b.c⟩
end Go.Proofs.Yteabcpmpcbjicaa
