import Derived.Test.YtkjkkchpicehoaaAcct4
namespace Go.Proofs.Ytkjkkchpicehoaa
set_option linter.unusedVariables false
open Go Go.Proofs Go.RowKit

theorem put_is {w : World} {b s n : Nat} {xs : List Int} (h : Acc w b s n xs) (c a v e0 : Int) (ys : List Int) (hv : U v) (h1 : aPutE n xs c a v = e0) (h2 : aPut n xs c a v = ys) :
    Calls Try.prog 25 #[.pointer (some ⟨b, 0, none⟩), .int .i64 c, .int .i64 a, .int .u64 v] w fun e w' => e = .returned (.int .i64 e0) ∧ Acc w' b s n ys ∧ Chg [s] w w' := by
  subst h1; subst h2; exact put_any h c a v hv
theorem take_is {w : World} {b s n : Nat} {xs : List Int} (h : Acc w b s n xs) (c a v e0 : Int) (ys : List Int) (hv : U v) (h1 : aTakeE n xs c a v = e0) (h2 : aTake n xs c a v = ys) :
    Calls Try.prog 26 #[.pointer (some ⟨b, 0, none⟩), .int .i64 c, .int .i64 a, .int .u64 v] w fun e w' => e = .returned (.int .i64 e0) ∧ Acc w' b s n ys ∧ Chg [s] w w' := by
  subst h1; subst h2; exact take_any h c a v hv
theorem free_is {w : World} {b s n : Nat} {xs : List Int} (h : Acc w b s n xs) (c a r : Int) (h1 : aFree n xs c a = r) :
    Calls Try.prog 29 #[.pointer (some ⟨b, 0, none⟩), .int .i64 c, .int .i64 a] w fun e w' => e = .returned (.int .u64 r) ∧ w = w' := by
  subst h1; exact free_any h c a
theorem sumA_is {w : World} {b s n : Nat} {xs : List Int} (h : Acc w b s n xs) (a r : Int) (ok : Bool) (h1 : aSumN n xs a = r) (h2 : aSumB n xs a = ok) :
    Calls Try.prog 27 #[.pointer (some ⟨b, 0, none⟩), .int .i64 a] w fun e w' => e = .returned (.tuple #[.int .u64 r, .bool ok]) ∧ Chg [] w w' := by
  subst h1; subst h2; exact sumA_any h a
theorem new_is (c : Int) (n : Nat) (xs : List Int) (w : World) (h1 : aN c = n) (h2 : zeros (n * 2) = xs) :
    Calls Try.prog 24 #[.int .i64 c] w fun e w' => ∃ b s, e = .returned (.pointer (some ⟨b, 0, none⟩)) ∧ Acc w' b s n xs ∧ Chg [] w w' ∧ w.heap.size ≤ s ∧ w.heap.size ≤ b := by
  subst h1; subst h2; exact new_any c w
theorem Acc.lt {w : World} {b s n : Nat} {xs : List Int} (h : Acc w b s n xs) : b < w.heap.size ∧ s < w.heap.size := ⟨h.head.elim fun c g => g.2.2.lt, h.row.lt⟩

set_option maxHeartbeats 2000000 in
theorem awake6 (w : World) : Calls Try.prog 28 #[] w fun e w' => e = .returned (.bool true) ∧ Below w.heap.size w w' := by
  go_enter Try.func28, Try.ntmps28
  go_wp2_with fail
  refine (new_is 2 2 [0, 0, 0, 0] _ (by decide) (by decide)).mono ?_
  rintro e w1 ⟨b, s, rfl, h1, c1, g1, g2⟩
  go_wp2_with fail
  refine (put_is h1 1 1 5 0 [0, 0, 0, 5] ⟨by omega, by omega⟩ (by decide) (by decide)).mono ?_
  rintro e w2 ⟨rfl, h2, c2⟩
  go_wp2_with fail
  refine (take_is h2 1 1 7 4 [0, 0, 0, 5] ⟨by omega, by omega⟩ (by decide) (by decide)).mono ?_
  rintro e w3 ⟨rfl, h3, c3⟩
  go_wp2_with fail
  refine (sumA_is h3 1 5 true (by decide) (by decide)).mono ?_
  rintro e w4 ⟨rfl, c4⟩
  have h4 := h3.chg c4 (by simp) (by simp)
  go_wp2_with fail
  refine (copy_any h4).mono ?_
  rintro e w5 ⟨b', s', rfl, h5, c5, g3, g4⟩
  have h5' := h4.chg c5 (by simp) (by simp)
  go_wp2_with fail
  refine (take_is h5 1 1 5 0 [0, 0, 0, 0] ⟨by omega, by omega⟩ (by decide) (by decide)).mono ?_
  rintro e w6 ⟨rfl, h6, c6⟩
  have h6' := h5'.chg c6 (by have := h4.lt; simp; omega) (by have := h4.lt; simp; omega)
  go_wp2_with fail
  refine (put_is h6' 2 0 1 2 [0, 0, 0, 5] ⟨by omega, by omega⟩ (by decide) (by decide)).mono ?_
  rintro e w7 ⟨rfl, h7, c7⟩
  have h7' := h6.chg c7 (by have := h4.lt; simp; omega) (by have := h4.lt; simp; omega)
  go_wp2_with fail
  refine (put_is h7 0 2 1 3 [0, 0, 0, 5] ⟨by omega, by omega⟩ (by decide) (by decide)).mono ?_
  rintro e w8 ⟨rfl, h8, c8⟩
  have h8' := h7'.chg c8 (by have := h4.lt; simp; omega) (by have := h4.lt; simp; omega)
  go_wp2_with fail
  refine (put_is h8 1 1 18446744073709551615 5 [0, 0, 0, 5] ⟨by omega, by omega⟩ (by decide) (by decide)).mono ?_
  rintro e w9 ⟨rfl, h9, c9⟩
  have h9' := h8'.chg c9 (by have := h4.lt; simp; omega) (by have := h4.lt; simp; omega)
  go_wp2_with fail
  refine (free_is h9 1 1 5 (by decide)).mono ?_
  rintro e w' ⟨rfl, rfl⟩
  go_wp2_with fail
  refine (free_is h9' 1 1 0 (by decide)).mono ?_
  rintro e w' ⟨rfl, rfl⟩
  go_wp2_with fail
  go_ret
  have hz := h4.lt
  have z5 := c5.size
  have z1 := c1.size
  have z2 := c2.size
  have z3 := c3.size
  have z4 := c4.size
  have hs : ∀ x ∈ [s], x ∈ ([] : List Nat) ∨ w.heap.size ≤ x := by simpa using g1
  have hs' : ∀ x ∈ [s'], x ∈ ([] : List Nat) ∨ w.heap.size ≤ x := by simp; omega
  exact ⟨rfl, ((((((((c1.trans' c2 hs).trans' c3 hs).trans c4).trans c5).trans' c6 hs').trans' c7 hs).trans' c8 hs).trans' c9 hs).below⟩
end Go.Proofs.Ytkjkkchpicehoaa
