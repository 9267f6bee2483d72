import Derived.Test.YtofcphfgpnobnaaSort2
namespace Go.Proofs.Ytofcphfgpnobnaa
set_option linter.unusedVariables false
open Go Go.Proofs Go.RowKit

/-- Sorted in blocks of bs. -/
def AllB (up : Bool) (n bs : Nat) (l : List Ord) : Prop := ∀ k, SrtI up l (k * bs) (min (k * bs + bs) n)
/-- The first q blocks of bs are sorted. -/
structure InsB (up : Bool) (bs q a : Nat) (l : List Ord) : Prop where
  at' : a = q * bs
  done : ∀ k, k < q → SrtI up l (k * bs) (k * bs + bs)
theorem InsB.start (up : Bool) (bs : Nat) (l : List Ord) : InsB up bs 0 0 l := ⟨by simp, fun k h => by omega⟩
theorem blk_le {k q bs : Nat} (h : k < q) : k * bs + bs ≤ q * bs := by
  have : (k + 1) * bs ≤ q * bs := Nat.mul_le_mul_right bs h
  rwa [Nat.succ_mul] at this
theorem InsB.step {up : Bool} {bs q a : Nat} {l l' : List Ord} (h : InsB up bs q a l) (m : Mix l l' a (a + bs)) (s : SrtI up l' a (a + bs)) : InsB up bs (q + 1) (a + bs) l' := by
  have e := h.at'
  refine ⟨by rw [Nat.succ_mul, ← e], fun k hk => ?_⟩
  by_cases c : k = q
  · subst c; rw [← e]; exact s
  · have := blk_le (bs := bs) (show k < q by omega)
    exact (h.done k (by omega)).keep m (.inl (by omega))
theorem InsB.last {up : Bool} {bs q a n : Nat} {l l' : List Ord} (h : InsB up bs q a l) (ha : a ≤ n) (hb : n < a + bs) (m : Mix l l' a n) (s : SrtI up l' a n) : AllB up n bs l' := by
  have e := h.at'
  intro k
  by_cases c : k < q
  · have := blk_le (bs := bs) c
    rw [Nat.min_eq_left (by omega)]
    exact (h.done k c).keep m (.inl (by omega))
  · by_cases d : k = q
    · subst d; rw [← e, Nat.min_eq_right (by omega)]; exact s
    · have := blk_le (bs := bs) (show q < k by omega)
      exact SrtI.one up l' (by omega)
/-- The first q blocks of 2 bs are sorted, the rest in blocks of bs. -/
structure MrgB (up : Bool) (n bs q a : Nat) (l : List Ord) : Prop where
  at' : a = q * (2 * bs)
  done : ∀ k, k < q → SrtI up l (k * (2 * bs)) (k * (2 * bs) + 2 * bs)
  rest : ∀ k, 2 * q ≤ k → SrtI up l (k * bs) (min (k * bs + bs) n)
theorem MrgB.start {up : Bool} {n bs : Nat} {l : List Ord} (h : AllB up n bs l) : MrgB up n bs 0 0 l := ⟨by simp, fun k h => by omega, fun k _ => h k⟩
theorem MrgB.pos {up : Bool} {n bs q a : Nat} {l : List Ord} (h : MrgB up n bs q a l) : 2 * q * bs = a ∧ (2 * q + 1) * bs = a + bs := by
  have e : 2 * q * bs = a := by rw [h.at', Nat.mul_comm 2 q, Nat.mul_assoc]
  exact ⟨e, by rw [Nat.succ_mul, e]⟩
theorem MrgB.halves {up : Bool} {n bs q a : Nat} {l : List Ord} (h : MrgB up n bs q a l) : SrtI up l a (min (a + bs) n) ∧ SrtI up l (a + bs) (min (a + bs + bs) n) := by
  obtain ⟨e1, e2⟩ := h.pos
  have h1 := h.rest (2 * q) (Nat.le_refl _)
  have h2 := h.rest (2 * q + 1) (by omega)
  rw [e1] at h1
  rw [e2] at h2
  exact ⟨h1, h2⟩
theorem MrgB.step {up : Bool} {n bs q a : Nat} {l l' : List Ord} (h : MrgB up n bs q a l) (m : Mix l l' a (a + 2 * bs)) (s : SrtI up l' a (a + 2 * bs)) : MrgB up n bs (q + 1) (a + 2 * bs) l' := by
  have e := h.at'
  obtain ⟨e1, e2⟩ := h.pos
  refine ⟨by rw [Nat.succ_mul q (2 * bs), ← e], fun k hk => ?_, fun k hk => ?_⟩
  · by_cases c : k = q
    · subst c; rw [← e]; exact s
    · have := blk_le (bs := 2 * bs) (show k < q by omega)
      exact (h.done k (by omega)).keep m (.inl (by omega))
  · have := blk_le (bs := bs) (show 2 * q + 1 < k by omega)
    exact (h.rest k (by omega)).keep m (.inr (by omega))
theorem MrgB.last {up : Bool} {n bs q a : Nat} {l l' : List Ord} (h : MrgB up n bs q a l) (ha : a ≤ n) (hb : n < a + 2 * bs) (m : Mix l l' a n) (s : SrtI up l' a n) : AllB up n (2 * bs) l' := by
  have e := h.at'
  intro k
  by_cases c : k < q
  · have := blk_le (bs := 2 * bs) c
    rw [Nat.min_eq_left (by omega)]
    exact (h.done k c).keep m (.inl (by omega))
  · by_cases d : k = q
    · subst d; rw [← e, Nat.min_eq_right (by omega)]; exact s
    · have := blk_le (bs := 2 * bs) (show q < k by omega)
      exact SrtI.one up l' (by omega)
theorem AllB.done {up : Bool} {n bs : Nat} {l : List Ord} (h : AllB up n bs l) (hb : n ≤ bs) : SrtI up l 0 n := by
  have := h 0
  simp only [Nat.zero_mul, Nat.zero_add] at this
  rwa [Nat.min_eq_right hb] at this
end Go.Proofs.Ytofcphfgpnobnaa
