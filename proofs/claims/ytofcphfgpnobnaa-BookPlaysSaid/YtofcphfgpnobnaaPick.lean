import Derived.Test.YtofcphfgpnobnaaPr
namespace Go.Proofs.Ytofcphfgpnobnaa
set_option linter.unusedVariables false
open Go Go.Proofs Go.RowKit
attribute [local go_sem ↓] Go.wp_at_zero Go.wp_at_succ

/-- An order that is looked for. -/
def pickQ (k : Int) : List Ord → Ord × Bool
  | [] => (Ord.zero, false)
  | x :: L => if x.id = k then (x, true) else pickQ k L
theorem pickQ_no {k : Int} {L : List Ord} (h : ∀ x ∈ L, x.id ≠ k) : pickQ k L = (Ord.zero, false) := by
  induction L with
  | nil => rfl
  | cons x L ih => show ite _ _ _ = _; rw [if_neg (h x (by simp)), ih fun y hy => h y (by simp [hy])]
theorem pickQ_yes {k : Int} {L : List Ord} (hi : Ids L) {x : Ord} (hx : x ∈ L) (hk : x.id = k) : pickQ k L = (x, true) := by
  induction L with
  | nil => simp at hx
  | cons y L ih =>
    show ite _ _ _ = _
    by_cases h : y.id = k
    · rw [if_pos h]
      have := ids_eq hi (by simp : y ∈ y :: L) hx (by rw [h, hk])
      rw [this]
    · rw [if_neg h]
      rcases List.mem_cons.1 hx with e | e
      · subst e; exact absurd hk h
      · exact ih (List.nodup_cons.1 hi).2 e
theorem pickQ_spec (k : Int) (L : List Ord) : ((pickQ k L).2 = true ∧ (pickQ k L).1 ∈ L ∧ (pickQ k L).1.id = k) ∨ (pickQ k L = (Ord.zero, false) ∧ ∀ x ∈ L, x.id ≠ k) := by
  induction L with
  | nil => exact .inr ⟨rfl, by simp⟩
  | cons y L ih =>
    by_cases h : y.id = k
    · have e : pickQ k (y :: L) = (y, true) := if_pos h
      rw [e]; exact .inl ⟨rfl, by simp, h⟩
    · have e : pickQ k (y :: L) = pickQ k L := if_neg h
      rw [e]
      rcases ih with ⟨h1, h2, h3⟩ | ⟨h1, h2⟩
      · exact .inl ⟨h1, by simp [h2], h3⟩
      · exact .inr ⟨h1, fun x hx => by
          rcases List.mem_cons.1 hx with e | e
          · subst e; exact h
          · exact h2 x e⟩
/-- Find on a queue. -/
theorem qFind_any {w : World} {b s : Nat} {up : Bool} {L : List Ord} (h : Que w b s up L) (k : Int) : Calls Try.prog 21 #[.pointer (some ⟨b, 0, none⟩), .int .i64 k] w fun e w' => e = .returned (.tuple #[ov (pickQ k L).1, .bool (pickQ k L).2]) ∧ Chg [] w w' := by
  by_cases hx : ∃ x ∈ L, x.id = k
  · obtain ⟨x, h1, h2⟩ := hx
    rw [pickQ_yes h.ids h1 h2]
    exact qFind_yes h h1 h2
  · have hn : ∀ x ∈ L, x.id ≠ k := fun x h1 h2 => hx ⟨x, h1, h2⟩
    rw [pickQ_no hn]
    exact qFind_no h hn
theorem qRemove_pick {w : World} {b s : Nat} {up : Bool} {L : List Ord} (h : Que w b s up L) (hm : L.length < 1000000000000) (k : Int) : Calls Try.prog 19 #[.pointer (some ⟨b, 0, none⟩), .int .i64 k] w fun e w' => e = .returned (.tuple #[ov (pickQ k L).1, .bool (pickQ k L).2]) ∧ Que w' b s up (sans k L) ∧ Chg [b, s] w w' := by
  by_cases hx : ∃ x ∈ L, x.id = k
  · obtain ⟨x, h1, h2⟩ := hx
    rw [pickQ_yes h.ids h1 h2]
    exact qRemove_yes h hm h1 h2
  · have hn : ∀ x ∈ L, x.id ≠ k := fun x h1 h2 => hx ⟨x, h1, h2⟩
    rw [pickQ_no hn, sans_none hn]
    refine (qRemove_no h hn).mono ?_
    rintro e w' ⟨rfl, c⟩
    exact ⟨rfl, h.chg c (by simp) (by simp), c.mono (by simp)⟩

def hdO : List Ord → Ord × Bool
  | [] => (Ord.zero, false)
  | x :: _ => (x, true)
theorem qPeek_any {w : World} {b s : Nat} {up : Bool} {L : List Ord} (h : Que w b s up L) : Calls Try.prog 14 #[.pointer (some ⟨b, 0, none⟩)] w fun e w' => e = .returned (.tuple #[ov (hdO L).1, .bool (hdO L).2]) ∧ Chg [] w w' := by
  cases L with
  | nil => exact qPeek_nil h
  | cons x L => exact qPeek_cons h
end Go.Proofs.Ytofcphfgpnobnaa
