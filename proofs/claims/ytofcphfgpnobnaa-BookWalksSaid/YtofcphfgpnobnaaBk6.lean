import Derived.Test.YtofcphfgpnobnaaBk5
namespace Go.Proofs.Ytofcphfgpnobnaa
set_option linter.unusedVariables false
open Go Go.Proofs Go.RowKit

/-- The k-th trade is next; q is still wanted. -/
structure MchAt (o : Ord) (Q : List Ord) (T : List Trd) (lft : Int) (Q' : List Ord) (k : Nat) (q : Int) : Prop where
  le : k ≤ Q.length
  lt : k ≤ T.length
  tr : (mch o q (Q.drop k)).1 = T.drop k
  lf : (mch o q (Q.drop k)).2.1 = lft
  st : 0 < q → (mch o q (Q.drop k)).2.2 = Q'
theorem drop_getO {Q : List Ord} {k : Nat} (h : k < Q.length) : Q.drop k = Q.getD k Ord.zero :: Q.drop (k + 1) := by
  rw [List.drop_eq_getElem_cons h]; simp [List.getD, h]
theorem MchAt.start {o : Ord} {Q : List Ord} {T : List Trd} {lft : Int} {Q' : List Ord} {q : Int} (h : mch o q Q = (T, lft, Q')) : MchAt o Q T lft Q' 0 q :=
  ⟨by omega, by omega, by rw [List.drop_zero, h]; rfl, by rw [List.drop_zero, h], fun _ => by rw [List.drop_zero, h]⟩
theorem MchAt.end' {o : Ord} {Q : List Ord} {T : List Trd} {lft : Int} {Q' : List Ord} {k : Nat} {q : Int} (h : MchAt o Q T lft Q' k q) (g : mch o q (Q.drop k) = ([], q, Q.drop k)) : T.length = k ∧ lft = q := by
  have h1 := h.tr
  have h2 := h.lf
  rw [g] at h1 h2
  have h5 : T.length ≤ k := by
    have := congrArg List.length h1
    simp at this
    omega
  exact ⟨by have := h.lt; omega, h2.symm⟩
theorem MchAt.end_ {o : Ord} {Q : List Ord} {T : List Trd} {lft : Int} {Q' : List Ord} {q : Int} (h : MchAt o Q T lft Q' Q.length q) : T.length = Q.length ∧ lft = q := h.end' (by rw [List.drop_length]; rfl)
theorem MchAt.zero {o : Ord} {Q : List Ord} {T : List Trd} {lft : Int} {Q' : List Ord} {k : Nat} (h : MchAt o Q T lft Q' k 0) : T.length = k ∧ lft = 0 := h.end' (mch_zero _ _)
theorem MchAt.no {o : Ord} {Q : List Ord} {T : List Trd} {lft : Int} {Q' : List Ord} {k : Nat} {q : Int} (h : MchAt o Q T lft Q' k q) (hk : k < Q.length) (hm : meet o (Q.getD k Ord.zero) = false) : T.length = k ∧ lft = q := by
  refine h.end' ?_
  rw [drop_getO hk, mch_no (fun g => by rw [hm] at g; exact absurd g.2 (by simp))]
theorem drop_cons_lt {T : List Trd} {k : Nat} {t : Trd} {R : List Trd} (h : t :: R = T.drop k) : k < T.length ∧ T.getD k Trd.zero = t ∧ R = T.drop (k + 1) := by
  have hk : k < T.length := by
    rcases Nat.lt_or_ge k T.length with h1 | h1
    · exact h1
    · rw [List.drop_eq_nil_of_le h1] at h; cases h
  rw [List.drop_eq_getElem_cons hk] at h
  obtain ⟨h1, h2⟩ := List.cons.inj h
  exact ⟨hk, by simp [List.getD, hk, h1], h2⟩
theorem MchAt.part {o : Ord} {Q : List Ord} {T : List Trd} {lft : Int} {Q' : List Ord} {k : Nat} {q : Int} (h : MchAt o Q T lft Q' k q) (hk : k < Q.length) (hm : meet o (Q.getD k Ord.zero) = true) (hq : 0 < q) (hx : q < (Q.getD k Ord.zero).qty) :
    k < T.length ∧ T.getD k Trd.zero = trd o (Q.getD k Ord.zero) q ∧ MchAt o Q T lft Q' (k + 1) 0 ∧ Q' = { Q.getD k Ord.zero with qty := (Q.getD k Ord.zero).qty - q } :: Q.drop (k + 1) := by
  have h1 := h.tr
  have h2 := h.lf
  have h3 := h.st hq
  rw [drop_getO hk, mch_part hq hm hx] at h1 h2 h3
  obtain ⟨h5, h6, h7⟩ := drop_cons_lt h1
  exact ⟨h5, h6, ⟨by omega, by omega, by rw [mch_zero, ← h7], by rw [mch_zero]; exact h2, fun g => by omega⟩, h3.symm⟩
theorem MchAt.all {o : Ord} {Q : List Ord} {T : List Trd} {lft : Int} {Q' : List Ord} {k : Nat} {q : Int} (h : MchAt o Q T lft Q' k q) (hk : k < Q.length) (hm : meet o (Q.getD k Ord.zero) = true) (hq : 0 < q) (hx : (Q.getD k Ord.zero).qty ≤ q) :
    k < T.length ∧ T.getD k Trd.zero = trd o (Q.getD k Ord.zero) (Q.getD k Ord.zero).qty ∧ MchAt o Q T lft Q' (k + 1) (q - (Q.getD k Ord.zero).qty) := by
  have h1 := h.tr
  have h2 := h.lf
  have h3 := h.st hq
  rw [drop_getO hk, mch_all hq hm hx] at h1 h2 h3
  obtain ⟨h5, h6, h7⟩ := drop_cons_lt h1
  exact ⟨h5, h6, ⟨by omega, by omega, h7, h2, fun _ => h3⟩⟩
end Go.Proofs.Ytofcphfgpnobnaa
