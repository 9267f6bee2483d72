import Derived.Test.YtofcphfgpnobnaaPick
import Derived.Test.YtofcphfgpnobnaaDuo
namespace Go.Proofs.Ytofcphfgpnobnaa
set_option linter.unusedVariables false
open Go Go.Proofs Go.RowKit
attribute [local go_sem ↓] Go.wp_at_zero Go.wp_at_succ

/-- Where an order stands. -/
def atQ (k : Int) : List Ord → Int
  | [] => -1
  | x :: L => if x.id = k then 0 else if atQ k L < 0 then -1 else atQ k L + 1
theorem atQ_found (k : Int) (L : List Ord) : FoundAt L k (atQ k L) := by
  induction L with
  | nil => exact .inr ⟨by simp, rfl⟩
  | cons x L ih =>
    by_cases h : x.id = k
    · have e : atQ k (x :: L) = 0 := if_pos h
      rw [e]; exact .inl ⟨0, by simp, h, rfl⟩
    · have e : atQ k (x :: L) = if atQ k L < 0 then -1 else atQ k L + 1 := if_neg h
      rw [e]
      rcases ih with ⟨j, hj, g, hr⟩ | ⟨g, hr⟩
      · rw [hr, if_neg (by omega)]
        exact .inl ⟨j + 1, by simpa using hj, g, by simp⟩
      · rw [hr, if_pos (by omega)]
        refine .inr ⟨fun y hy => ?_, rfl⟩
        rcases List.mem_cons.1 hy with e | e
        · subst e; exact h
        · exact g y e
theorem getD_ids {L : List Ord} (hi : Ids L) {i j : Nat} (h : i < L.length) (g : j < L.length) (e : (L.getD i Ord.zero).id = (L.getD j Ord.zero).id) : i = j := by
  have h2 : (L.map Ord.id)[i]'(by simpa using h) = (L.map Ord.id)[j]'(by simpa using g) := by
    simpa [List.getD, h, g] using e
  have hp := List.pairwise_iff_getElem.1 hi
  rcases Nat.lt_trichotomy i j with h3 | h3 | h3
  · exact absurd h2 (hp i j (by simpa using h) (by simpa using g) h3)
  · exact h3
  · exact absurd h2.symm (hp j i (by simpa using g) (by simpa using h) h3)
theorem found_uniq {L : List Ord} {k r r' : Int} (hi : Ids L) (h : FoundAt L k r) (g : FoundAt L k r') : r = r' := by
  rcases h with ⟨j, hj, e, hr⟩ | ⟨h, hr⟩
  · rcases g with ⟨i, hi', e', hr'⟩ | ⟨g, _⟩
    · have := getD_ids hi hj hi' (by rw [e, e'])
      rw [hr, hr', this]
    · exact absurd e (g _ (mem_getDO hj))
  · rcases g with ⟨i, hi', e', _⟩ | ⟨_, hr'⟩
    · exact absurd e' (h _ (mem_getDO hi'))
    · rw [hr, hr']
theorem atQ_pick {k : Int} {L : List Ord} (hi : Ids L) : (∃ j : Nat, j < L.length ∧ atQ k L = j ∧ pickQ k L = (L.getD j Ord.zero, true)) ∨ (atQ k L = -1 ∧ pickQ k L = (Ord.zero, false)) := by
  rcases atQ_found k L with ⟨j, hj, e, hr⟩ | ⟨h, hr⟩
  · exact .inl ⟨j, hj, hr, pickQ_yes hi (mem_getDO hj) e⟩
  · exact .inr ⟨hr, pickQ_no h⟩
theorem rAt_eq {w : World} {g o s : Nat} {up : Bool} {L : List Ord} (h : Sid w g o s up L) (hi : Ids L) (k : Int) (hm : L.length ≤ 1000000000000) :
    Calls Try.prog 24 #[.pointer (some ⟨g, o, none⟩), .int .i64 k] w fun e w' => e = .returned (.int .i64 (atQ k L)) ∧ w = w' := by
  refine (rAt h k hm).mono ?_
  rintro e w' ⟨⟨r, rfl, hF⟩, rfl⟩
  exact ⟨by rw [found_uniq hi hF (atQ_found k L)], rfl⟩
/-- A side's own row. -/
theorem Sid.osq {w : World} {g o s : Nat} {up : Bool} {L : List Ord} (h : Sid w g o s up L) : ∃ a c, w.cell? ⟨g, o + 1, none⟩ = some (.slice a L.length c) ∧ L.length ≤ c ∧ c ≤ maxLen ∧ Osq w a L := by
  obtain ⟨a, c, h1, h2, h3, h4⟩ := h.row
  exact ⟨a, c, h1, h2, h3, h4.imp id fun ⟨h5, h6⟩ => ⟨s, h5, h6⟩⟩
end Go.Proofs.Ytofcphfgpnobnaa
