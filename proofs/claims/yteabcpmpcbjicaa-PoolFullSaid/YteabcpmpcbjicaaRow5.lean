
import Derived.Test.YteabcpmpcbjicaaRow4
namespace Go.Proofs.Yteabcpmpcbjicaa
set_option linter.unusedVariables false
set_option maxRecDepth 100000
open Go Go.Proofs Go.RowKit Go.Maps

/-- Envelopes behind each other, from an address on. -/
def EAt (w : World) (ad : Addr) (M : List Env) : Prop := ∀ j u, (flat nc M)[j]? = some u → w.cell? (ad.add j) = some u
theorem EAt.take {w : World} {g : Nat} {L : List Env} (h : Nrow w g L) (k : Nat) : EAt w ⟨g, 0, none⟩ (L.take k) := fun j u hu => by
  rw [add_none, Nat.zero_add]
  refine Beg.at h ?_
  rw [flat_takeE] at hu
  rw [List.getElem?_take] at hu
  split at hu
  · exact hu
  · cases hu
theorem EAt.drop {w : World} {g : Nat} {L : List Env} (h : Nrow w g L) (k o : Nat) (ho : o = k * 4) : EAt w ⟨g, o, none⟩ (L.drop k) := fun j u hu => by
  rw [add_none]
  refine Beg.at h ?_
  rw [flat_dropE, List.getElem?_drop] at hu
  rw [ho]; exact hu
theorem EAt.one {w : World} {g : Nat} {e : Env} (h : Blk w g 32 (nc e)) : EAt w ⟨g, 0, none⟩ [e] := fun j u hu => by
  rw [add_none, Nat.zero_add]
  exact h.at (by simpa [flat] using hu)
/-- append(s, x...) at an operation of a drawn region. -/
theorem wp_app_env {o : Oper} {a : Act} {K : Act → World → Prop} {Q : Exit → Act → World → Prop} {w : World} (s x : Operand) (ho : o.op = .call { callee := .builtin .append, args := #[s, x], argTypes := #[29, 29] })
    {v : Value} {L : List Env} (hs : a.eval s = v) (hown : Erw w v L) (ad : Addr) (m c : Nat) (M : List Env) (hx : a.eval x = .slice (some ad) m c) (hM : M.length = m) (hb : EAt w ad M) (hL : L.length + m ≤ 1000000)
    (h : ∀ v' w', Erw w' v' (L ++ M) → Chg (obl v) w w' → (∀ z ∈ obl v', z ∈ obl v ∨ w.heap.size ≤ z) → K (a.put o.dst v') w') : o.wp Try.prog a w K Q := by
  obtain ⟨i0, hi, hz0, hz1, hz2⟩ := info_parts info_env
  refine wp_append_own w s x 29 ho 0 32 i0 (nv Env.zero) 4 32 Try.underlying29 hi hz0 hz1 hz2 rfl (by decide) v L.length (flat nc L) hs hown ad m c (flat nc M) hx (by rw [flat_len nc_len, hM]) hb (flat_one M) (by unfold maxLen; omega) (by omega) (by omega) ?_
  intro v' w' h1 h2 h3
  refine h v' w' ?_ ((Chg.refl _ _).grown h2 (fun k hk => .inl (by simp [obl, hk]))) (fun z hz => ?_)
  · show World.ownsRow _ _ _ _ _ _ _
    rw [flat_append, List.length_append, hM]
    exact h1
  · rcases h3 with q | q
    · left; show z ∈ v.ownBlock.toList; rw [← q]; exact hz
    · right
      have : z = w.heap.size := by
        have hz2 : v'.ownBlock = some z := by simpa [obl] using hz
        rw [q] at hz2; injection hz2 with e; exact e.symm
      omega
/-- An empty row that was just made. -/
theorem Erw.fresh {w : World} {g : Nat} (h : Blk w g 32 []) : Erw w (.slice (some ⟨g, 0, none⟩) 0 0) [] :=
  ⟨by simp [flat], .inr ⟨g, 0, #[], rfl, Nat.zero_le _, h, Nat.le_refl _, by unfold maxLen; omega, by simp, by simp [flat]⟩⟩
theorem Erw.cap {w : World} {a : Option Addr} {n c : Nat} {L : List Env} (h : Erw w (.slice a n c) L) (hn : 0 < n) : ∃ g, a = some ⟨g, 0, none⟩ ∧ n ≤ c ∧ Nrow w g L := by
  obtain ⟨h1, h2⟩ := h.nsl
  rcases own_erow h with ⟨q1, q2, q3⟩ | ⟨g, cap, q1, q2, q3, q4⟩
  · rw [q3] at h2; simp at h2; omega
  · injection q1 with e1 e2 e3
    subst e1 e3
    obtain ⟨cur, k1, k2, k3⟩ := q4
    exact ⟨g, rfl, by omega, Erow.beg ⟨cur, k1, k2, k3⟩⟩
end Go.Proofs.Yteabcpmpcbjicaa
