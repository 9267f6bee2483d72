
import Derived.Test.YteabcpmpcbjicaaGreatShell
namespace Go.Proofs.YteabcpmpcbjicaaGreat
open Go Go.ChangeShapes Go.WideShapes Go.ChangeAt Go.RowKit Go.Deep
set_option linter.unusedVariables false

def Leaf (P : Program) (t : TypeId) (k : Option IntKind) : Prop := P.cellsOf t = 1 ∧ P.underlying t = some (match k with | some i => .int i | none => .bool)

section
variable {H : Type} {enc : TypeId × Value → H} {P : Program} {w : World} {base : Nat} {spare : Nat → Bool} {held : Bool}
theorem leaf_fits {t : TypeId} {k : Option IntKind} {n : Nat} {v : Value} {y : DataW H × List MemPlace} (hl : Leaf P t k) (h : DataW.trod enc P w base spare held n t [v] = some y) : Fits k v := by
  cases k with
  | some i =>
    obtain ⟨q, e0, _, wq⟩ := DataW.trod_int hl.2 h
    simp at e0
    exact ⟨q, e0, wq⟩
  | none =>
    obtain ⟨q, e0, _⟩ := DataW.trod_bool hl.2 h
    simp at e0
    exact ⟨q, e0⟩
/-- A slice of structs that came in, whose fields are whole numbers, bools, or structs of such. -/
theorem open_rec2 {t e : TypeId} {fs : Array Field} {ks : List (Option IntKind)} {fuel : Nat} {a : Option Addr} {len cap : Nat} {x : DataW H × List MemPlace} (ht : P.underlying t = some (.slice e)) (he : P.underlying e = some (.struct fs))
    (hC : P.cellsOf e = ks.length) (hne : ks ≠ [])
    (hk : ∀ (j : Nat) k, ks[j]? = some k → (∃ (i : Nat) (f : Field), fs[i]? = some f ∧ f.offset = j ∧ Leaf P f.type k) ∨
      (∃ (i : Nat) (f : Field) (gs : Array Field) (i2 : Nat) (g : Field), fs[i]? = some f ∧ P.underlying f.type = some (.struct gs) ∧ gs[i2]? = some g ∧ f.offset + g.offset = j ∧ g.offset < P.cellsOf f.type ∧ Leaf P g.type k))
    (h : DataW.trod enc P w base spare held fuel t (Value.cells (.slice a len cap)).toList = some x) : SRec ks w a len cap := by
  rcases open_slice ht h with ⟨hcs, _⟩ | ⟨y, l, c, m, n, D, Pl, hcs, hb, hl, hm, hmm, hx, hi⟩
  · simp [Value.cells] at hcs
    obtain ⟨rfl, rfl, rfl⟩ := hcs
    exact ⟨by omega, by omega, .inl rfl⟩
  · simp [Value.cells] at hcs
    obtain ⟨rfl, rfl, rfl⟩ := hcs
    refine ⟨hl, by unfold maxLen at hm; omega, ?_⟩
    by_cases h0 : len = 0
    · exact .inl h0
    have hml : len ≤ m := by rw [hmm]; split <;> omega
    have each : ∀ i, i < len → ∀ (j : Nat) k, ks[j]? = some k → ∃ v, w.cell? (y.add (i * ks.length + j)) = some v ∧ Fits k v := by
      intro i hil j k hj
      obtain ⟨cs', hc, ht'⟩ := hi i (by omega)
      rw [hC] at hc
      obtain ⟨ys, n', hn', hy, hlen, hyl, hf⟩ := DataW.trod_struct he ht'
      obtain ⟨_, hcl, hat⟩ := World.cells?_some hc
      have hjl : j < ks.length := (List.getElem?_eq_some_iff.1 hj).1
      have hcell := hat j hjl
      refine ⟨cs'[j]'(by omega), ?_, ?_⟩
      · rw [← Go.Deep.add_add, hcell]
        exact List.getElem?_eq_getElem (by omega)
      have hone' : (cs'.drop j).take 1 = [cs'[j]'(by omega)] := by
        rw [List.drop_eq_getElem_cons (by omega)]
        rfl
      rcases hk j k hj with ⟨i1, f, hfj, ho, hlf⟩ | ⟨i1, f, gs, i2, g, hfj, hst, hgj, ho, hlt, hlf⟩
      · have h1 := hf i1 f hfj
        rw [ho, hlf.1, hone'] at h1
        have hil2 : i1 < fs.size := (Array.getElem?_eq_some_iff.1 hfj).1
        have hys : ys[i1]? = some (ys[i1]'(by omega)) := List.getElem?_eq_getElem (by omega)
        exact leaf_fits hlf (h1.trans hys)
      · have h1 := hf i1 f hfj
        have hil2 : i1 < fs.size := (Array.getElem?_eq_some_iff.1 hfj).1
        have hys : ys[i1]? = some (ys[i1]'(by omega)) := List.getElem?_eq_getElem (by omega)
        obtain ⟨zs, n2, _, hz, hlz, hzl, hg⟩ := DataW.trod_struct hst (h1.trans hys)
        have h2 := hg i2 g hgj
        have hil3 : i2 < gs.size := (Array.getElem?_eq_some_iff.1 hgj).1
        have hzs : zs[i2]? = some (zs[i2]'(by omega)) := List.getElem?_eq_getElem (by omega)
        rw [hlf.1, List.drop_take, List.drop_drop, ho, List.take_take, Nat.min_eq_left (by omega), hone'] at h2
        exact leaf_fits hlf (h2.trans hzs)
    obtain ⟨k0, hk0'⟩ : ∃ k0, ks[0]? = some k0 := by
      cases ks with
      | nil => exact absurd rfl hne
      | cons k l => exact ⟨k, rfl⟩
    obtain ⟨v0, hv0, _⟩ := each 0 (by omega) 0 k0 hk0'
    have hy := spot_none hv0
    have hsp : y = ⟨y.block, y.off, none⟩ := by simpa [Addr.add] using hy
    refine .inr ⟨y.block, y.off, by rw [← hsp], fun i hi j k hj => ?_⟩
    obtain ⟨v, hv, hfit⟩ := each i hi j k hj
    rw [hsp, add_spot] at hv
    exact ⟨v, hv, hfit⟩
end
end Go.Proofs.YteabcpmpcbjicaaGreat
