
import Derived.Test.YteabcpmpcbjicaaGreatRows
import Derived.Test.YteabcpmpcbjicaaGreatBase
import Derived.WalkKit
import Derived.ProofKit
import Derived.OpenShut
import Derived.ShutString
import Derived.ChangeOld
import Derived.Below
import Derived.Deep.Slices
import Derived.Deep.Fields
import Derived.ChangeSame
namespace Go.Proofs.YteabcpmpcbjicaaGreat
open Go Go.ChangeShapes Go.WideShapes Go.ChangeAt Go.RowKit Go.Deep

/-- A slice of integers that came in: it is nil, or it leads to a row of cells; zs: its elements. -/
def SRow (k : IntKind) (w : World) (a : Option Addr) (len cap : Nat) (zs : List Int) : Prop :=
  zs.length = len ∧ len ≤ cap ∧ cap ≤ 9223372036854775807 ∧ (∀ n ∈ zs, (Lit.int k n).wf = true) ∧
  (zs = [] ∨ ∃ b off, a = some ⟨b, off, none⟩ ∧ ∀ i, i < len → w.cell? ⟨b, off + i, none⟩ = some (.int k (zs.getD i 0)))

/-- Of a field that is whole number of that kind (some), or a bool (none): its value fits. -/
def Fits : Option IntKind → Value → Prop
  | some k, v => ∃ n, v = .int k n ∧ (Lit.int k n).wf = true
  | none, v => ∃ b, v = .bool b

/-- A slice of structs of such fields that came in. -/
def SRec (ks : List (Option IntKind)) (w : World) (a : Option Addr) (len cap : Nat) : Prop :=
  len ≤ cap ∧ cap ≤ 9223372036854775807 ∧
  (len = 0 ∨ ∃ b off, a = some ⟨b, off, none⟩ ∧ ∀ i, i < len → ∀ (j : Nat) k, ks[j]? = some k → ∃ v, w.cell? ⟨b, off + (i * ks.length + j), none⟩ = some v ∧ Fits k v)

theorem spot_none {w : World} {x : Addr} {v : Value} (h : w.cell? x = some v) : x = ⟨x.block, x.off, none⟩ := by
  obtain ⟨b, o, s⟩ := x
  cases s with
  | none => rfl
  | some s => simp only [World.cell?] at h; split at h <;> simp at h

theorem add_spot (b o i : Nat) : (Addr.mk b o none).add i = ⟨b, o + i, none⟩ := by
  unfold Addr.add; split
  · subst_vars; rfl
  · rfl

section
variable {H : Type} {enc : TypeId × Value → H} {P : Program} {w : World} {base : Nat} {spare : Nat → Bool} {held : Bool}
theorem open_row {t e : TypeId} {k : IntKind} {fuel : Nat} {a : Option Addr} {len cap : Nat} {x : DataW H × List MemPlace} (ht : P.underlying t = some (.slice e)) (he : P.underlying e = some (.int k)) (h1 : P.cellsOf e = 1)
    (h : DataW.trod enc P w base spare held fuel t (Value.cells (.slice a len cap)).toList = some x) : ∃ zs, SRow k w a len cap zs := by
  rcases open_ints ht he h1 h with ⟨hcs, _⟩ | ⟨y, l, c, zs, hcs, _, hl, hm, hz, hx, hcell, hwz⟩
  · simp [Value.cells] at hcs
    obtain ⟨rfl, rfl, rfl⟩ := hcs
    exact ⟨[], rfl, by omega, by omega, by simp, .inl rfl⟩
  · simp [Value.cells] at hcs
    obtain ⟨rfl, rfl, rfl⟩ := hcs
    have hz' : len ≤ zs.length := by rw [hz]; split <;> omega
    refine ⟨zs.take len, by simp; omega, hl, by unfold maxLen at hm; omega, fun n hn => hwz n (List.mem_of_mem_take hn), ?_⟩
    by_cases h0 : len = 0
    · exact .inl (by simp [h0])
    · have hy := spot_none (hcell 0 (by omega))
      have hsp : y = ⟨y.block, y.off, none⟩ := by simpa [Addr.add] using hy
      refine .inr ⟨y.block, y.off, by rw [← hsp], fun i hi => ?_⟩
      have := hcell i (by omega)
      rw [hsp, add_spot] at this
      rw [this]
      congr 2
      simp [List.getD, hi]

theorem open_rec {t e : TypeId} {fs : Array Field} {ks : List (Option IntKind)} {fuel : Nat} {a : Option Addr} {len cap : Nat} {x : DataW H × List MemPlace} (ht : P.underlying t = some (.slice e)) (he : P.underlying e = some (.struct fs))
    (hone : oneCellFields P fs = true) (hC : P.cellsOf e = fs.size) (hks : ks.length = fs.size) (hne : ks ≠ [])
    (hk : ∀ (j : Nat) k, ks[j]? = some k → ∃ f : Field, fs[j]? = some f ∧ P.underlying f.type = some (match k with | some i => .int i | none => .bool))
    (h : DataW.trod enc P w base spare held fuel t (Value.cells (.slice a len cap)).toList = some x) : SRec ks w a len cap := by
  rcases open_slice ht h with ⟨hcs, _⟩ | ⟨y, l, c, m, n, D, Pl, hcs, hb, hl, hm, hmm, hx, hi⟩
  · simp [Value.cells] at hcs
    obtain ⟨rfl, rfl, rfl⟩ := hcs
    exact ⟨by omega, by omega, .inl rfl⟩
  · simp [Value.cells] at hcs
    obtain ⟨rfl, rfl, rfl⟩ := hcs
    refine ⟨hl, by unfold maxLen at hm; omega, ?_⟩
    by_cases h0 : len = 0
    · exact .inl h0
    have hml : len ≤ m := by rw [hmm]; split <;> omega
    have each : ∀ i, i < len → ∀ (j : Nat) k, ks[j]? = some k → ∃ v, w.cell? (y.add (i * ks.length + j)) = some v ∧ Fits k v := by
      intro i hil j k hj
      obtain ⟨cs', hc, ht'⟩ := hi i (by omega)
      rw [hC] at hc
      obtain ⟨ys, n', hn', hy, hlen, hyl, hf⟩ := DataW.trod_struct he ht'
      obtain ⟨_, hcl, hat⟩ := World.cells?_some hc
      obtain ⟨f, hfj, hty⟩ := hk j k hj
      have hjl : j < fs.size := (Array.getElem?_eq_some_iff.1 hfj).1
      obtain ⟨ho, hkk⟩ := hone_of hone j f hfj
      have hcell := hat j hjl
      have h1 := hf j f hfj
      rw [ho, hkk] at h1
      have hone' : (cs'.drop j).take 1 = [cs'[j]'(by omega)] := by
        rw [List.drop_eq_getElem_cons (by omega)]
        rfl
      rw [hone'] at h1
      have hys : ys[j]? = some (ys[j]'(by omega)) := List.getElem?_eq_getElem (by omega)
      refine ⟨cs'[j]'(by omega), ?_, ?_⟩
      · rw [hks, ← Go.Deep.add_add, hcell]
        exact List.getElem?_eq_getElem (by omega)
      · cases k with
        | some i => 
          obtain ⟨q, e0, _, wq⟩ := DataW.trod_int hty (h1.trans hys)
          simp at e0
          exact ⟨q, e0, wq⟩
        | none =>
          obtain ⟨q, e0, _⟩ := DataW.trod_bool hty (h1.trans hys)
          simp at e0
          exact ⟨q, e0⟩
    obtain ⟨k0, hk0'⟩ : ∃ k0, ks[0]? = some k0 := by
      cases ks with
      | nil => exact absurd rfl hne
      | cons k l => exact ⟨k, rfl⟩
    obtain ⟨v0, hv0, _⟩ := each 0 (by omega) 0 k0 hk0'
    have hy := spot_none hv0
    have hsp : y = ⟨y.block, y.off, none⟩ := by simpa [Addr.add] using hy
    refine .inr ⟨y.block, y.off, by rw [← hsp], fun i hi j k hj => ?_⟩
    obtain ⟨v, hv, hfit⟩ := each i hi j k hj
    rw [hsp, add_spot] at hv
    exact ⟨v, hv, hfit⟩
end

theorem SRow.row {w : World} {a : Option Addr} {len cap : Nat} {zs : List Int} (h : SRow .u64 w a len cap zs) : len = zs.length ∧ len ≤ cap ∧ cap ≤ 9223372036854775807 ∧ (∀ x ∈ zs, U x) ∧ Row64 w a zs := by
  obtain ⟨h1, h2, h3, h4, h5⟩ := h
  refine ⟨h1.symm, h2, h3, fun x hx => ?_, ?_⟩
  · have := bounds_u64 (h4 x hx); exact ⟨this.1, by omega⟩
  · rcases h5 with h5 | ⟨b, off, ha, hc⟩
    · exact .inl h5
    · exact .inr ⟨b, off, ha, fun j hj => hc j (by omega)⟩

theorem U_wf {n : Int} (h : (Lit.int .u64 n).wf = true) : U n := by have := bounds_u64 h; exact ⟨this.1, by omega⟩
theorem I_wf {n : Int} (h : (Lit.int .i64 n).wf = true) : I n := by have := bounds_i64 h; exact ⟨by omega, by omega⟩

theorem SRec.below {ks : List (Option IntKind)} {w wr : World} {a : Option Addr} {len cap : Nat} (h : SRec ks w a len cap) (hb : Below w.heap.size w wr) : SRec ks wr a len cap := by
  obtain ⟨h1, h2, h3⟩ := h
  refine ⟨h1, h2, ?_⟩
  rcases h3 with h3 | ⟨b, off, h3, h4⟩
  · exact .inl h3
  · refine .inr ⟨b, off, h3, fun i hi j k hj => ?_⟩
    obtain ⟨v, hv, hf⟩ := h4 i hi j k hj
    refine ⟨v, ?_, hf⟩
    rw [← hv]
    have hlt : b < w.heap.size := by
      unfold World.cell? at hv
      split at hv
      · rename_i h2; exact (Array.getElem?_eq_some_iff.1 h2).1
      · simp at hv
    exact hb.cell (p := ⟨b, _, none⟩) hlt
/-- The address of a slice that has elements, and the cells of one of them. -/
theorem SRec.at {ks : List (Option IntKind)} {w : World} {a : Option Addr} {len cap : Nat} (h : SRec ks w a len cap) {i : Nat} (hi : i < len) :
    ∃ b off, a = some ⟨b, off, none⟩ ∧ ∀ (j : Nat) k, ks[j]? = some k → ∃ v, w.cell? ⟨b, off + (i * ks.length + j), none⟩ = some v ∧ Fits k v := by
  obtain ⟨h1, h2, h3⟩ := h
  rcases h3 with h3 | ⟨b, off, h3, h4⟩
  · omega
  · exact ⟨b, off, h3, h4 i hi⟩
theorem fits_i64 {v : Value} (h : Fits (some .i64) v) : ∃ n, v = .int .i64 n ∧ I n := by obtain ⟨n, h1, h2⟩ := h; exact ⟨n, h1, I_wf h2⟩
theorem fits_u64 {v : Value} (h : Fits (some .u64) v) : ∃ n, v = .int .u64 n ∧ U n := by obtain ⟨n, h1, h2⟩ := h; exact ⟨n, h1, U_wf h2⟩
/-- A step of accounts: bool, int, int, number. -/
theorem SRec.at_biiu {w : World} {a : Option Addr} {len cap : Nat} (h : SRec [none, some .i64, some .i64, some .u64] w a len cap) {i : Nat} (hi : i < len) :
    ∃ b off t c s n, a = some ⟨b, off, none⟩ ∧ I c ∧ I s ∧ U n ∧ w.cell? ⟨b, off + i * 4, none⟩ = some (.bool t) ∧ w.cell? ⟨b, off + i * 4 + 1, none⟩ = some (.int .i64 c) ∧
      w.cell? ⟨b, off + i * 4 + 2, none⟩ = some (.int .i64 s) ∧ w.cell? ⟨b, off + i * 4 + 3, none⟩ = some (.int .u64 n) := by
  obtain ⟨b, off, ha, hc⟩ := h.at hi
  obtain ⟨v0, c0, t, rfl⟩ := hc 0 _ rfl
  obtain ⟨v1, c1, f1⟩ := hc 1 _ rfl
  obtain ⟨v2, c2, f2⟩ := hc 2 _ rfl
  obtain ⟨v3, c3, f3⟩ := hc 3 _ rfl
  obtain ⟨c, rfl, hc'⟩ := fits_i64 f1
  obtain ⟨s, rfl, hs'⟩ := fits_i64 f2
  obtain ⟨n, rfl, hn'⟩ := fits_u64 f3
  exact ⟨b, off, t, c, s, n, ha, hc', hs', hn', c0, c1, c2, c3⟩
theorem below_cell {w wr : World} {a : Addr} {v : Value} (hb : Below w.heap.size w wr) (h : w.cell? a = some v) : wr.cell? a = some v := by
  rw [← h]
  refine hb.cell ?_
  unfold World.cell? at h
  split at h
  · rename_i h2; exact (Array.getElem?_eq_some_iff.1 h2).1
  · simp at h
/-- What a step's cells are, in this and every later world. -/
def Biiu (w : World) (b o : Nat) (t : Bool) (c s n : Int) : Prop := ∀ wr, Below w.heap.size w wr → wr.cell? ⟨b, o, none⟩ = some (.bool t) ∧ wr.cell? ⟨b, o + 1, none⟩ = some (.int .i64 c) ∧
      wr.cell? ⟨b, o + 2, none⟩ = some (.int .i64 s) ∧ wr.cell? ⟨b, o + 3, none⟩ = some (.int .u64 n)
theorem SRec.get_biiu {w : World} {a : Option Addr} {len cap : Nat} (h : SRec [none, some .i64, some .i64, some .u64] w a len cap) {i : Nat} (hi : i < len) :
    ∃ b off t c s n, a = some ⟨b, off, none⟩ ∧ I c ∧ I s ∧ U n ∧ Biiu w b (off + i * 4) t c s n := by
  obtain ⟨b, off, t, c, s, n, h1, h2, h3, h4, h5, h6, h7, h8⟩ := h.at_biiu hi
  exact ⟨b, off, t, c, s, n, h1, h2, h3, h4, fun wr hb => ⟨below_cell hb h5, below_cell hb h6, below_cell hb h7, below_cell hb h8⟩⟩
/-- A step of fees: int, int, number. -/
theorem SRec.at_iiu {w : World} {a : Option Addr} {len cap : Nat} (h : SRec [some .i64, some .i64, some .u64] w a len cap) {i : Nat} (hi : i < len) :
    ∃ b off c s n, a = some ⟨b, off, none⟩ ∧ I c ∧ I s ∧ U n ∧ w.cell? ⟨b, off + i * 3, none⟩ = some (.int .i64 c) ∧
      w.cell? ⟨b, off + i * 3 + 1, none⟩ = some (.int .i64 s) ∧ w.cell? ⟨b, off + i * 3 + 2, none⟩ = some (.int .u64 n) := by
  obtain ⟨b, off, ha, hc⟩ := h.at hi
  obtain ⟨v1, c1, f1⟩ := hc 0 _ rfl
  obtain ⟨v2, c2, f2⟩ := hc 1 _ rfl
  obtain ⟨v3, c3, f3⟩ := hc 2 _ rfl
  obtain ⟨c, rfl, hc'⟩ := fits_i64 f1
  obtain ⟨s, rfl, hs'⟩ := fits_i64 f2
  obtain ⟨n, rfl, hn'⟩ := fits_u64 f3
  exact ⟨b, off, c, s, n, ha, hc', hs', hn', c1, c2, c3⟩

def Iiu (w : World) (b o : Nat) (c s n : Int) : Prop := ∀ wr, Below w.heap.size w wr → wr.cell? ⟨b, o, none⟩ = some (.int .i64 c) ∧
      wr.cell? ⟨b, o + 1, none⟩ = some (.int .i64 s) ∧ wr.cell? ⟨b, o + 2, none⟩ = some (.int .u64 n)
theorem SRec.get_iiu {w : World} {a : Option Addr} {len cap : Nat} (h : SRec [some .i64, some .i64, some .u64] w a len cap) {i : Nat} (hi : i < len) :
    ∃ b off c s n, a = some ⟨b, off, none⟩ ∧ I c ∧ I s ∧ U n ∧ Iiu w b (off + i * 3) c s n := by
  obtain ⟨b, off, c, s, n, h1, h2, h3, h4, h6, h7, h8⟩ := h.at_iiu hi
  exact ⟨b, off, c, s, n, h1, h2, h3, h4, fun wr hb => ⟨below_cell hb h6, below_cell hb h7, below_cell hb h8⟩⟩

/-- What there is of each place comes as one list. -/
theorem exists_list {α : Type} (n : Nat) (Q : Nat → α → Prop) (h : ∀ i, i < n → ∃ x, Q i x) : ∃ l : List α, l.length = n ∧ ∀ i x, l[i]? = some x → Q i x := by
  induction n with
  | zero => exact ⟨[], rfl, by simp⟩
  | succ n ih =>
    obtain ⟨l, hl, hq⟩ := ih fun i hi => h i (by omega)
    obtain ⟨x, hx⟩ := h n (by omega)
    refine ⟨l ++ [x], by simp [hl], fun i y hy => ?_⟩
    rw [List.getElem?_append] at hy
    split at hy
    · exact hq i y hy
    · have : i = n := by
        rcases Nat.lt_or_ge (i - l.length) 1 with h1 | h1
        · omega
        · rw [List.getElem?_eq_none (by simpa using h1)] at hy; simp at hy
      subst this
      rw [hl] at hy
      simp at hy
      exact hy ▸ hx
end Go.Proofs.YteabcpmpcbjicaaGreat
