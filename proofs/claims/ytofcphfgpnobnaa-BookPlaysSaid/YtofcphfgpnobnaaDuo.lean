import Derived.Test.YtofcphfgpnobnaaSid4
import Derived.Test.YtofcphfgpnobnaaShell
namespace Go.Proofs.Ytofcphfgpnobnaa
set_option linter.unusedVariables false
open Go Go.Proofs Go.RowKit
attribute [local go_sem ↓] Go.wp_at_zero Go.wp_at_succ

/-- A step of a queue: int, int, number, number. -/
def Iiuu (w : World) (b o : Nat) (c s m n : Int) : Prop := ∀ wr, Below w.heap.size w wr → wr.cell? ⟨b, o, none⟩ = some (.int .i64 c) ∧
      wr.cell? ⟨b, o + 1, none⟩ = some (.int .i64 s) ∧ wr.cell? ⟨b, o + 2, none⟩ = some (.int .u64 m) ∧ wr.cell? ⟨b, o + 3, none⟩ = some (.int .u64 n)
theorem SRec.get_iiuu {w : World} {a : Option Addr} {len cap : Nat} (h : SRec [some .i64, some .i64, some .u64, some .u64] w a len cap) {i : Nat} (hi : i < len) :
    ∃ b off c s m n, a = some ⟨b, off, none⟩ ∧ I c ∧ I s ∧ U m ∧ U n ∧ Iiuu w b (off + i * 4) c s m n := by
  obtain ⟨b, off, ha, hc⟩ := h.at hi
  obtain ⟨v0, c0, f0⟩ := hc 0 _ rfl
  obtain ⟨v1, c1, f1⟩ := hc 1 _ rfl
  obtain ⟨v2, c2, f2⟩ := hc 2 _ rfl
  obtain ⟨v3, c3, f3⟩ := hc 3 _ rfl
  obtain ⟨c, rfl, hc'⟩ := fits_i64 f0
  obtain ⟨s, rfl, hs'⟩ := fits_i64 f1
  obtain ⟨m, rfl, hm'⟩ := fits_u64 f2
  obtain ⟨n, rfl, hn'⟩ := fits_u64 f3
  exact ⟨b, off, c, s, m, n, ha, hc', hs', hm', hn', fun wr hb => ⟨below_cell hb c0, below_cell hb c1, below_cell hb c2, below_cell hb c3⟩⟩

/-- The queue and the document's own side, of the same orders. -/
structure Duo (w : World) (B b s g t : Nat) (up : Bool) (L : List Ord) : Prop where
  q : Que w b s up L
  r : Sid w g 0 t up L
  lo : B ≤ b ∧ B ≤ s ∧ B ≤ g ∧ B ≤ t
  ap : g ≠ b ∧ g ≠ s ∧ t ≠ b ∧ t ≠ s
theorem Duo.chg {w w' : World} {B b s g t : Nat} {up : Bool} {L : List Ord} (h : Duo w B b s g t up L) (k : Chg [] w w') : Duo w' B b s g t up L :=
  ⟨h.q.chg k (by simp) (by simp), h.r.chg k (by simp) (by simp), h.lo, h.ap⟩
/-- The queue has turned, then the side. -/
theorem Duo.both {w w1 w2 : World} {B b s s' g t t' : Nat} {up : Bool} {L M : List Ord} {S : List Nat} (h : Duo w B b s g t up L) (hq : Que w1 b s' up M) (c1 : Chg S w w1) (hS : ∀ x ∈ S, x = b ∨ x = s) (h1 : s' = s ∨ w.heap.size ≤ s')
    (hr : Sid w2 g 0 t' up M) (c2 : Chg [g] w1 w2) (h2 : t' = t ∨ w1.heap.size ≤ t') (hB : B ≤ w.heap.size) : Duo w2 B b s' g t' up M ∧ ∀ A : World, A.heap.size ≤ B → Chg [] A w → Chg [] A w2 := by
  have z1 := c1.size
  have a1 := h.q.lt
  have a2 := h.r.lt
  have a3 := h.r.sl
  have a4 := hq.lt
  obtain ⟨p1, p2, p3, p4⟩ := h.lo
  obtain ⟨q1, q2, q3, q4⟩ := h.ap
  refine ⟨⟨hq.chg c2 (by simp; omega) (by simp; omega), hr, by omega, by omega⟩, fun A hA k => ?_⟩
  refine (k.trans' c1 fun x hx => .inr ?_).trans' c2 (by simp; omega)
  rcases hS x hx with rfl | rfl <;> omega
theorem Duo.sid {w w1 : World} {B b s g t : Nat} {up : Bool} {L : List Ord} {S : List Nat} (h : Duo w B b s g t up L) (c1 : Chg S w w1) (hS : ∀ x ∈ S, x = b ∨ x = s) : Sid w1 g 0 t up L := by
  obtain ⟨q1, q2, q3, q4⟩ := h.ap
  refine h.r.chg c1 (fun hm => ?_) (fun hm => ?_)
  · rcases hS _ hm with h | h
    · exact q1 h
    · exact q2 h
  · rcases hS _ hm with h | h
    · exact q3 h
    · exact q4 h
theorem erase_zero (x : Ord) (L : List Ord) : (x :: L).eraseIdx 0 = L := rfl
theorem sans_erase {L : List Ord} {k : Int} {j : Nat} (hi : Ids L) (hj : j < L.length) (h : (L.getD j Ord.zero).id = k) : sans k L = L.eraseIdx j := by
  induction L generalizing j with
  | nil => simp at hj
  | cons x L ih =>
    have hn := List.nodup_cons.1 hi
    cases j with
    | zero =>
      have h' : x.id = k := h
      show List.filter _ (x :: L) = L
      rw [List.filter_cons_of_neg (by simp [h'])]
      exact sans_none fun y hy e => hn.1 (by rw [h', ← e]; exact List.mem_map_of_mem hy)
    | succ j =>
      have hj' : j < L.length := by simpa using hj
      have h' : (L.getD j Ord.zero).id = k := h
      have hx : x.id ≠ k := fun e => hn.1 (by rw [e, ← h']; exact List.mem_map_of_mem (mem_getDO hj'))
      show List.filter _ (x :: L) = x :: L.eraseIdx j
      rw [List.filter_cons_of_pos (by simp [hx]), ← ih hn.2 hj' h']
      rfl
end Go.Proofs.Ytofcphfgpnobnaa
