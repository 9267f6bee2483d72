import Derived.Test.YtofcphfgpnobnaaMem
namespace Go.Proofs.Ytofcphfgpnobnaa
set_option linter.unusedVariables false
open Go Go.Proofs Go.RowKit

/-! Rows of records: their cells, one record behind the other. -/
def flat {α : Type} (c : α → List Value) : List α → List Value
  | [] => []
  | x :: l => c x ++ flat c l
theorem flat_len {α : Type} {c : α → List Value} {n : Nat} (h : ∀ x, (c x).length = n) (l : List α) : (flat c l).length = l.length * n := by
  induction l with
  | nil => simp [flat]
  | cons x l ih => simp only [flat, List.length_append, ih, h, List.length_cons, Nat.add_mul, Nat.one_mul]; omega
theorem flat_append {α : Type} (c : α → List Value) (l m : List α) : flat c (l ++ m) = flat c l ++ flat c m := by
  induction l with
  | nil => rfl
  | cons x l ih => simp [flat, ih]
theorem flat_snoc {α : Type} (c : α → List Value) (l : List α) (x : α) : flat c (l ++ [x]) = flat c l ++ c x := by rw [flat_append]; simp [flat]
theorem flat_get {α : Type} {c : α → List Value} {n : Nat} (h : ∀ x, (c x).length = n) (d : α) (l : List α) (k j : Nat) (hj : j < n) (hk : k < l.length) : (flat c l)[k * n + j]? = (c (l.getD k d))[j]? := by
  induction l generalizing k with
  | nil => simp at hk
  | cons x l ih =>
    cases k with
    | zero =>
      simp only [flat, Nat.zero_mul, Nat.zero_add]
      rw [List.getElem?_append_left (by rw [h]; exact hj)]
      rfl
    | succ k =>
      simp only [flat]
      rw [List.getElem?_append_right (by rw [h, Nat.add_mul]; omega), h, show (k + 1) * n + j - n = k * n + j by rw [Nat.add_mul]; omega, ih k (by simpa using hk)]
      rfl
theorem flat_take {α : Type} {c : α → List Value} {n : Nat} (h : ∀ x, (c x).length = n) (l : List α) (k : Nat) : flat c (l.take k) = (flat c l).take (k * n) := by
  induction l generalizing k with
  | nil => simp [flat]
  | cons x l ih =>
    cases k with
    | zero => simp [flat]
    | succ k =>
      simp only [List.take_succ_cons, flat, ih]
      rw [List.take_append, h, List.take_of_length_le (l := c x) (by rw [h, Nat.add_mul]; omega), show (k + 1) * n - n = k * n by rw [Nat.add_mul]; omega]
/-- The cells of a record at a place of a block. -/
def RAt (w : World) (s i : Nat) (cs : List Value) : Prop := ∀ (j : Nat) v, cs[j]? = some v → w.cell? ⟨s, i + j, none⟩ = some v
theorem RAt.same {w w' : World} {s i : Nat} {cs : List Value} (h : RAt w s i cs) (e : w'.heap[s]? = w.heap[s]?) : RAt w' s i cs := fun j v hv => (World.cell?_of_block (w := w) e).trans (h j v hv)
theorem RAt.chg {w w' : World} {s i : Nat} {cs : List Value} {S : List Nat} (h : RAt w s i cs) (g : Chg S w w') (hn : s ∉ S) : RAt w' s i cs := fun j v hv => g.cell (h j v hv) hn
theorem flat_beg {α : Type} {c : α → List Value} {n : Nat} (h : ∀ x, (c x).length = n) (d : α) {w : World} {b : Nat} {T : TypeId} {l : List α} (hb : Beg w b T (flat c l)) {k : Nat} (hk : k < l.length) : RAt w b (k * n) (c (l.getD k d)) := by
  intro j v hv
  have hj : j < n := by have := (List.getElem?_eq_some_iff.1 hv).1; rw [h] at this; exact this
  exact hb.at (by rw [flat_get h d l k j hj hk]; exact hv)
/-- A row of records in memory: empty, or at the head of a block. -/
def RowF {α : Type} (c : α → List Value) (w : World) (T : TypeId) (a : Option Addr) (l : List α) : Prop := l = [] ∨ ∃ g, a = some ⟨g, 0, none⟩ ∧ Beg w g T (flat c l)
theorem RowF.chg {α : Type} {c : α → List Value} {w w' : World} {T : TypeId} {a : Option Addr} {l : List α} {S : List Nat} (h : RowF c w T a l) (k : Chg S w w') (hs : ∀ g, a = some ⟨g, 0, none⟩ → g ∉ S) : RowF c w' T a l :=
  h.imp id fun ⟨g, h1, h2⟩ => ⟨g, h1, h2.chg k (hs g h1)⟩
theorem RowF.chg0 {α : Type} {c : α → List Value} {w w' : World} {T : TypeId} {a : Option Addr} {l : List α} (h : RowF c w T a l) (k : Chg [] w w') : RowF c w' T a l := h.chg k (by simp)
theorem RowF.at {α : Type} {c : α → List Value} {n : Nat} (hn : ∀ x, (c x).length = n) (d : α) {w : World} {T : TypeId} {a : Option Addr} {l : List α} (h : RowF c w T a l) {k : Nat} (hk : k < l.length) : ∃ g, a = some ⟨g, 0, none⟩ ∧ g < w.heap.size ∧ RAt w g (k * n) (c (l.getD k d)) := by
  rcases h with rfl | ⟨g, h1, h2⟩
  · simp at hk
  · exact ⟨g, h1, h2.lt, flat_beg hn d h2 hk⟩
/-- A row that a call made, from block B on. -/
def NewF {α : Type} (c : α → List Value) (w : World) (B : Nat) (T : TypeId) (a : Option Addr) (l : List α) : Prop := l = [] ∨ ∃ g, a = some ⟨g, 0, none⟩ ∧ B ≤ g ∧ Beg w g T (flat c l)
theorem NewF.row {α : Type} {c : α → List Value} {w : World} {B : Nat} {T : TypeId} {a : Option Addr} {l : List α} (h : NewF c w B T a l) : RowF c w T a l := h.imp id fun ⟨g, h1, _, h2⟩ => ⟨g, h1, h2⟩
theorem NewF.mono {α : Type} {c : α → List Value} {w : World} {B D : Nat} {T : TypeId} {a : Option Addr} {l : List α} (h : NewF c w B T a l) (hd : D ≤ B) : NewF c w D T a l := h.imp id fun ⟨g, h1, h3, h2⟩ => ⟨g, h1, Nat.le_trans hd h3, h2⟩
theorem NewF.chg {α : Type} {c : α → List Value} {w w' : World} {B : Nat} {T : TypeId} {a : Option Addr} {l : List α} {S : List Nat} (h : NewF c w B T a l) (k : Chg S w w') (hs : ∀ x ∈ S, x < B) : NewF c w' B T a l :=
  h.imp id fun ⟨g, h1, h3, h2⟩ => ⟨g, h1, h3, h2.chg k fun hm => by have := hs g hm; omega⟩
theorem NewF.chg0 {α : Type} {c : α → List Value} {w w' : World} {B : Nat} {T : TypeId} {a : Option Addr} {l : List α} (h : NewF c w B T a l) (k : Chg [] w w') : NewF c w' B T a l := h.chg k (by simp)
theorem own_new {α : Type} {c : α → List Value} {w : World} {B n : Nat} {T : TypeId} {v : Value} {l : List α} (h : w.ownsRow B T n v l.length (flat c l)) : ∃ a cap, v = .slice a l.length cap ∧ NewF c w B T a l := by
  by_cases hv : v = .slice none 0 0
  · subst hv
    rcases h.2 with ⟨_, e⟩ | ⟨_, _, _, e, _⟩
    · have hl := List.eq_nil_of_length_eq_zero e
      subst hl
      exact ⟨none, 0, rfl, .inl rfl⟩
    · cases e
  · obtain ⟨g, cap, rfl, h1, _, _, h2, _⟩ := own_beg h hv
    exact ⟨_, cap, rfl, .inr ⟨g, rfl, h1, h2⟩⟩
/-- What a row of the call's own is: nil and empty, or a block from B on. -/
theorem own_slice2 {w : World} {base n : Nat} {T : TypeId} {sz : Nat} {v : Value} {xs : List Value} (h : w.ownsRow base T sz v n xs) : ∃ a c, v = .slice a n c := own_slice h

theorem own_chg {w w' : World} {S : List Nat} {base n : Nat} {T : TypeId} {sz : Nat} {v : Value} {xs : List Value} (h : w.ownsRow base T sz v n xs) (c : Chg S w w') (hS : ∀ x ∈ S, x < base) : w'.ownsRow base T sz v n xs := by
  refine ⟨h.1, ?_⟩
  rcases h.2 with h1 | ⟨g, cap, cur, e1, e2, e3, e4⟩
  · exact .inl h1
  · exact .inr ⟨g, cap, cur, e1, e2, (c.block g (Array.getElem?_eq_some_iff.1 e3).1 fun hm => by have := hS g hm; omega).trans e3, e4⟩

/-! Footprints: the blocks of a thing. -/
def Dis (F G : List Nat) : Prop := ∀ x ∈ F, x ∉ G
theorem Dis.symm {F G : List Nat} (h : Dis F G) : Dis G F := fun x h1 h2 => h x h2 h1
/-- The footprint has grown by new blocks alone. -/
def Grw (n : Nat) (F F' : List Nat) : Prop := ∀ x ∈ F', x ∈ F ∨ n ≤ x
theorem Grw.refl (n : Nat) (F : List Nat) : Grw n F F := fun _ h => .inl h
theorem Grw.trans {n m : Nat} {F F' F'' : List Nat} (h : Grw n F F') (k : Grw m F' F'') (hm : n ≤ m) : Grw n F F'' := fun x hx => by
  rcases k x hx with h1 | h1
  · exact h x h1
  · exact .inr (Nat.le_trans hm h1)
theorem Dis.grw {n : Nat} {F F' G : List Nat} (h : Dis F G) (k : Grw n F F') (hl : ∀ x ∈ G, x < n) : Dis F' G := fun x hx hg => by
  rcases k x hx with h1 | h1
  · exact h x h1 hg
  · have := hl x hg; omega
theorem Chg.fp {F F' : List Nat} {a b c : World} (h : Chg F a b) (k : Chg F' b c) (g : Grw a.heap.size F F') : Chg F a c := h.trans' k g
end Go.Proofs.Ytofcphfgpnobnaa
