import Derived.Test.YtofcphfgpnobnaaMem
import Derived.Test.YtofcphfgpnobnaaHeap
namespace Go.Proofs.Ytofcphfgpnobnaa
set_option linter.unusedVariables false
open Go Go.Proofs Go.RowKit

/-- An order. -/
structure Ord where
  id : Int
  client : Int
  buy : Bool
  price : Int
  qty : Int
deriving DecidableEq

instance : Inhabited Ord := ⟨⟨0, 0, false, 0, 0⟩⟩
abbrev Ord.zero : Ord := ⟨0, 0, false, 0, 0⟩
/-- Its numbers fit. -/
structure Ord.Ok (o : Ord) : Prop where
  id : I o.id
  client : I o.client
  price : U o.price
  qty : U o.qty
/-- Its cells. -/
def oc (o : Ord) : List Value := [.int .i64 o.id, .int .i64 o.client, .bool o.buy, .int .u64 o.price, .int .u64 o.qty]
def ocs : List Ord → List Value
  | [] => []
  | o :: l => oc o ++ ocs l
theorem oc_len (o : Ord) : (oc o).length = 5 := rfl
theorem ocs_len (l : List Ord) : (ocs l).length = l.length * 5 := by
  induction l with
  | nil => rfl
  | cons o l ih => simp [ocs, oc_len, ih]; omega
theorem ocs_append (l m : List Ord) : ocs (l ++ m) = ocs l ++ ocs m := by
  induction l with
  | nil => rfl
  | cons o l ih => simp [ocs, ih]
theorem ocs_snoc (l : List Ord) (o : Ord) : ocs (l ++ [o]) = ocs l ++ oc o := by rw [ocs_append]; simp [ocs]
theorem ocs_get (l : List Ord) (k j : Nat) (hj : j < 5) (hk : k < l.length) : (ocs l)[k * 5 + j]? = (oc (l.getD k Ord.zero))[j]? := by
  induction l generalizing k with
  | nil => simp at hk
  | cons o l ih =>
    cases k with
    | zero => simp only [ocs, Nat.zero_mul, Nat.zero_add]; rw [List.getElem?_append_left (by rw [oc_len]; exact hj)]; rfl
    | succ k =>
      simp only [ocs]
      rw [List.getElem?_append_right (by rw [oc_len]; omega), oc_len, show (k + 1) * 5 + j - 5 = k * 5 + j by omega, ih k (by simpa using hk)]
      rfl
/-- A stored order: five cells, one behind the other. -/
def set5 (c : List Value) (i : Nat) (o : Ord) : List Value :=
  ((((c.set i (.int .i64 o.id)).set (i + 1) (.int .i64 o.client)).set (i + 2) (.bool o.buy)).set (i + 3) (.int .u64 o.price)).set (i + 4) (.int .u64 o.qty)
theorem ocs_set (l : List Ord) (k : Nat) (o : Ord) (hk : k < l.length) : set5 (ocs l) (k * 5) o = ocs (l.set k o) := by
  induction l generalizing k with
  | nil => simp at hk
  | cons x l ih =>
    cases k with
    | zero => simp [ocs, oc, set5]
    | succ k =>
      have := ih k (by simpa using hk)
      rw [List.set_cons_succ]
      show _ = oc x ++ ocs (l.set k o)
      rw [← this]
      simp only [ocs, set5]
      rw [show (k + 1) * 5 = k * 5 + 5 by omega]
      have g : ∀ (c : List Value) (j : Nat) (v : Value), (oc x ++ c).set (j + 5) v = oc x ++ c.set j v := fun c j v => by
        rw [List.set_append_right _ _ (by rw [oc_len]; omega), oc_len, show j + 5 - 5 = j by omega]
      rw [show k * 5 + 5 + 1 = k * 5 + 1 + 5 by omega, show k * 5 + 5 + 2 = k * 5 + 2 + 5 by omega, show k * 5 + 5 + 3 = k * 5 + 3 + 5 by omega, show k * 5 + 5 + 4 = k * 5 + 4 + 5 by omega, g, g, g, g, g]

/-- Five cells of a block, from a place on. -/
structure Oat (w : World) (s i : Nat) (o : Ord) : Prop where
  c0 : w.cell? ⟨s, i, none⟩ = some (.int .i64 o.id)
  c1 : w.cell? ⟨s, i + 1, none⟩ = some (.int .i64 o.client)
  c2 : w.cell? ⟨s, i + 2, none⟩ = some (.bool o.buy)
  c3 : w.cell? ⟨s, i + 3, none⟩ = some (.int .u64 o.price)
  c4 : w.cell? ⟨s, i + 4, none⟩ = some (.int .u64 o.qty)
theorem Oat.same {w w' : World} {s i : Nat} {o : Ord} (h : Oat w s i o) (e : w'.heap[s]? = w.heap[s]?) : Oat w' s i o := by
  have g : ∀ j, w'.cell? ⟨s, j, none⟩ = w.cell? ⟨s, j, none⟩ := fun j => by simp only [World.cell?, e]
  exact ⟨(g _).trans h.c0, (g _).trans h.c1, (g _).trans h.c2, (g _).trans h.c3, (g _).trans h.c4⟩
theorem Oat.lt {w : World} {s i : Nat} {o : Ord} (h : Oat w s i o) : s < w.heap.size := cell_block h.c0
theorem Oat.chg {S : List Nat} {w w' : World} {s i : Nat} {o : Ord} (h : Oat w s i o) (g : Chg S w w') (hn : s ∉ S) : Oat w' s i o := h.same (g.block s h.lt hn)

/-- A row of orders in a block. -/
abbrev Orow (w : World) (s : Nat) (l : List Ord) : Prop := Beg w s 28 (ocs l)
theorem Orow.at {w : World} {s : Nat} {l : List Ord} (h : Orow w s l) {k : Nat} (hk : k < l.length) : Oat w s (k * 5) (l.getD k Ord.zero) := by
  have g : ∀ (j : Nat) (v : Value), j < 5 → (oc (l.getD k Ord.zero))[j]? = some v → w.cell? ⟨s, k * 5 + j, none⟩ = some v := fun j v hj hv => Beg.at h (by rw [ocs_get l k j hj hk]; exact hv)
  exact ⟨g 0 _ (by omega) rfl, g 1 _ (by omega) rfl, g 2 _ (by omega) rfl, g 3 _ (by omega) rfl, g 4 _ (by omega) rfl⟩
/-- The world behind the store of an order. -/
def sto (w : World) (s i : Nat) (o : Ord) : World :=
  ((((w.setCell ⟨s, i, none⟩ (.int .i64 o.id)).setCell ⟨s, i + 1, none⟩ (.int .i64 o.client)).setCell ⟨s, i + 2, none⟩ (.bool o.buy)).setCell ⟨s, i + 3, none⟩ (.int .u64 o.price)).setCell ⟨s, i + 4, none⟩ (.int .u64 o.qty)
theorem Orow.sto {w : World} {s : Nat} {l : List Ord} (h : Orow w s l) {k : Nat} (hk : k < l.length) (o : Ord) : Orow (sto w s (k * 5) o) s (l.set k o) := by
  have hl := ocs_len l
  have := ((((Beg.set h (k * 5) (.int .i64 o.id) (by omega)).set (k * 5 + 1) (.int .i64 o.client) (by simp; omega)).set (k * 5 + 2) (.bool o.buy) (by simp; omega)).set (k * 5 + 3) (.int .u64 o.price) (by simp; omega)).set (k * 5 + 4) (.int .u64 o.qty) (by simp; omega)
  unfold Orow
  rw [← ocs_set l k o hk]
  exact this
theorem sto_chg {S : List Nat} {a w : World} (h : Chg S a w) (s i : Nat) (o : Ord) (hs : s ∈ S ∨ a.heap.size ≤ s) : Chg S a (sto w s i o) :=
  ((((h.setCell _ _ hs).setCell _ _ hs).setCell _ _ hs).setCell _ _ hs).setCell _ _ hs

/-- Who is first: by price, up or down, then by number. -/
def ahead (up : Bool) (a b : Ord) : Bool := if a.price = b.price then decide (a.id < b.id) else (decide (a.price < b.price) == up)
def cmpI (a b : Int) : Int := if a < b then -1 else if b < a then 1 else 0
def ordN (up : Bool) (a b : Ord) : Int := if cmpI a.price b.price = 0 then cmpI a.id b.id else if up = true then cmpI a.price b.price else -cmpI a.price b.price
theorem ahead_t (a b : Ord) : ahead true a b = decide (a.price < b.price ∨ (a.price = b.price ∧ a.id < b.id)) := by
  unfold ahead; split
  · rename_i h; simp [h]
  · rename_i h; by_cases g : a.price < b.price <;> simp [g, h]
theorem ahead_f (a b : Ord) : ahead false a b = decide (b.price < a.price ∨ (a.price = b.price ∧ a.id < b.id)) := by
  unfold ahead; split
  · rename_i h; simp [h]
  · rename_i h
    by_cases g : a.price < b.price
    · simp [g]; omega
    · simp [g, h]; omega
theorem cmpI_cases (a b : Int) : (a < b ∧ cmpI a b = -1) ∨ (a = b ∧ cmpI a b = 0) ∨ (b < a ∧ cmpI a b = 1) := by
  unfold cmpI
  by_cases h : a < b
  · exact .inl ⟨h, if_pos h⟩
  · by_cases g : b < a
    · exact .inr (.inr ⟨g, by rw [if_neg h, if_pos g]⟩)
    · exact .inr (.inl ⟨by omega, by rw [if_neg h, if_neg g]⟩)
theorem ordN_lt (up : Bool) (a b : Ord) : decide (ordN up a b < 0) = ahead up a b := by
  rcases cmpI_cases a.price b.price with ⟨h, e⟩ | ⟨h, e⟩ | ⟨h, e⟩ <;> rcases cmpI_cases a.id b.id with ⟨g, f⟩ | ⟨g, f⟩ | ⟨g, f⟩ <;> cases up <;>
    simp only [ahead_t, ahead_f, ordN, e, f] <;> simp <;> omega
theorem ahead_swo (up : Bool) : Swo (ahead up) := by
  cases up
  · refine ⟨fun a => ?_, fun a b c => ?_, fun a b c => ?_⟩ <;> simp only [ahead_f, decide_eq_true_eq, decide_eq_false_iff_not] <;> omega
  · refine ⟨fun a => ?_, fun a b c => ?_, fun a b c => ?_⟩ <;> simp only [ahead_t, decide_eq_true_eq, decide_eq_false_iff_not] <;> omega
/-- Two of which neither is ahead have one price and one number. -/
theorem ahead_eq {up : Bool} {a b : Ord} (h : ahead up a b = false) (g : ahead up b a = false) : a.price = b.price ∧ a.id = b.id := by
  cases up <;> simp only [ahead_f, ahead_t, decide_eq_false_iff_not] at h g <;> omega
end Go.Proofs.Ytofcphfgpnobnaa
