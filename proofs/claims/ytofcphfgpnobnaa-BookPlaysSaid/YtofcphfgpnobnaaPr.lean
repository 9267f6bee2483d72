import Derived.Test.YtofcphfgpnobnaaPu
namespace Go.Proofs.Ytofcphfgpnobnaa
set_option linter.unusedVariables false
open Go Go.Proofs Go.RowKit
attribute [local go_sem ↓] Go.wp_at_zero Go.wp_at_succ

/-- Remove, of what stands and of what does not. -/
theorem qRemove_any {w : World} {b s : Nat} {up : Bool} {L : List Ord} (h : Que w b s up L) (hm : L.length < 1000000000000) (k : Int) : Calls Try.prog 19 #[.pointer (some ⟨b, 0, none⟩), .int .i64 k] w fun e w' => ∃ (r : Ord) (ok : Bool), e = .returned (.tuple #[ov r, .bool ok]) ∧ Que w' b s up (sans k L) ∧ Chg [b, s] w w' ∧ (ok = true → r.id = k) ∧ (ok = true ↔ ∃ x ∈ L, x.id = k) := by
  by_cases hx : ∃ x ∈ L, x.id = k
  · obtain ⟨x, h1, h2⟩ := hx
    refine (qRemove_yes h hm h1 h2).mono ?_
    rintro e w' ⟨rfl, hQ, hC⟩
    exact ⟨x, true, rfl, hQ, hC, fun _ => h2, fun _ => ⟨x, h1, h2⟩, fun _ => rfl⟩
  · have hn : ∀ x ∈ L, x.id ≠ k := fun x h1 h2 => hx ⟨x, h1, h2⟩
    refine (qRemove_no h hn).mono ?_
    rintro e w' ⟨rfl, hC⟩
    exact ⟨Ord.zero, false, rfl, by rw [sans_none hn]; exact h.chg hC (by simp) (by simp), hC.mono (by simp), by simp, by simp, fun h => absurd h hx⟩

/-- A row of orders that a call made, in this and later worlds. -/
def Osn (W : World) (B : Nat) (a : Option Addr) (L : List Ord) : Prop := L = [] ∨ ∃ g, a = some ⟨g, 0, none⟩ ∧ B ≤ g ∧ Orow W g L
theorem Onew.osn {W : World} {B : Nat} {v : Value} {L : List Ord} (h : Onew W B v L) : ∃ a c, v = .slice a L.length c ∧ Osn W B a L := by
  by_cases hL : L = []
  · subst hL
    obtain ⟨a, c, rfl⟩ := own_slice h
    exact ⟨a, c, rfl, .inl rfl⟩
  · obtain ⟨g, c, rfl, h1, _, _, h2⟩ := h.full hL
    exact ⟨_, c, rfl, .inr ⟨g, rfl, h1, h2⟩⟩
theorem Osn.chg {W W' : World} {B : Nat} {a : Option Addr} {L : List Ord} {S : List Nat} (h : Osn W B a L) (g : Chg S W W') (hs : ∀ x ∈ S, x < B) : Osn W' B a L := by
  rcases h with h | ⟨k, h1, h2, h3⟩
  · exact .inl h
  · exact .inr ⟨k, h1, h2, Beg.chg h3 g fun hm => by have := hs k hm; omega⟩
theorem Osn.chg0 {W W' : World} {B : Nat} {a : Option Addr} {L : List Ord} (h : Osn W B a L) (g : Chg [] W W') : Osn W' B a L := h.chg g (by simp)
theorem Osn.cells {W : World} {B : Nat} {a : Option Addr} {L : List Ord} (h : Osn W B a L) {k : Nat} (hk : k < L.length) : ∃ g, a = some ⟨g, 0, none⟩ ∧ B ≤ g ∧ Oat W g (k * 5) (L.getD k Ord.zero) := by
  rcases h with rfl | ⟨g, h1, h2, h3⟩
  · simp at hk
  · exact ⟨g, h1, h2, Orow.at h3 hk⟩

theorem sans_take_no (k : Int) (L : List Ord) {j : Nat} (hj : j < L.length) (h : (L.getD j Ord.zero).id = k) : sans k (L.take (j + 1)) = sans k (L.take j) := by
  rw [List.take_succ_eq_append_getElem hj]
  have e : L.getD j Ord.zero = L[j] := by simp [List.getD, hj]
  rw [e] at h
  unfold sans
  rw [List.filter_append, List.filter_cons_of_neg (by simp [h]), List.filter_nil, List.append_nil]
theorem sans_take_yes (k : Int) (L : List Ord) {j : Nat} (hj : j < L.length) (h : (L.getD j Ord.zero).id ≠ k) : sans k (L.take (j + 1)) = sans k (L.take j) ++ [L.getD j Ord.zero] := by
  rw [List.take_succ_eq_append_getElem hj]
  have e : L.getD j Ord.zero = L[j] := by simp [List.getD, hj]
  rw [e] at h ⊢
  unfold sans
  rw [List.filter_append, List.filter_cons_of_pos (by simp [h]), List.filter_nil]
theorem sans_sans (k : Int) (L : List Ord) : sans k (sans k L) = sans k L := by simp [sans, List.filter_filter]
theorem sans_len (k : Int) (L : List Ord) : (sans k L).length ≤ L.length := (sans_sub k L).length_le
theorem sans_has (k : Int) (L : List Ord) : ¬ ∃ x ∈ sans k L, x.id = k := by
  rintro ⟨x, h1, h2⟩
  simp [sans] at h1
  exact h1.2 h2
theorem cutQ_len (m : Int) (L : List Ord) : (cutQ m L).length = L.length := by
  cases L with
  | nil => rfl
  | cons y L => rw [cutQ_head]; simp
theorem cutQ_get0 (m : Int) (L : List Ord) (h : 0 < L.length) : (cutQ m L).getD 0 Ord.zero = { L.getD 0 Ord.zero with qty := if m ≤ (L.getD 0 Ord.zero).qty then (L.getD 0 Ord.zero).qty - m else (L.getD 0 Ord.zero).qty } := by
  cases L with
  | nil => simp at h
  | cons y L => rw [cutQ_head]; rfl
theorem cutQ_get (m : Int) (L : List Ord) (j : Nat) (h : 0 < j) : (cutQ m L).getD j Ord.zero = L.getD j Ord.zero := by
  cases L with
  | nil => rfl
  | cons y L =>
    rw [cutQ_head]
    obtain ⟨i, rfl⟩ : ∃ i, j = i + 1 := ⟨j - 1, by omega⟩
    rfl
theorem sans_mem {k : Int} {L : List Ord} {x : Ord} (h : x ∈ sans k L) : x ∈ L := (sans_sub k L).subset h
theorem mem_getDO {L : List Ord} {j : Nat} (h : j < L.length) : L.getD j Ord.zero ∈ L := by simp [List.getD, h]
end Go.Proofs.Ytofcphfgpnobnaa
