import Derived.Test.YtofcphfgpnobnaaBook4
import Derived.Laws.AppendOwnNone
namespace Go.Proofs.Ytofcphfgpnobnaa
set_option linter.unusedVariables false
open Go Go.Proofs Go.RowKit

/-! The orders of a book: their numbers; what all of them are. -/
structure Fresh (n : Nat) (L M : List Ord) : Prop where
  ids : Ids (L ++ M)
  le : ∀ x ∈ L ++ M, 1 ≤ x.id ∧ x.id ≤ (n : Int)
theorem Fresh.start : Fresh 0 [] [] := ⟨List.nodup_nil, by simp⟩
theorem Fresh.new {n : Nat} {L M : List Ord} (h : Fresh n L M) {i : Int} (hi : (n : Int) < i) : (∀ x ∈ L, x.id ≠ i) ∧ (∀ x ∈ M, x.id ≠ i) :=
  ⟨fun x hx e => by have := h.le x (by simp [hx]); omega, fun x hx e => by have := h.le x (by simp [hx]); omega⟩
theorem Fresh.mono {n m : Nat} {L M : List Ord} (h : Fresh n L M) (hm : n ≤ m) : Fresh m L M := ⟨h.ids, fun x hx => by have := h.le x hx; omega⟩
theorem Fresh.sub {n : Nat} {L M L' M' : List Ord} (h : Fresh n L M) (hL : (L'.map Ord.id).Sublist (L.map Ord.id)) (hM : (M'.map Ord.id).Sublist (M.map Ord.id)) : Fresh n L' M' := by
  refine ⟨?_, fun x hx => ?_⟩
  · have h1 := h.ids
    unfold Ids at h1 ⊢
    rw [List.map_append] at h1 ⊢
    exact List.Pairwise.sublist (List.Sublist.append hL hM) h1
  · have h2 : x.id ∈ (L ++ M).map Ord.id := by
      rw [List.map_append, List.mem_append]
      rcases List.mem_append.1 hx with h3 | h3
      · exact .inl (hL.subset (List.mem_map_of_mem h3))
      · exact .inr (hM.subset (List.mem_map_of_mem h3))
    obtain ⟨y, hy, e⟩ := List.mem_map.1 h2
    have := h.le y hy
    omega
theorem mch_sub (o : Ord) (q : Int) (L : List Ord) : ((mch o q L).2.2.map Ord.id).Sublist (L.map Ord.id) := mch_ids o L q
theorem Fresh.mch {n : Nat} {L M : List Ord} (h : Fresh n L M) (o : Ord) : Fresh n (mL o L M) (mM o L M) := by
  unfold mL mM mres
  cases o.buy
  · exact h.sub (mch_sub _ _ _) (List.Sublist.refl _)
  · exact h.sub (List.Sublist.refl _) (mch_sub _ _ _)
theorem Fresh.remove {n : Nat} {L M : List Ord} (h : Fresh n L M) (k : Int) : Fresh n (sans k L) (remM k L M) := by
  refine h.sub ((sans_sub _ _).map _) ?_
  unfold remM
  split
  · exact List.Sublist.refl _
  · exact (sans_sub _ _).map _
theorem perm_mid {α : Type} (x : α) (A B : List α) : (A ++ x :: B).Perm (x :: (A ++ B)) := List.perm_middle
theorem rest_perm (o : Ord) (L M : List Ord) : (restL o L ++ restM o M).Perm (if o.qty ≠ 0 then o :: (L ++ M) else L ++ M) := by
  unfold restL restM
  by_cases hq : o.qty = 0
  · simp [hq]
  · cases hb : o.buy
    · simp only [hq, ne_eq, not_false_eq_true, true_and, if_true, Bool.false_eq_true, if_false]
      exact ((List.Perm.refl L).append (ins_perm true o M)).trans (perm_mid o L M)
    · simp only [hq, ne_eq, not_false_eq_true, true_and, if_true, Bool.true_eq_false, if_false]
      exact (ins_perm false o L).append_right M
theorem Fresh.perm {n : Nat} {L M L' M' : List Ord} (h : Fresh n L M) (p : (L' ++ M').Perm (L ++ M)) : Fresh n L' M' := ⟨ids_perm p.symm h.ids, fun x hx => h.le x (p.mem_iff.1 hx)⟩
theorem Fresh.rest {n : Nat} {L M : List Ord} (h : Fresh n L M) {o : Ord} (ho : o.id = (n : Int) + 1) : Fresh (n + 1) (restL o L) (restM o M) := by
  have hp := rest_perm o L M
  by_cases hq : o.qty = 0
  · rw [if_neg (by simp [hq])] at hp
    exact (h.mono (Nat.le_succ n)).perm hp
  · rw [if_pos hq] at hp
    refine ⟨ids_perm hp.symm ?_, fun x hx => ?_⟩
    · show List.Nodup (o.id :: (L ++ M).map Ord.id)
      rw [List.nodup_cons]
      refine ⟨fun hm => ?_, h.ids⟩
      obtain ⟨y, hy, e⟩ := List.mem_map.1 hm
      have := h.le y hy
      omega
    · rcases List.mem_cons.1 (hp.mem_iff.1 hx) with e | e
      · subst e; omega
      · have := h.le x e; omega
/-- An order that stands in a book is found. -/
theorem Fresh.pick {n : Nat} {L M : List Ord} (h : Fresh n L M) {x : Ord} (hx : x ∈ L ++ M) : pickB x.id L M = (x, true) := by
  have hi := h.ids
  unfold Ids at hi
  rw [List.map_append] at hi
  obtain ⟨h1, h2, h3⟩ := List.nodup_append.1 hi
  unfold pickB
  rcases List.mem_append.1 hx with g | g
  · rw [pickQ_yes h1 g rfl]; rfl
  · rw [pickQ_no (L := L) fun y hy e => h3 _ (List.mem_map_of_mem hy) _ (List.mem_map_of_mem g) e, pickQ_yes h2 g rfl]
    rfl
theorem pickB_none {k : Int} {L M : List Ord} (h : ∀ x ∈ L ++ M, x.id ≠ k) : pickB k L M = (Ord.zero, false) := by
  unfold pickB
  rw [pickQ_no (L := L) fun x hx => h x (by simp [hx]), pickQ_no (L := M) fun x hx => h x (by simp [hx])]
  rfl
theorem rest_len (o : Ord) (L M : List Ord) : (restL o L).length + (restM o M).length = L.length + M.length + (if o.qty ≠ 0 then 1 else 0) := by
  have := (rest_perm o L M).length_eq
  rw [List.length_append] at this
  rw [this]
  split <;> simp
theorem rest_all {P : Ord → Prop} {o : Ord} {L M : List Ord} (h : ∀ x ∈ L ++ M, P x) (ho : P o) : ∀ x ∈ restL o L ++ restM o M, P x := fun x hx => by
  have hm := (rest_perm o L M).mem_iff.1 hx
  split at hm
  · rcases List.mem_cons.1 hm with e | e
    · exact e ▸ ho
    · exact h x e
  · exact h x hm

/-- append of a row that a call has made to another one. -/
theorem wpList_append_onew {ops : Array Oper} {rest : List Oper} {o : Oper} {a : Act} {w : World} {Q : Exit → Act → World → Prop} (hgd : o.guard = none) (s x : Operand)
    (ho : o.op = .call { callee := .builtin .append, args := #[s, x], argTypes := #[35, 35] })
    (B B2 : Nat) (v v2 : Value) (L M : List Ord) (hs : a.eval s = v) (hx : a.eval x = v2) (hown : Onew w B v L) (h2 : Onew w B2 v2 M) (hm : L.length + M.length ≤ 1000000000000) (hB : B ≤ w.heap.size)
    (h : ∀ v' w', Onew w' B v' (L ++ M) → w.grownBy w' v.ownBlock → wpList Try.prog ops Q rest (a.put o.dst v') w') : wpList Try.prog ops Q (o :: rest) a w := by
  obtain ⟨i0, hi, iz0, iz1, iz2⟩ := info_parts info_ord
  have hlen := h2.1
  rcases h2.2 with ⟨rfl, hl⟩ | ⟨g, cap, cur, rfl, _, hg, hle, hc, hsz, ht⟩
  · have hM := List.eq_nil_of_length_eq_zero hl
    subst hM
    refine wpList_append_own_none hgd s x 35 ho B 28 i0 5 Try.underlying35 hi v L.length (ocs L) hs hown hx ?_
    exact h v w (by rw [List.append_nil]; exact hown) ⟨rfl, rfl, rfl, Nat.le_refl _, fun _ _ _ => rfl⟩
  · refine wpList_append_own w hgd s x 35 ho B 28 i0 (ov Ord.zero) 5 40 Try.underlying35 hi iz0 iz1 iz2 rfl (by decide) v L.length (ocs L) hs hown ⟨g, 0, none⟩ M.length cap (ocs M) hx (by rw [ocs_len]) ?_ ?_ (by unfold maxLen; omega) (by omega) hB ?_
    · intro j u hu
      have hb : Beg w g 28 (ocs M) := ⟨cur.toList.drop (M.length * 5), by unfold Blk; rw [hg, ← ht, List.take_append_drop]⟩
      rw [add_none, Nat.zero_add]
      exact hb.at hu
    · intro u hu
      obtain ⟨j, hj, e⟩ := List.getElem_of_mem hu
      have hj5 : j / 5 < M.length := by rw [ocs_len] at hj; omega
      have := ocs_get M (j / 5) (j % 5) (by omega) hj5
      rw [show j / 5 * 5 + j % 5 = j by omega, List.getElem?_eq_getElem hj, e] at this
      generalize M.getD (j / 5) Ord.zero = z at this
      have hm : u ∈ oc z := List.mem_of_getElem? this.symm
      simp [oc] at hm
      rcases hm with rfl | rfl | rfl | rfl | rfl <;> rfl
    · intro v' w' ho' hg' _
      rw [← ocs_append] at ho'
      exact h v' w' (by unfold Onew; rw [List.length_append]; exact ho') hg'
/-- A row of n orders, whatever they are, in block g. -/
def RowAny (w : World) (g : Nat) (a : Option Addr) (n : Nat) : Prop := n = 0 ∨ (a = some ⟨g, 0, none⟩ ∧ ∃ c, Beg w g 28 c ∧ c.length = n * 5)
theorem RowAny.chg {w w' : World} {g : Nat} {a : Option Addr} {n : Nat} {S : List Nat} (h : RowAny w g a n) (c : Chg S w w') (hg : g ∉ S) : RowAny w' g a n :=
  h.imp id fun ⟨h1, cs, h2, h3⟩ => ⟨h1, cs, h2.chg c hg, h3⟩
theorem RowAny.at {w : World} {g : Nat} {a : Option Addr} {n : Nat} (h : RowAny w g a n) {k j : Nat} (hk : k < n) (hj : j < 5) : a = some ⟨g, 0, none⟩ ∧ (∃ v, w.cell? ⟨g, k * 5 + j, none⟩ = some v) ∧ w.frozen? ⟨g, k * 5 + j, none⟩ = false ∧
    ∀ v, RowAny (w.setCell ⟨g, k * 5 + j, none⟩ v) g a n ∧ Chg [g] w (w.setCell ⟨g, k * 5 + j, none⟩ v) := by
  rcases h with rfl | ⟨h1, cs, h2, h3⟩
  · omega
  · have hl : k * 5 + j < cs.length := by rw [h3]; omega
    exact ⟨h1, ⟨_, h2.at (List.getElem?_eq_getElem hl)⟩, h2.free _, fun v => ⟨.inr ⟨h1, _, h2.set _ v hl, by simpa using h3⟩, (Chg.refl _ _).setCell _ _ (by simp)⟩⟩
theorem Osn.any {w : World} {B : Nat} {a : Option Addr} {L : List Ord} (h : Osn w B a L) (g0 : Nat) : ∃ g, RowAny w g a L.length ∧ (g = g0 ∨ (B ≤ g ∧ g < w.heap.size)) := by
  rcases h with rfl | ⟨g, h1, h2, h3⟩
  · exact ⟨g0, .inl rfl, .inl rfl⟩
  · exact ⟨g, .inr ⟨h1, _, h3, ocs_len L⟩, .inr ⟨h2, Beg.lt h3⟩⟩
/-- Something beside the book is turned. -/
theorem BkS.aside {w wr w' : World} {F : List Nat} {k g : Nat} {L M : List Ord} (h : BkS w wr F k L M) (c : Chg [g] wr w') (hg : g ∉ F) (hl : w.heap.size ≤ g) : BkS w w' F k L M :=
  ⟨h.bk.chg c (fun x hx hm => by simp at hm; subst hm; exact hg hx), h.c.trans' c (by simp; omega), h.lo⟩
theorem BkS.grown {w wr w' : World} {F : List Nat} {k : Nat} {L M : List Ord} {row : Option Nat} (h : BkS w wr F k L M) (hg : wr.grownBy w' row) (hr : ∀ g, row = some g → g ∉ F ∧ w.heap.size ≤ g) : BkS w w' F k L M := by
  cases row with
  | none => exact h.to ((Chg.refl _ _).grown hg (by simp))
  | some g => exact h.aside ((Chg.refl [g] wr).grown hg (by simp)) (hr g rfl).1 (hr g rfl).2
theorem getD_mem {L : List Ord} {k : Nat} (h : k < L.length) : L.getD k Ord.zero ∈ L := mem_getDO h
end Go.Proofs.Ytofcphfgpnobnaa
