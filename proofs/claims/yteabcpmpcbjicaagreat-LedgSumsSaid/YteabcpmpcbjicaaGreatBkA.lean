
import Derived.Test.YteabcpmpcbjicaaGreatBookA
import Derived.Laws.AppendOwnNone
import Derived.Test.YteabcpmpcbjicaaGreatMemA
import Derived.Test.YteabcpmpcbjicaaGreatShell
import Derived.BigQuiet
import Derived.Deep.QuietTactic
namespace Go.Proofs.YteabcpmpcbjicaaGreat
set_option linter.unusedVariables false
open Go Go.Proofs Go.RowKit

/-! The orders of a book: their numbers; what all of them are. -/
structure Fresh (n : Nat) (L M : List Ord) : Prop where
  ids : Ids (L ++ M)
  le : ∀ x ∈ L ++ M, 1 ≤ x.id ∧ x.id ≤ (n : Int)
theorem Fresh.start : Fresh 0 [] [] := ⟨List.nodup_nil, by simp⟩
theorem Fresh.new {n : Nat} {L M : List Ord} (h : Fresh n L M) {i : Int} (hi : (n : Int) < i) : (∀ x ∈ L, x.id ≠ i) ∧ (∀ x ∈ M, x.id ≠ i) :=
  ⟨fun x hx e => by have := h.le x (by simp [hx]); omega, fun x hx e => by have := h.le x (by simp [hx]); omega⟩
theorem Fresh.mono {n m : Nat} {L M : List Ord} (h : Fresh n L M) (hm : n ≤ m) : Fresh m L M := ⟨h.ids, fun x hx => by have := h.le x hx; omega⟩
theorem Fresh.sub {n : Nat} {L M L' M' : List Ord} (h : Fresh n L M) (hL : (L'.map Ord.id).Sublist (L.map Ord.id)) (hM : (M'.map Ord.id).Sublist (M.map Ord.id)) : Fresh n L' M' := by
  refine ⟨?_, fun x hx => ?_⟩
  · have h1 := h.ids
    unfold Ids at h1 ⊢
    rw [List.map_append] at h1 ⊢
    exact List.Pairwise.sublist (List.Sublist.append hL hM) h1
  · have h2 : x.id ∈ (L ++ M).map Ord.id := by
      rw [List.map_append, List.mem_append]
      rcases List.mem_append.1 hx with h3 | h3
      · exact .inl (hL.subset (List.mem_map_of_mem h3))
      · exact .inr (hM.subset (List.mem_map_of_mem h3))
    obtain ⟨y, hy, e⟩ := List.mem_map.1 h2
    have := h.le y hy
    omega
theorem mch_sub (o : Ord) (q : Int) (L : List Ord) : ((mch o q L).2.2.map Ord.id).Sublist (L.map Ord.id) := mch_ids o L q
theorem Fresh.mch {n : Nat} {L M : List Ord} (h : Fresh n L M) (o : Ord) : Fresh n (mL o L M) (mM o L M) := by
  unfold mL mM mres
  cases o.buy
  · exact h.sub (mch_sub _ _ _) (List.Sublist.refl _)
  · exact h.sub (List.Sublist.refl _) (mch_sub _ _ _)
theorem Fresh.remove {n : Nat} {L M : List Ord} (h : Fresh n L M) (k : Int) : Fresh n (sans k L) (remM k L M) := by
  refine h.sub ((sans_sub _ _).map _) ?_
  unfold remM
  split
  · exact List.Sublist.refl _
  · exact (sans_sub _ _).map _
theorem perm_mid {α : Type} (x : α) (A B : List α) : (A ++ x :: B).Perm (x :: (A ++ B)) := List.perm_middle
theorem rest_perm (o : Ord) (L M : List Ord) : (restL o L ++ restM o M).Perm (if o.qty ≠ 0 then o :: (L ++ M) else L ++ M) := by
  unfold restL restM
  by_cases hq : o.qty = 0
  · simp [hq]
  · cases hb : o.buy
    · simp only [hq, ne_eq, not_false_eq_true, true_and, if_true, Bool.false_eq_true, if_false]
      exact ((List.Perm.refl L).append (ins_perm true o M)).trans (perm_mid o L M)
    · simp only [hq, ne_eq, not_false_eq_true, true_and, if_true, Bool.true_eq_false, if_false]
      exact (ins_perm false o L).append_right M
theorem Fresh.perm {n : Nat} {L M L' M' : List Ord} (h : Fresh n L M) (p : (L' ++ M').Perm (L ++ M)) : Fresh n L' M' := ⟨ids_perm p.symm h.ids, fun x hx => h.le x (p.mem_iff.1 hx)⟩
theorem Fresh.rest {n : Nat} {L M : List Ord} (h : Fresh n L M) {o : Ord} (ho : o.id = (n : Int) + 1) : Fresh (n + 1) (restL o L) (restM o M) := by
  have hp := rest_perm o L M
  by_cases hq : o.qty = 0
  · rw [if_neg (by simp [hq])] at hp
    exact (h.mono (Nat.le_succ n)).perm hp
  · rw [if_pos hq] at hp
    refine ⟨ids_perm hp.symm ?_, fun x hx => ?_⟩
    · show List.Nodup (o.id :: (L ++ M).map Ord.id)
      rw [List.nodup_cons]
      refine ⟨fun hm => ?_, h.ids⟩
      obtain ⟨y, hy, e⟩ := List.mem_map.1 hm
      have := h.le y hy
      omega
    · rcases List.mem_cons.1 (hp.mem_iff.1 hx) with e | e
      · subst e; omega
      · have := h.le x e; omega
/-- An order that stands in a book is found. -/
theorem Fresh.pick {n : Nat} {L M : List Ord} (h : Fresh n L M) {x : Ord} (hx : x ∈ L ++ M) : pickB x.id L M = (x, true) := by
  have hi := h.ids
  unfold Ids at hi
  rw [List.map_append] at hi
  obtain ⟨h1, h2, h3⟩ := List.nodup_append.1 hi
  unfold pickB
  rcases List.mem_append.1 hx with g | g
  · rw [pickQ_yes h1 g rfl]; rfl
  · rw [pickQ_no (L := L) fun y hy e => h3 _ (List.mem_map_of_mem hy) _ (List.mem_map_of_mem g) e, pickQ_yes h2 g rfl]
    rfl
theorem pickB_none {k : Int} {L M : List Ord} (h : ∀ x ∈ L ++ M, x.id ≠ k) : pickB k L M = (Ord.zero, false) := by
  unfold pickB
  rw [pickQ_no (L := L) fun x hx => h x (by simp [hx]), pickQ_no (L := M) fun x hx => h x (by simp [hx])]
  rfl
theorem rest_len (o : Ord) (L M : List Ord) : (restL o L).length + (restM o M).length = L.length + M.length + (if o.qty ≠ 0 then 1 else 0) := by
  have := (rest_perm o L M).length_eq
  rw [List.length_append] at this
  rw [this]
  split <;> simp
theorem rest_all {P : Ord → Prop} {o : Ord} {L M : List Ord} (h : ∀ x ∈ L ++ M, P x) (ho : P o) : ∀ x ∈ restL o L ++ restM o M, P x := fun x hx => by
  have hm := (rest_perm o L M).mem_iff.1 hx
  split at hm
  · rcases List.mem_cons.1 hm with e | e
    · exact e ▸ ho
    · exact h x e
  · exact h x hm

/-- append of a row that a call has made to another one. -/
theorem wpList_append_onew {ops : Array Oper} {rest : List Oper} {o : Oper} {a : Act} {w : World} {Q : Exit → Act → World → Prop} (hgd : o.guard = none) (s x : Operand)
    (ho : o.op = .call { callee := .builtin .append, args := #[s, x], argTypes := #[67, 67] })
    (B B2 : Nat) (v v2 : Value) (L M : List Ord) (hs : a.eval s = v) (hx : a.eval x = v2) (hown : Onew w B v L) (h2 : Onew w B2 v2 M) (hm : L.length + M.length ≤ 1000000000000) (hB : B ≤ w.heap.size)
    (h : ∀ v' w', Onew w' B v' (L ++ M) → w.grownBy w' v.ownBlock → wpList Tryz.prog ops Q rest (a.put o.dst v') w') : wpList Tryz.prog ops Q (o :: rest) a w := by
  obtain ⟨i0, hi, iz0, iz1, iz2⟩ := info_parts info_ord
  have hlen := h2.1
  rcases h2.2 with ⟨rfl, hl⟩ | ⟨g, cap, cur, rfl, _, hg, hle, hc, hsz, ht⟩
  · have hM := List.eq_nil_of_length_eq_zero hl
    subst hM
    refine wpList_append_own_none hgd s x 67 ho B 73 i0 5 Tryz.underlying67 hi v L.length (ocs L) hs hown hx ?_
    exact h v w (by rw [List.append_nil]; exact hown) ⟨rfl, rfl, rfl, Nat.le_refl _, fun _ _ _ => rfl⟩
  · refine wpList_append_own w hgd s x 67 ho B 73 i0 (ov Ord.zero) 5 40 Tryz.underlying67 hi iz0 iz1 iz2 rfl (by decide) v L.length (ocs L) hs hown ⟨g, 0, none⟩ M.length cap (ocs M) hx (by rw [ocs_len]) ?_ ?_ (by unfold maxLen; omega) (by omega) hB ?_
    · intro j u hu
      have hb : Beg w g 73 (ocs M) := ⟨cur.toList.drop (M.length * 5), by unfold Blk; rw [hg, ← ht, List.take_append_drop]⟩
      rw [add_none, Nat.zero_add]
      exact hb.at hu
    · intro u hu
      obtain ⟨j, hj, e⟩ := List.getElem_of_mem hu
      have hj5 : j / 5 < M.length := by rw [ocs_len] at hj; omega
      have := ocs_get M (j / 5) (j % 5) (by omega) hj5
      rw [show j / 5 * 5 + j % 5 = j by omega, List.getElem?_eq_getElem hj, e] at this
      generalize M.getD (j / 5) Ord.zero = z at this
      have hm : u ∈ oc z := List.mem_of_getElem? this.symm
      simp [oc] at hm
      rcases hm with rfl | rfl | rfl | rfl | rfl <;> rfl
    · intro v' w' ho' hg' _
      rw [← ocs_append] at ho'
      exact h v' w' (by unfold Onew; rw [List.length_append]; exact ho') hg'
/-- A row of n orders, whatever they are, in block g. -/
def RowAny (w : World) (g : Nat) (a : Option Addr) (n : Nat) : Prop := n = 0 ∨ (a = some ⟨g, 0, none⟩ ∧ ∃ c, Beg w g 73 c ∧ c.length = n * 5)
theorem RowAny.chg {w w' : World} {g : Nat} {a : Option Addr} {n : Nat} {S : List Nat} (h : RowAny w g a n) (c : Chg S w w') (hg : g ∉ S) : RowAny w' g a n :=
  h.imp id fun ⟨h1, cs, h2, h3⟩ => ⟨h1, cs, h2.chg c hg, h3⟩
theorem RowAny.at {w : World} {g : Nat} {a : Option Addr} {n : Nat} (h : RowAny w g a n) {k j : Nat} (hk : k < n) (hj : j < 5) : a = some ⟨g, 0, none⟩ ∧ (∃ v, w.cell? ⟨g, k * 5 + j, none⟩ = some v) ∧ w.frozen? ⟨g, k * 5 + j, none⟩ = false ∧
    ∀ v, RowAny (w.setCell ⟨g, k * 5 + j, none⟩ v) g a n ∧ Chg [g] w (w.setCell ⟨g, k * 5 + j, none⟩ v) := by
  rcases h with rfl | ⟨h1, cs, h2, h3⟩
  · omega
  · have hl : k * 5 + j < cs.length := by rw [h3]; omega
    exact ⟨h1, ⟨_, h2.at (List.getElem?_eq_getElem hl)⟩, h2.free _, fun v => ⟨.inr ⟨h1, _, h2.set _ v hl, by simpa using h3⟩, (Chg.refl _ _).setCell _ _ (by simp)⟩⟩
theorem Osn.any {w : World} {B : Nat} {a : Option Addr} {L : List Ord} (h : Osn w B a L) (g0 : Nat) : ∃ g, RowAny w g a L.length ∧ (g = g0 ∨ (B ≤ g ∧ g < w.heap.size)) := by
  rcases h with rfl | ⟨g, h1, h2, h3⟩
  · exact ⟨g0, .inl rfl, .inl rfl⟩
  · exact ⟨g, .inr ⟨h1, _, h3, ocs_len L⟩, .inr ⟨h2, Beg.lt h3⟩⟩
/-- Something beside the book is turned. -/
theorem BkS.aside {w wr w' : World} {F : List Nat} {k g : Nat} {L M : List Ord} (h : BkS w wr F k L M) (c : Chg [g] wr w') (hg : g ∉ F) (hl : w.heap.size ≤ g) : BkS w w' F k L M :=
  ⟨h.bk.chg c (fun x hx hm => by simp at hm; subst hm; exact hg hx), h.c.trans' c (by simp; omega), h.lo⟩
theorem BkS.grown {w wr w' : World} {F : List Nat} {k : Nat} {L M : List Ord} {row : Option Nat} (h : BkS w wr F k L M) (hg : wr.grownBy w' row) (hr : ∀ g, row = some g → g ∉ F ∧ w.heap.size ≤ g) : BkS w w' F k L M := by
  cases row with
  | none => exact h.to ((Chg.refl _ _).grown hg (by simp))
  | some g => exact h.aside ((Chg.refl [g] wr).grown hg (by simp)) (hr g rfl).1 (hr g rfl).2
theorem getD_mem {L : List Ord} {k : Nat} (h : k < L.length) : L.getD k Ord.zero ∈ L := mem_getDO h
end Go.Proofs.YteabcpmpcbjicaaGreat

namespace Go.Proofs.YteabcpmpcbjicaaGreat
set_option linter.unusedVariables false
open Go Go.Proofs Go.RowKit

/-! What comes of a match: plain. -/
theorem mch_trades {o : Ord} {Q : List Ord} (hQ : ∀ x ∈ Q, 0 < x.qty) : ∀ q, ∀ t ∈ (mch o q Q).1, ∃ x ∈ Q, ∃ m, 0 < m ∧ m ≤ x.qty ∧ t = trd o x m ∧ meet o x = true := by
  induction Q with
  | nil => intro q t ht; simp [mch] at ht
  | cons x Q ih =>
    intro q t ht
    have hx := hQ x (by simp)
    by_cases h : 0 < q ∧ meet o x = true
    · by_cases k : q < x.qty
      · rw [mch_part h.1 h.2 k] at ht
        simp at ht
        exact ⟨x, by simp, q, h.1, by omega, ht, h.2⟩
      · rw [mch_all h.1 h.2 (by omega)] at ht
        rcases List.mem_cons.1 ht with e | e
        · exact ⟨x, by simp, x.qty, hx, Int.le_refl _, e, h.2⟩
        · obtain ⟨y, hy, m, r⟩ := ih (fun y hy => hQ y (by simp [hy])) _ t e
          exact ⟨y, by simp [hy], m, r⟩
    · rw [mch_no h] at ht; simp at ht
theorem mch_sum (o : Ord) (Q : List Ord) : ∀ q, isum ((mch o q Q).1.map Trd.qty) + (mch o q Q).2.1 = q := by
  induction Q with
  | nil => intro q; simp [mch, isum]
  | cons x Q ih =>
    intro q
    by_cases h : 0 < q ∧ meet o x = true
    · by_cases k : q < x.qty
      · rw [mch_part h.1 h.2 k]
        cases hb : o.buy <;> simp [isum, trd, hb]
      · rw [mch_all h.1 h.2 (by omega)]
        have := ih (q - x.qty)
        cases hb : o.buy <;> simp [isum, trd, hb] at this ⊢ <;> omega
    · rw [mch_no h]; simp [isum]
theorem mch_stand {o : Ord} {Q : List Ord} : ∀ q, ∀ y ∈ (mch o q Q).2.2, ∃ x ∈ Q, y.id = x.id ∧ y.price = x.price ∧ y.client = x.client ∧ y.buy = x.buy ∧ y.qty ≤ x.qty ∧ (0 < x.qty → 0 < y.qty) := by
  induction Q with
  | nil => intro q y hy; simp [mch] at hy
  | cons x Q ih =>
    intro q y hy
    by_cases h : 0 < q ∧ meet o x = true
    · by_cases k : q < x.qty
      · rw [mch_part h.1 h.2 k] at hy
        rcases List.mem_cons.1 hy with e | e
        · subst e
          exact ⟨x, by simp, rfl, rfl, rfl, rfl, by show x.qty - q ≤ x.qty; omega, fun _ => by show 0 < x.qty - q; omega⟩
        · exact ⟨y, by simp [e], rfl, rfl, rfl, rfl, Int.le_refl _, id⟩
      · rw [mch_all h.1 h.2 (by omega)] at hy
        obtain ⟨z, hz, r⟩ := ih _ y hy
        exact ⟨z, by simp [hz], r⟩
    · rw [mch_no h] at hy
      exact ⟨y, hy, rfl, rfl, rfl, rfl, Int.le_refl _, id⟩
theorem srt_price {up : Bool} {x : Ord} {Q : List Ord} (h : Srt up (x :: Q)) : ∀ y ∈ Q, (up = true → x.price ≤ y.price) ∧ (up = false → y.price ≤ x.price) := fun y hy => by
  have := (List.pairwise_cons.1 h).1 y hy
  cases up
  · rw [ahead_f] at this
    simp at this
    exact ⟨by simp, fun _ => by omega⟩
  · rw [ahead_t] at this
    simp at this
    exact ⟨fun _ => by omega, by simp⟩
/-- What is left of an order meets nobody. -/
theorem mch_none {o : Ord} {Q : List Ord} (hs : Srt o.buy Q) : ∀ q, 0 < (mch o q Q).2.1 → ∀ y ∈ (mch o q Q).2.2, meet o y = false := by
  induction Q with
  | nil => intro q _ y hy; simp [mch] at hy
  | cons x Q ih =>
    intro q hl y hy
    by_cases h : 0 < q ∧ meet o x = true
    · by_cases k : q < x.qty
      · rw [mch_part h.1 h.2 k] at hl
        simp at hl
      · rw [mch_all h.1 h.2 (by omega)] at hl hy
        exact ih (List.pairwise_cons.1 hs).2 _ hl y hy
    · rw [mch_no h] at hl hy
      have hl' : 0 < q := hl
      have hm : meet o x = false := by
        cases e : meet o x
        · rfl
        · exact absurd ⟨hl', e⟩ h
      have hp := srt_price hs
      rcases List.mem_cons.1 hy with e | e
      · rw [e]; exact hm
      · have h2 := hp y e
        unfold meet at hm ⊢
        cases hb : o.buy
        · rw [hb] at hm h2
          simp at hm h2 ⊢
          omega
        · rw [hb] at hm h2
          simp at hm h2 ⊢
          omega

/-- A book that is not crossed; the prices of all that came: f. -/
structure Unx (n : Nat) (f : Int → Int) (L M : List Ord) : Prop where
  fr : Fresh n L M
  all : ∀ x ∈ L ++ M, 0 < x.qty ∧ x.qty ≤ 15 ∧ f x.id = x.price
  un : ∀ b ∈ L, ∀ a ∈ M, b.price < a.price
  len : L.length + M.length ≤ n
theorem Unx.start (f : Int → Int) : Unx 0 f [] [] := ⟨Fresh.start, by simp, by simp, by simp⟩
/-- What is told of a trade. -/
structure TrdOk (n : Nat) (f : Int → Int) (o : Ord) (t : Trd) : Prop where
  qty : 0 < t.qty ∧ t.qty ≤ 15
  taker : t.taker = o.id
  maker : 1 ≤ t.maker ∧ t.maker ≤ (n : Int)
  price : f t.maker = t.price
  buy : o.buy = true → t.price ≤ o.price ∧ t.buyer = o.client
  sell : o.buy = false → o.price ≤ t.price ∧ t.seller = o.client
theorem Unx.trades {n : Nat} {f : Int → Int} {L M : List Ord} (h : Unx n f L M) (o : Ord) : ∀ t ∈ (mres o L M).1, TrdOk n f o t := fun t ht => by
  have hQ : ∀ x ∈ (if o.buy = true then M else L), x ∈ L ++ M := fun x hx => by
    split at hx <;> simp [hx]
  obtain ⟨x, hx, m, h1, h2, rfl, h4⟩ := mch_trades (fun x hx => (h.all x (hQ x hx)).1) o.qty t ht
  obtain ⟨a1, a2, a3⟩ := h.all x (hQ x hx)
  have hle := h.fr.le x (hQ x hx)
  unfold meet at h4
  unfold trd
  cases hb : o.buy
  · rw [hb] at h4
    simp at h4
    exact ⟨⟨h1, by show m ≤ 15; omega⟩, rfl, hle, a3, (fun e => by rw [hb] at e; cases e), fun _ => ⟨h4, rfl⟩⟩
  · rw [hb] at h4
    simp at h4
    exact ⟨⟨h1, by show m ≤ 15; omega⟩, rfl, hle, a3, fun _ => ⟨h4, rfl⟩, fun e => by rw [hb] at e; cases e⟩
theorem Unx.step {n : Nat} {f : Int → Int} {L M : List Ord} (h : Unx n f L M) (sL : Srt false L) (sM : Srt true M) {o : Ord} (ho : o.id = (n : Int) + 1) (hq : 0 ≤ o.qty ∧ o.qty ≤ 15) :
    Unx (n + 1) (upd f o.id o.price) (restL { o with qty := (mres o L M).2.1 } (mL o L M)) (restM { o with qty := (mres o L M).2.1 } (mM o L M)) := by
  have hlq := mch_left o (if o.buy = true then M else L) (fun x hx => by
    have : x ∈ L ++ M := by split at hx <;> simp [hx]
    have := (h.all x this).1; omega) o.qty hq.1
  have hall : ∀ x ∈ mL o L M ++ mM o L M, 0 < x.qty ∧ x.qty ≤ 15 ∧ f x.id = x.price := fun x hx => by
    have hst : ∃ y ∈ L ++ M, x.id = y.id ∧ x.price = y.price ∧ x.qty ≤ y.qty ∧ (0 < y.qty → 0 < x.qty) := by
      unfold mL mM mres at hx
      rcases List.mem_append.1 hx with g | g
      · split at g
        · exact ⟨x, by simp [g], rfl, rfl, Int.le_refl _, id⟩
        · obtain ⟨y, hy, e1, e2, _, _, e5, e6⟩ := mch_stand _ x g
          exact ⟨y, by simp [hy], e1, e2, e5, e6⟩
      · split at g
        · obtain ⟨y, hy, e1, e2, _, _, e5, e6⟩ := mch_stand _ x g
          exact ⟨y, by simp [hy], e1, e2, e5, e6⟩
        · exact ⟨x, by simp [g], rfl, rfl, Int.le_refl _, id⟩
    obtain ⟨y, hy, e1, e2, e3, e4⟩ := hst
    obtain ⟨a1, a2, a3⟩ := h.all y hy
    exact ⟨e4 a1, by omega, by rw [e1, e2]; exact a3⟩
  have hfr := h.fr.mch o
  have hlenm := mch_len o (if o.buy = true then M else L) o.qty
  have hlen2 : (mL o L M).length + (mM o L M).length ≤ n := by
    have := h.len
    unfold mL mM mres
    cases hb : o.buy <;> rw [hb] at hlenm <;> simp at hlenm ⊢ <;> omega
  refine ⟨hfr.rest ho, fun x hx => ?_, fun b hb a ha => ?_, ?_⟩
  · have hm := (rest_perm { o with qty := (mres o L M).2.1 } (mL o L M) (mM o L M)).mem_iff.1 hx
    have old : ∀ x ∈ mL o L M ++ mM o L M, 0 < x.qty ∧ x.qty ≤ 15 ∧ upd f o.id o.price x.id = x.price := fun x hx => by
      obtain ⟨a1, a2, a3⟩ := hall x hx
      have hne : x.id ≠ o.id := fun e => by have := hfr.le x hx; omega
      exact ⟨a1, a2, by show ite _ _ _ = _; rw [if_neg hne]; exact a3⟩
    split at hm
    · rename_i hne
      rcases List.mem_cons.1 hm with e | e
      · subst e
        have h1 : (mres o L M).2.1 ≠ 0 := hne
        refine ⟨?_, ?_, upd_same _ _ _⟩
        · show 0 < (mres o L M).2.1
          have := hlq.1
          unfold mres at h1 ⊢
          omega
        · show (mres o L M).2.1 ≤ 15
          have := hlq.2
          unfold mres
          omega
      · exact old x e
    · exact old x hm
  · have inL : ∀ b ∈ mL o L M, ∃ y ∈ L, b.price = y.price := fun b hb => by
      unfold mL mres at hb
      split at hb
      · exact ⟨b, hb, rfl⟩
      · obtain ⟨y, hy, _, e, _⟩ := mch_stand _ b hb
        exact ⟨y, hy, e⟩
    have inM : ∀ b ∈ mM o L M, ∃ y ∈ M, b.price = y.price := fun b hb => by
      unfold mM mres at hb
      split at hb
      · obtain ⟨y, hy, _, e, _⟩ := mch_stand _ b hb
        exact ⟨y, hy, e⟩
      · exact ⟨b, hb, rfl⟩
    have un2 : ∀ b ∈ mL o L M, ∀ a ∈ mM o L M, b.price < a.price := fun b hb a ha => by
      obtain ⟨y, hy, e1⟩ := inL b hb
      obtain ⟨z, hz, e2⟩ := inM a ha
      have := h.un y hy z hz
      omega
    unfold restL at hb
    unfold restM at ha
    dsimp only at hb ha
    split at hb
    · rename_i hc
      rw [if_neg (by rw [hc.2]; simp)] at ha
      rcases List.mem_cons.1 ((ins_perm false _ _).mem_iff.1 hb) with e | e
      · subst e
        have hM : mM o L M = (mch o o.qty M).2.2 := by unfold mM mres; rw [if_pos hc.2, if_pos hc.2]
        have hpos : 0 < (mch o o.qty M).2.1 := by
          have h1 := hc.1
          have h2 := hlq.1
          unfold mres at h1
          rw [if_pos hc.2] at h1 h2
          omega
        rw [hM] at ha
        have := mch_none (o := o) (Q := M) (by rw [hc.2]; exact sM) o.qty hpos a ha
        unfold meet at this
        rw [if_pos hc.2] at this
        simp at this
        exact this
      · exact un2 b e a ha
    · split at ha
      · rename_i hc
        rcases List.mem_cons.1 ((ins_perm true _ _).mem_iff.1 ha) with e | e
        · subst e
          have hL : mL o L M = (mch o o.qty L).2.2 := by unfold mL mres; rw [hc.2]; simp
          have hpos : 0 < (mch o o.qty L).2.1 := by
            have h1 := hc.1
            have h2 := hlq.1
            unfold mres at h1
            rw [hc.2] at h1 h2
            simp at h1 h2
            omega
          rw [hL] at hb
          have := mch_none (o := o) (Q := L) (by rw [hc.2]; exact sL) o.qty hpos b hb
          unfold meet at this
          rw [hc.2] at this
          simp at this
          exact this
        · exact un2 b hb a e
      · exact un2 b hb a ha
  · have := rest_len { o with qty := (mres o L M).2.1 } (mL o L M) (mM o L M)
    rw [this]
    split <;> omega
end Go.Proofs.YteabcpmpcbjicaaGreat

namespace Go.Proofs.YteabcpmpcbjicaaGreat
set_option linter.unusedVariables false
open Go Go.Proofs Go.RowKit Go.Maps
attribute [local go_sem ↓] Go.wp_at_zero Go.wp_at_succ

/-- A step's seven cells, in this and later worlds. -/
structure Step9 (w : World) (b o : Nat) (kd id cl : Int) (by' rs : Bool) (p q : Int) : Prop where
  c : ∀ wr, Below w.heap.size w wr → wr.cell? ⟨b, o, none⟩ = some (.int .i64 kd) ∧ wr.cell? ⟨b, o + 1, none⟩ = some (.int .i64 id) ∧ wr.cell? ⟨b, o + 2, none⟩ = some (.int .i64 cl) ∧
    wr.cell? ⟨b, o + 3, none⟩ = some (.bool by') ∧ wr.cell? ⟨b, o + 4, none⟩ = some (.bool rs) ∧ wr.cell? ⟨b, o + 5, none⟩ = some (.int .u64 p) ∧ wr.cell? ⟨b, o + 6, none⟩ = some (.int .u64 q)
theorem SRec.step9 {w : World} {a : Option Addr} {len cap : Nat} (h : SRec [some .i64, some .i64, some .i64, none, none, some .u64, some .u64] w a len cap) {i : Nat} (hi : i < len) :
    ∃ b off kd id cl by' rs p q, a = some ⟨b, off, none⟩ ∧ I kd ∧ I id ∧ I cl ∧ U p ∧ U q ∧ Step9 w b (off + i * 7) kd id cl by' rs p q := by
  obtain ⟨b, off, ha, hc⟩ := h.at hi
  obtain ⟨v0, c0, f0⟩ := hc 0 _ rfl
  obtain ⟨v1, c1, f1⟩ := hc 1 _ rfl
  obtain ⟨v2, c2, f2⟩ := hc 2 _ rfl
  obtain ⟨v3, c3, f3⟩ := hc 3 _ rfl
  obtain ⟨v4, c4, f4⟩ := hc 4 _ rfl
  obtain ⟨v5, c5, f5⟩ := hc 5 _ rfl
  obtain ⟨v6, c6, f6⟩ := hc 6 _ rfl
  obtain ⟨x0, rfl, h0⟩ := fits_i64 f0
  obtain ⟨x1, rfl, h1⟩ := fits_i64 f1
  obtain ⟨x2, rfl, h2⟩ := fits_i64 f2
  obtain ⟨x3, rfl⟩ := f3
  obtain ⟨x4, rfl⟩ := f4
  obtain ⟨x5, rfl, h5⟩ := fits_u64 f5
  obtain ⟨x6, rfl, h6⟩ := fits_u64 f6
  exact ⟨b, off, x0, x1, x2, x3, x4, x5, x6, ha, h0, h1, h2, h5, h6, ⟨fun wr hb => ⟨below_cell hb c0, below_cell hb c1, below_cell hb c2, below_cell hb c3, below_cell hb c4, below_cell hb c5, below_cell hb c6⟩⟩⟩

set_option maxRecDepth 100000 in
/-- m[x], of a map in memory: its run. -/
theorem MapU.look {w : World} {b n : Nat} {f : Int → Int} (h : MapU w b n f) {key : Int} (hk : I key) : (Instr.lookup 203 (.map (some b)) (.int .i64 key) false).run Tryz.prog w = .ok (.int .u64 (f key)) w := by
  obtain ⟨D, h1, h2, h3⟩ := h
  obtain ⟨c, hrun, hc, _⟩ := h2.lookup_int keyInt Tryz.underlying203 Tryz.underlying27 (zeroU w) (keyOf_int_mk Tryz.underlying3 (I_lit hk))
  rw [(h3 key (I_lit hk)).1] at hc
  injection hc with hc
  injection hc with _ hc
  rw [hrun, ← hc]
theorem BkS.srt {w wr : World} {F : List Nat} {k : Nat} {L M : List Ord} (h : BkS w wr F k L M) : Srt false L ∧ Srt true M := by
  obtain ⟨b1, s1, b2, s2, _, _, h1, h2, _⟩ := h.bk.all
  exact ⟨h1.srt, h2.srt⟩
theorem BkS.ok {w wr : World} {F : List Nat} {k : Nat} {L M : List Ord} (h : BkS w wr F k L M) : ∀ x ∈ L ++ M, x.Ok := by
  obtain ⟨b1, s1, b2, s2, _, _, h1, h2, _⟩ := h.bk.all
  intro x hx
  rcases List.mem_append.1 hx with g | g
  · exact h1.ok x g
  · exact h2.ok x g
end Go.Proofs.YteabcpmpcbjicaaGreat

namespace Go.Proofs.YteabcpmpcbjicaaGreat
set_option linter.unusedVariables false
open Go Go.Proofs Go.RowKit

/-! What was asked, what was traded, what stands, what went. -/
def qsum (L : List Ord) : Int := isum (L.map Ord.qty)
theorem qsum_perm {L M : List Ord} (h : L.Perm M) : qsum L = qsum M := by
  induction h with
  | nil => rfl
  | cons x _ ih => simp [qsum, isum] at ih ⊢; omega
  | swap x y l => simp [qsum, isum]; omega
  | trans _ _ h1 h2 => exact h1.trans h2
theorem mch_qsum {o : Ord} {Q : List Ord} : ∀ q, qsum Q = isum ((mch o q Q).1.map Trd.qty) + qsum (mch o q Q).2.2 := by
  induction Q with
  | nil => intro q; simp [mch, isum, qsum]
  | cons x Q ih =>
    intro q
    have tq : ∀ m, (trd o x m).qty = m := fun m => by unfold trd; split <;> rfl
    by_cases h : 0 < q ∧ meet o x = true
    · by_cases k : q < x.qty
      · rw [mch_part h.1 h.2 k]
        simp [qsum, isum, tq]
        omega
      · rw [mch_all h.1 h.2 (by omega)]
        have := ih (q - x.qty)
        simp [qsum, isum, tq] at this ⊢
        omega
    · rw [mch_no h]; simp [isum]
theorem restL_qsum (o : Ord) (L : List Ord) : qsum (restL o L) = qsum L + (if o.buy = true then o.qty else 0) := by
  unfold restL
  by_cases hq : o.qty = 0
  · rw [if_neg (by simp [hq])]; split <;> omega
  · cases hb : o.buy
    · simp
    · rw [if_pos ⟨hq, rfl⟩, qsum_perm (ins_perm _ _ _)]; simp [qsum, isum]; omega
theorem restM_qsum (o : Ord) (M : List Ord) : qsum (restM o M) = qsum M + (if o.buy = true then 0 else o.qty) := by
  unfold restM
  by_cases hq : o.qty = 0
  · rw [if_neg (by simp [hq])]; split <;> omega
  · cases hb : o.buy
    · rw [if_pos ⟨hq, rfl⟩, qsum_perm (ins_perm _ _ _)]; simp [qsum, isum]; omega
    · simp

theorem rest_all' {P : Ord → Prop} {o : Ord} {L M : List Ord} (h : ∀ x ∈ L ++ M, P x) (ho : o.qty ≠ 0 → P o) : ∀ x ∈ restL o L ++ restM o M, P x := fun x hx => by
  have hm := (rest_perm o L M).mem_iff.1 hx
  split at hm
  · rename_i hne
    rcases List.mem_cons.1 hm with e | e
    · exact e ▸ ho hne
    · exact h x e
  · exact h x hm
/-- A script's books so far: k orders; asked of sellers, of buyers; traded; went of sellers, of buyers. -/
structure Fil (k : Nat) (L M : List Ord) (a0 a1 S w0 w1 : Int) : Prop where
  fr : Fresh k L M
  fl : ∀ x ∈ L, x.buy = true
  fm : ∀ x ∈ M, x.buy = false
  all : ∀ x ∈ L ++ M, 0 < x.qty ∧ x.qty ≤ 15
  len : L.length + M.length ≤ k
  e0 : a0 = S + qsum M + w0
  e1 : a1 = S + qsum L + w1
  pos : 0 ≤ S ∧ 0 ≤ w0 ∧ 0 ≤ w1
  le : a0 + a1 ≤ 15 * k
theorem Fil.start : Fil 0 [] [] 0 0 0 0 0 := ⟨Fresh.start, by simp, by simp, by simp, by simp, rfl, rfl, by simp, by simp⟩
theorem qsum_nonneg {L : List Ord} (h : ∀ x ∈ L, 0 < x.qty) : 0 ≤ qsum L := isum_nonneg _ fun x hx => by
  obtain ⟨y, hy, rfl⟩ := List.mem_map.1 hx
  have := h y hy
  omega
theorem Fil.bounds {k : Nat} {L M : List Ord} {a0 a1 S w0 w1 : Int} (h : Fil k L M a0 a1 S w0 w1) : 0 ≤ a0 ∧ 0 ≤ a1 ∧ 0 ≤ qsum L ∧ 0 ≤ qsum M := by
  have h1 := qsum_nonneg (L := L) fun x hx => (h.all x (by simp [hx])).1
  have h2 := qsum_nonneg (L := M) fun x hx => (h.all x (by simp [hx])).1
  have := h.e0; have := h.e1; have := h.pos
  omega
/-- An order has met others: what stands. -/
theorem Fil.met {k : Nat} {L M : List Ord} {a0 a1 S w0 w1 : Int} (h : Fil k L M a0 a1 S w0 w1) {o : Ord} (hq : 0 ≤ o.qty ∧ o.qty ≤ 15) :
    (∀ x ∈ mL o L M, x.buy = true) ∧ (∀ x ∈ mM o L M, x.buy = false) ∧ (∀ x ∈ mL o L M ++ mM o L M, 0 < x.qty ∧ x.qty ≤ 15) ∧ (mL o L M).length + (mM o L M).length ≤ k ∧
    0 ≤ (mres o L M).2.1 ∧ (mres o L M).2.1 ≤ o.qty ∧ isum ((mres o L M).1.map Trd.qty) + (mres o L M).2.1 = o.qty ∧ 0 ≤ isum ((mres o L M).1.map Trd.qty) ∧
    qsum (mL o L M) = qsum L - (if o.buy = true then 0 else isum ((mres o L M).1.map Trd.qty)) ∧ qsum (mM o L M) = qsum M - (if o.buy = true then isum ((mres o L M).1.map Trd.qty) else 0) := by
  have hl := h.len
  have side : ∀ Q : List Ord, (∀ x ∈ Q, x ∈ L ++ M) → 0 ≤ (mch o o.qty Q).2.1 ∧ (mch o o.qty Q).2.1 ≤ o.qty := fun Q hQ => mch_left o Q (fun x hx => by have := h.all x (hQ x hx); omega) o.qty hq.1
  have tpos : ∀ Q : List Ord, (∀ x ∈ Q, x ∈ L ++ M) → 0 ≤ isum ((mch o o.qty Q).1.map Trd.qty) := fun Q hQ => by
    have h1 := side Q hQ
    have h2 := mch_sum o Q o.qty
    omega
  cases hb : o.buy
  · have e1 : mres o L M = mch o o.qty L := by unfold mres; rw [hb]; rfl
    have e2 : mL o L M = (mch o o.qty L).2.2 := by unfold mL; rw [hb, e1]; rfl
    have e3 : mM o L M = M := by unfold mM; rw [hb]; rfl
    rw [e1, e2, e3]
    have h1 := side L (by simp +contextual)
    have h2 := mch_sum o L o.qty
    have h3 := @mch_qsum o L o.qty
    have h4 := (mch_len o L o.qty).2
    have h5 := tpos L (by simp +contextual)
    have st := @mch_stand o L o.qty
    refine ⟨fun x hx => ?_, h.fm, fun x hx => ?_, by omega, h1.1, h1.2, h2, h5, by simp; omega, by simp⟩
    · obtain ⟨y, hy, _, _, _, e, _⟩ := st x hx
      rw [e]; exact h.fl y hy
    · rcases List.mem_append.1 hx with g | g
      · obtain ⟨y, hy, _, _, _, _, e5, e6⟩ := st x g
        have := h.all y (by simp [hy])
        exact ⟨e6 this.1, by omega⟩
      · exact h.all x (by simp [g])
  · have e1 : mres o L M = mch o o.qty M := by unfold mres; rw [hb]; rfl
    have e2 : mL o L M = L := by unfold mL; rw [hb]; rfl
    have e3 : mM o L M = (mch o o.qty M).2.2 := by unfold mM; rw [hb, e1]; rfl
    rw [e1, e2, e3]
    have h1 := side M (by simp +contextual)
    have h2 := mch_sum o M o.qty
    have h3 := @mch_qsum o M o.qty
    have h4 := (mch_len o M o.qty).2
    have h5 := tpos M (by simp +contextual)
    have st := @mch_stand o M o.qty
    refine ⟨h.fl, fun x hx => ?_, fun x hx => ?_, by omega, h1.1, h1.2, h2, h5, by simp, by simp; omega⟩
    · obtain ⟨y, hy, _, _, _, e, _⟩ := st x hx
      rw [e]; exact h.fm y hy
    · rcases List.mem_append.1 hx with g | g
      · exact h.all x (by simp [g])
      · obtain ⟨y, hy, _, _, _, _, e5, e6⟩ := st x g
        have := h.all y (by simp [hy])
        exact ⟨e6 this.1, by omega⟩
/-- An order whose rest stays. -/
theorem Fil.stay {k : Nat} {L M : List Ord} {a0 a1 S w0 w1 : Int} (h : Fil k L M a0 a1 S w0 w1) {o : Ord} (ho : o.id = (k : Int) + 1) (hq : 0 ≤ o.qty ∧ o.qty ≤ 15) :
    Fil (k + 1) (restL { o with qty := (mres o L M).2.1 } (mL o L M)) (restM { o with qty := (mres o L M).2.1 } (mM o L M)) (a0 + if o.buy = true then 0 else o.qty) (a1 + if o.buy = true then o.qty else 0) (S + isum ((mres o L M).1.map Trd.qty)) w0 w1 := by
  obtain ⟨m1, m2, m3, m4, m5, m6, m7, m8, m9, m10⟩ := h.met hq
  have hp := rest_perm { o with qty := (mres o L M).2.1 } (mL o L M) (mM o L M)
  have g0 := h.e0; have g1 := h.e1; have gp := h.pos; have gl := h.le
  have r1 := restL_qsum { o with qty := (mres o L M).2.1 } (mL o L M)
  have r2 := restM_qsum { o with qty := (mres o L M).2.1 } (mM o L M)
  dsimp only at r1 r2
  refine ⟨(h.fr.mch o).rest ho, fun x hx => ?_, fun x hx => ?_, rest_all' ?_ ?_, ?_, ?_, ?_, by omega, ?_⟩
  · unfold restL at hx
    split at hx
    · rename_i hc
      rcases List.mem_cons.1 ((ins_perm _ _ _).mem_iff.1 hx) with e | e
      · subst e; exact hc.2
      · exact m1 x e
    · exact m1 x hx
  · unfold restM at hx
    split at hx
    · rename_i hc
      rcases List.mem_cons.1 ((ins_perm _ _ _).mem_iff.1 hx) with e | e
      · subst e; exact hc.2
      · exact m2 x e
    · exact m2 x hx
  · exact m3
  · intro hne
    have : (mres o L M).2.1 ≠ 0 := hne
    exact ⟨by show 0 < (mres o L M).2.1; omega, by show (mres o L M).2.1 ≤ 15; omega⟩
  · rw [rest_len]; split <;> omega
  · rw [r2, m10]; split <;> omega
  · rw [r1, m9]; split <;> omega
  · rw [Int.natCast_add]; split <;> omega
/-- An order whose rest goes. -/
theorem Fil.goes {k : Nat} {L M : List Ord} {a0 a1 S w0 w1 : Int} (h : Fil k L M a0 a1 S w0 w1) {o : Ord} (ho : o.id = (k : Int) + 1) (hq : 0 ≤ o.qty ∧ o.qty ≤ 15) :
    Fil (k + 1) (mL o L M) (mM o L M) (a0 + if o.buy = true then 0 else o.qty) (a1 + if o.buy = true then o.qty else 0) (S + isum ((mres o L M).1.map Trd.qty)) (w0 + if o.buy = true then 0 else (mres o L M).2.1) (w1 + if o.buy = true then (mres o L M).2.1 else 0) := by
  obtain ⟨m1, m2, m3, m4, m5, m6, m7, m8, m9, m10⟩ := h.met hq
  have g0 := h.e0; have g1 := h.e1; have gp := h.pos; have gl := h.le
  refine ⟨(h.fr.mch o).mono (Nat.le_succ k), m1, m2, m3, by omega, ?_, ?_, ?_, ?_⟩
  · rw [m10]; split <;> omega
  · rw [m9]; split <;> omega
  · split <;> omega
  · rw [Int.natCast_add]; split <;> omega
/-- A row's next order: what it is, what stood ahead of it. -/
structure Nxt (b up : Bool) (Q : List Ord) (m : Nat) : Prop where
  buy : (Q.getD m Ord.zero).buy = b
  qty : 0 < (Q.getD m Ord.zero).qty ∧ (Q.getD m Ord.zero).qty ≤ 15
  sum : qsum (Q.take (m + 1)) = qsum (Q.take m) + (Q.getD m Ord.zero).qty
  pos : 0 ≤ qsum (Q.take m) ∧ qsum (Q.take m) ≤ 15 * m
  ah : ∀ p, m = p + 1 → ahead up (Q.getD p Ord.zero) (Q.getD m Ord.zero) = true
theorem qsum_le {L : List Ord} (h : ∀ x ∈ L, x.qty ≤ 15) : qsum L ≤ 15 * L.length := by
  induction L with
  | nil => simp [qsum, isum]
  | cons x L ih =>
    have h1 := h x (by simp)
    have h2 := ih fun y hy => h y (by simp [hy])
    simp [qsum, isum] at h2 ⊢
    omega
theorem nxt {b up : Bool} {Q : List Ord} {m : Nat} (hs : Srt up Q) (hb : ∀ x ∈ Q, x.buy = b) (hq : ∀ x ∈ Q, 0 < x.qty ∧ x.qty ≤ 15) (hm : m < Q.length) : Nxt b up Q m := by
  have hx : Q.getD m Ord.zero ∈ Q := getD_mem hm
  have ht : ∀ x ∈ Q.take m, 0 < x.qty ∧ x.qty ≤ 15 := fun x hx => hq x (List.mem_of_mem_take hx)
  have h1 := qsum_nonneg (L := Q.take m) fun x hx => (ht x hx).1
  have h2 := qsum_le (L := Q.take m) fun x hx => (ht x hx).2
  rw [List.length_take, Nat.min_eq_left (by omega)] at h2
  refine ⟨hb _ hx, hq _ hx, ?_, ⟨h1, h2⟩, fun p hp => ?_⟩
  · unfold qsum
    rw [List.take_succ_eq_append_getElem hm, List.map_append, isum_append]
    simp [isum, List.getD, hm]
  · have hp2 : p < Q.length := by omega
    have := List.pairwise_iff_getElem.1 hs p m hp2 hm (by omega)
    simpa [List.getD, hm, hp2] using this
end Go.Proofs.YteabcpmpcbjicaaGreat
