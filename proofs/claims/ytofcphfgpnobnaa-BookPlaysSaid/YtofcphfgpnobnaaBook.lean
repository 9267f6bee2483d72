import Derived.Test.YtofcphfgpnobnaaPick
import Derived.Test.YtofcphfgpnobnaaFlat
import Derived.StillTailTactics
namespace Go.Proofs.Ytofcphfgpnobnaa
set_option linter.unusedVariables false
open Go Go.Proofs Go.RowKit
attribute [local go_sem ↓] Go.wp_at_zero Go.wp_at_succ

/-! Trades; what comes of an order that meets others: plain. -/
structure Trd where
  maker : Int
  taker : Int
  buyer : Int
  seller : Int
  price : Int
  qty : Int
  deriving DecidableEq
abbrev Trd.zero : Trd := ⟨0, 0, 0, 0, 0, 0⟩
def tc (t : Trd) : List Value := [.int .i64 t.maker, .int .i64 t.taker, .int .i64 t.buyer, .int .i64 t.seller, .int .u64 t.price, .int .u64 t.qty]
theorem tc_len (t : Trd) : (tc t).length = 6 := rfl
abbrev tv (t : Trd) : Value := .agg #[.int .i64 t.maker, .int .i64 t.taker, .int .i64 t.buyer, .int .i64 t.seller, .int .u64 t.price, .int .u64 t.qty]
def meet (o x : Ord) : Bool := if o.buy = true then decide (x.price ≤ o.price) else decide (o.price ≤ x.price)
def trd (o x : Ord) (q : Int) : Trd := if o.buy = true then ⟨x.id, o.id, o.client, x.client, x.price, q⟩ else ⟨x.id, o.id, x.client, o.client, x.price, q⟩
/-- The trades, what is left of the order, what still stands. -/
def mch (o : Ord) : Int → List Ord → List Trd × Int × List Ord
  | q, [] => ([], q, [])
  | q, x :: L => if 0 < q ∧ meet o x = true then
      (if q < x.qty then ([trd o x q], 0, { x with qty := x.qty - q } :: L)
      else (trd o x x.qty :: (mch o (q - x.qty) L).1, (mch o (q - x.qty) L).2.1, (mch o (q - x.qty) L).2.2))
    else ([], q, x :: L)
theorem mch_nil (o : Ord) (q : Int) : mch o q [] = ([], q, []) := rfl
theorem mch_no {o : Ord} {q : Int} {x : Ord} {L : List Ord} (h : ¬ (0 < q ∧ meet o x = true)) : mch o q (x :: L) = ([], q, x :: L) := by show ite _ _ _ = _; rw [if_neg h]
theorem mch_part {o : Ord} {q : Int} {x : Ord} {L : List Ord} (h : 0 < q) (g : meet o x = true) (k : q < x.qty) : mch o q (x :: L) = ([trd o x q], 0, { x with qty := x.qty - q } :: L) := by show ite _ _ _ = _; rw [if_pos ⟨h, g⟩, if_pos k]
theorem mch_all {o : Ord} {q : Int} {x : Ord} {L : List Ord} (h : 0 < q) (g : meet o x = true) (k : x.qty ≤ q) : mch o q (x :: L) = (trd o x x.qty :: (mch o (q - x.qty) L).1, (mch o (q - x.qty) L).2.1, (mch o (q - x.qty) L).2.2) := by
  show ite _ _ _ = _
  rw [if_pos ⟨h, g⟩, if_neg (by omega)]
theorem mch_zero (o : Ord) (L : List Ord) : mch o 0 L = ([], 0, L) := by
  cases L with
  | nil => rfl
  | cons x L => exact mch_no (by omega)
theorem mch_len (o : Ord) (L : List Ord) : ∀ q, (mch o q L).1.length ≤ L.length ∧ (mch o q L).2.2.length ≤ L.length := by
  induction L with
  | nil => intro q; exact ⟨Nat.le_refl _, Nat.le_refl _⟩
  | cons x L ih =>
    intro q
    by_cases h : 0 < q ∧ meet o x = true
    · by_cases k : q < x.qty
      · rw [mch_part h.1 h.2 k]; simp
      · rw [mch_all h.1 h.2 (by omega)]
        have := ih (q - x.qty)
        simp; omega
    · rw [mch_no h]; simp
theorem mch_left (o : Ord) (L : List Ord) (hL : ∀ x ∈ L, 0 ≤ x.qty) : ∀ q, 0 ≤ q → 0 ≤ (mch o q L).2.1 ∧ (mch o q L).2.1 ≤ q := by
  induction L with
  | nil => intro q hq; exact ⟨hq, Int.le_refl _⟩
  | cons x L ih =>
    intro q hq
    have hx := hL x (by simp)
    by_cases h : 0 < q ∧ meet o x = true
    · by_cases k : q < x.qty
      · rw [mch_part h.1 h.2 k]; exact ⟨Int.le_refl _, hq⟩
      · rw [mch_all h.1 h.2 (by omega)]
        have := ih (fun y hy => hL y (by simp [hy])) (q - x.qty) (by omega)
        refine ⟨this.1, ?_⟩
        show (mch o (q - x.qty) L).2.1 ≤ q
        omega
    · rw [mch_no h]; exact ⟨hq, Int.le_refl _⟩
theorem mch_ids (o : Ord) (L : List Ord) : ∀ q, ((mch o q L).2.2.map Ord.id).Sublist (L.map Ord.id) := by
  induction L with
  | nil => intro q; exact List.Sublist.refl _
  | cons x L ih =>
    intro q
    by_cases h : 0 < q ∧ meet o x = true
    · by_cases k : q < x.qty
      · rw [mch_part h.1 h.2 k]; exact List.Sublist.refl _
      · rw [mch_all h.1 h.2 (by omega)]; exact (ih _).trans (List.sublist_cons_self _ _)
    · rw [mch_no h]; exact List.Sublist.refl _
def pickB (k : Int) (L M : List Ord) : Ord × Bool := if (pickQ k L).2 = true then pickQ k L else pickQ k M

/-! A book in memory: its block, its queues. -/
structure Bok (w : World) (F : List Nat) (k : Nat) (L M : List Ord) : Prop where
  mk' ::
  all : ∃ b1 s1 b2 s2, F = [k, b1, s1, b2, s2] ∧ Blk w k 86 [.pointer (some ⟨b1, 0, none⟩), .pointer (some ⟨b2, 0, none⟩)] ∧ Que w b1 s1 false L ∧ Que w b2 s2 true M ∧
    k ≠ b1 ∧ k ≠ s1 ∧ k ≠ b2 ∧ k ≠ s2 ∧ b1 ≠ b2 ∧ b1 ≠ s2 ∧ s1 ≠ b2 ∧ s1 ≠ s2
theorem Bok.lt {w : World} {F : List Nat} {k : Nat} {L M : List Ord} (h : Bok w F k L M) : ∀ x ∈ F, x < w.heap.size := by
  obtain ⟨b1, s1, b2, s2, rfl, hb, h1, h2, _⟩ := h.all
  have := hb.lt; have := h1.lt; have := h2.lt
  intro x hx
  simp at hx
  omega
theorem Bok.chg {w w' : World} {F S : List Nat} {k : Nat} {L M : List Ord} (h : Bok w F k L M) (g : Chg S w w') (hd : Dis F S) : Bok w' F k L M := by
  obtain ⟨b1, s1, b2, s2, rfl, hb, h1, h2, hn⟩ := h.all
  exact ⟨b1, s1, b2, s2, rfl, hb.chg g (hd _ (by simp)), h1.chg g (hd _ (by simp)) (hd _ (by simp)), h2.chg g (hd _ (by simp)) (hd _ (by simp)), hn⟩
theorem Bok.chg0 {w w' : World} {F : List Nat} {k : Nat} {L M : List Ord} (h : Bok w F k L M) (g : Chg [] w w') : Bok w' F k L M := h.chg g fun _ _ => by simp
theorem Bok.at {w : World} {F : List Nat} {k : Nat} {L M : List Ord} (h : Bok w F k L M) : k ∈ F := by
  obtain ⟨b1, s1, b2, s2, rfl, _⟩ := h.all; simp

/-- book.New. -/
theorem bNew (w : World) : Calls Try.prog 27 #[] w fun e w' => ∃ k F, e = .returned (.pointer (some ⟨k, 0, none⟩)) ∧ Bok w' F k [] [] ∧ Chg [] w w' ∧ ∀ x ∈ F, w.heap.size ≤ x := by
  go_enter Try.func27, Try.ntmps27
  go_wp2_with fail
  refine (qNew false _).mono ?_
  rintro e w1 ⟨b1, rfl, h1, c1, z1⟩
  go_wp2_with fail
  refine (qNew true _).mono ?_
  rintro e w2 ⟨b2, rfl, h2, c2, z2⟩
  have l1 := h1.lt
  have l2 := h2.lt
  have y1 := c1.size
  have y2 := c2.size
  have h1' := (h1.chg c2 (by simp) (by simp)).alloc (.cells #[.pointer (some ⟨b1, 0, none⟩), .pointer (some ⟨b2, 0, none⟩)] 86)
  have h2' := h2.alloc (.cells #[.pointer (some ⟨b1, 0, none⟩), .pointer (some ⟨b2, 0, none⟩)] 86)
  have hb : Blk (w2.alloc (.cells #[.pointer (some ⟨b1, 0, none⟩), .pointer (some ⟨b2, 0, none⟩)] 86)) w2.heap.size 86 [.pointer (some ⟨b1, 0, none⟩), .pointer (some ⟨b2, 0, none⟩)] := Blk.new _ _ _
  have hc := (c1.trans c2).alloc (.cells #[.pointer (some ⟨b1, 0, none⟩), .pointer (some ⟨b2, 0, none⟩)] 86)
  clear h1 h2 c1 c2
  go_wp2_with fail
  go_ret
  exact ⟨w2.heap.size, [w2.heap.size, b1, b1, b2, b2], rfl, ⟨b1, b1, b2, b2, rfl, hb, h1', h2', by omega⟩, hc, by simp; omega⟩

/-- meets. -/
theorem bMeets (o x : Ord) (w : World) : Calls Try.prog 49 #[ov o, ov x] w fun e w' => e = .returned (.bool (meet o x)) ∧ Chg [] w w' := by
  obtain ⟨i, c, b, p, q⟩ := o
  cases b
  all_goals
    go_enter Try.func49, Try.ntmps49
    go_wp2
    go_ret
    exact ⟨rfl, ((Chg.refl [] w).alloc _).alloc _⟩

/-- trade. -/
theorem bTrade (o x : Ord) (n : Int) (w : World) : Calls Try.prog 50 #[ov o, ov x, .int .u64 n] w fun e w' => e = .returned (tv (trd o x n)) ∧ Chg [] w w' := by
  obtain ⟨i, c, b, p, q⟩ := o
  cases b
  · go_enter Try.func50, Try.ntmps50
    go_wp2
    exact bodyPost_ret (v := tv (trd ⟨i, c, false, p, q⟩ x n)) (by simp [results, Try.results50, go_sem, trd]) rfl ⟨rfl, by
      repeat (first | exact Chg.refl _ _ | refine Chg.setCell ?_ _ _ (.inr (by simp)) | refine Chg.alloc ?_ _)⟩
  · go_enter Try.func50, Try.ntmps50
    go_wp2
    exact bodyPost_ret (v := tv (trd ⟨i, c, true, p, q⟩ x n)) (by simp [results, Try.results50, go_sem, trd]) rfl ⟨rfl, by
      repeat (first | exact Chg.refl _ _ | refine Chg.setCell ?_ _ _ (.inr (by simp)) | refine Chg.alloc ?_ _)⟩
end Go.Proofs.Ytofcphfgpnobnaa
