
import Derived.Test.YteabcpmpcbjicaaGreatAllA
import Derived.Test.YteabcpmpcbjicaaGreatMemA
import Derived.StillTailTactics
import Derived.Deep.CutBlock
import Derived.Deep.DeepCutAuto
import Derived.Deep.LoopGhost
import Derived.BigQuiet
namespace Go.Proofs.YteabcpmpcbjicaaGreat
set_option linter.unusedVariables false
open Go Go.Proofs Go.RowKit
attribute [local go_sem ↓] Go.wp_at_zero Go.wp_at_succ

/-! Trades; what comes of an order that meets others: plain. -/
structure Trd where
  maker : Int
  taker : Int
  buyer : Int
  seller : Int
  price : Int
  qty : Int
  deriving DecidableEq
abbrev Trd.zero : Trd := ⟨0, 0, 0, 0, 0, 0⟩
def tc (t : Trd) : List Value := [.int .i64 t.maker, .int .i64 t.taker, .int .i64 t.buyer, .int .i64 t.seller, .int .u64 t.price, .int .u64 t.qty]
theorem tc_len (t : Trd) : (tc t).length = 6 := rfl
abbrev tv (t : Trd) : Value := .agg #[.int .i64 t.maker, .int .i64 t.taker, .int .i64 t.buyer, .int .i64 t.seller, .int .u64 t.price, .int .u64 t.qty]
def meet (o x : Ord) : Bool := if o.buy = true then decide (x.price ≤ o.price) else decide (o.price ≤ x.price)
def trd (o x : Ord) (q : Int) : Trd := if o.buy = true then ⟨x.id, o.id, o.client, x.client, x.price, q⟩ else ⟨x.id, o.id, x.client, o.client, x.price, q⟩
/-- The trades, what is left of the order, what still stands. -/
def mch (o : Ord) : Int → List Ord → List Trd × Int × List Ord
  | q, [] => ([], q, [])
  | q, x :: L => if 0 < q ∧ meet o x = true then
      (if q < x.qty then ([trd o x q], 0, { x with qty := x.qty - q } :: L)
      else (trd o x x.qty :: (mch o (q - x.qty) L).1, (mch o (q - x.qty) L).2.1, (mch o (q - x.qty) L).2.2))
    else ([], q, x :: L)
theorem mch_nil (o : Ord) (q : Int) : mch o q [] = ([], q, []) := rfl
theorem mch_no {o : Ord} {q : Int} {x : Ord} {L : List Ord} (h : ¬ (0 < q ∧ meet o x = true)) : mch o q (x :: L) = ([], q, x :: L) := by show ite _ _ _ = _; rw [if_neg h]
theorem mch_part {o : Ord} {q : Int} {x : Ord} {L : List Ord} (h : 0 < q) (g : meet o x = true) (k : q < x.qty) : mch o q (x :: L) = ([trd o x q], 0, { x with qty := x.qty - q } :: L) := by show ite _ _ _ = _; rw [if_pos ⟨h, g⟩, if_pos k]
theorem mch_all {o : Ord} {q : Int} {x : Ord} {L : List Ord} (h : 0 < q) (g : meet o x = true) (k : x.qty ≤ q) : mch o q (x :: L) = (trd o x x.qty :: (mch o (q - x.qty) L).1, (mch o (q - x.qty) L).2.1, (mch o (q - x.qty) L).2.2) := by
  show ite _ _ _ = _
  rw [if_pos ⟨h, g⟩, if_neg (by omega)]
theorem mch_zero (o : Ord) (L : List Ord) : mch o 0 L = ([], 0, L) := by
  cases L with
  | nil => rfl
  | cons x L => exact mch_no (by omega)
theorem mch_len (o : Ord) (L : List Ord) : ∀ q, (mch o q L).1.length ≤ L.length ∧ (mch o q L).2.2.length ≤ L.length := by
  induction L with
  | nil => intro q; exact ⟨Nat.le_refl _, Nat.le_refl _⟩
  | cons x L ih =>
    intro q
    by_cases h : 0 < q ∧ meet o x = true
    · by_cases k : q < x.qty
      · rw [mch_part h.1 h.2 k]; simp
      · rw [mch_all h.1 h.2 (by omega)]
        have := ih (q - x.qty)
        simp; omega
    · rw [mch_no h]; simp
theorem mch_left (o : Ord) (L : List Ord) (hL : ∀ x ∈ L, 0 ≤ x.qty) : ∀ q, 0 ≤ q → 0 ≤ (mch o q L).2.1 ∧ (mch o q L).2.1 ≤ q := by
  induction L with
  | nil => intro q hq; exact ⟨hq, Int.le_refl _⟩
  | cons x L ih =>
    intro q hq
    have hx := hL x (by simp)
    by_cases h : 0 < q ∧ meet o x = true
    · by_cases k : q < x.qty
      · rw [mch_part h.1 h.2 k]; exact ⟨Int.le_refl _, hq⟩
      · rw [mch_all h.1 h.2 (by omega)]
        have := ih (fun y hy => hL y (by simp [hy])) (q - x.qty) (by omega)
        refine ⟨this.1, ?_⟩
        show (mch o (q - x.qty) L).2.1 ≤ q
        omega
    · rw [mch_no h]; exact ⟨hq, Int.le_refl _⟩
theorem mch_ids (o : Ord) (L : List Ord) : ∀ q, ((mch o q L).2.2.map Ord.id).Sublist (L.map Ord.id) := by
  induction L with
  | nil => intro q; exact List.Sublist.refl _
  | cons x L ih =>
    intro q
    by_cases h : 0 < q ∧ meet o x = true
    · by_cases k : q < x.qty
      · rw [mch_part h.1 h.2 k]; exact List.Sublist.refl _
      · rw [mch_all h.1 h.2 (by omega)]; exact (ih _).trans (List.sublist_cons_self _ _)
    · rw [mch_no h]; exact List.Sublist.refl _
def pickB (k : Int) (L M : List Ord) : Ord × Bool := if (pickQ k L).2 = true then pickQ k L else pickQ k M

/-! A book in memory: its block, its queues. -/
structure Bok (w : World) (F : List Nat) (k : Nat) (L M : List Ord) : Prop where
  mk' ::
  all : ∃ b1 s1 b2 s2, F = [k, b1, s1, b2, s2] ∧ Blk w k 173 [.pointer (some ⟨b1, 0, none⟩), .pointer (some ⟨b2, 0, none⟩)] ∧ Que w b1 s1 false L ∧ Que w b2 s2 true M ∧
    k ≠ b1 ∧ k ≠ s1 ∧ k ≠ b2 ∧ k ≠ s2 ∧ b1 ≠ b2 ∧ b1 ≠ s2 ∧ s1 ≠ b2 ∧ s1 ≠ s2
theorem Bok.lt {w : World} {F : List Nat} {k : Nat} {L M : List Ord} (h : Bok w F k L M) : ∀ x ∈ F, x < w.heap.size := by
  obtain ⟨b1, s1, b2, s2, rfl, hb, h1, h2, _⟩ := h.all
  have := hb.lt; have := h1.lt; have := h2.lt
  intro x hx
  simp at hx
  omega
theorem Bok.chg {w w' : World} {F S : List Nat} {k : Nat} {L M : List Ord} (h : Bok w F k L M) (g : Chg S w w') (hd : Dis F S) : Bok w' F k L M := by
  obtain ⟨b1, s1, b2, s2, rfl, hb, h1, h2, hn⟩ := h.all
  exact ⟨b1, s1, b2, s2, rfl, hb.chg g (hd _ (by simp)), h1.chg g (hd _ (by simp)) (hd _ (by simp)), h2.chg g (hd _ (by simp)) (hd _ (by simp)), hn⟩
theorem Bok.chg0 {w w' : World} {F : List Nat} {k : Nat} {L M : List Ord} (h : Bok w F k L M) (g : Chg [] w w') : Bok w' F k L M := h.chg g fun _ _ => by simp
theorem Bok.at {w : World} {F : List Nat} {k : Nat} {L M : List Ord} (h : Bok w F k L M) : k ∈ F := by
  obtain ⟨b1, s1, b2, s2, rfl, _⟩ := h.all; simp

/-- book.New. -/
theorem bNew (w : World) : Calls Tryz.prog 123 #[] w fun e w' => ∃ k F, e = .returned (.pointer (some ⟨k, 0, none⟩)) ∧ Bok w' F k [] [] ∧ Chg [] w w' ∧ ∀ x ∈ F, w.heap.size ≤ x := by
  go_enter Tryz.func123, Tryz.ntmps123
  go_wp2_with fail
  refine (qNew false _).mono ?_
  rintro e w1 ⟨b1, rfl, h1, c1, z1⟩
  go_wp2_with fail
  refine (qNew true _).mono ?_
  rintro e w2 ⟨b2, rfl, h2, c2, z2⟩
  have l1 := h1.lt
  have l2 := h2.lt
  have y1 := c1.size
  have y2 := c2.size
  have h1' := (h1.chg c2 (by simp) (by simp)).alloc (.cells #[.pointer (some ⟨b1, 0, none⟩), .pointer (some ⟨b2, 0, none⟩)] 173)
  have h2' := h2.alloc (.cells #[.pointer (some ⟨b1, 0, none⟩), .pointer (some ⟨b2, 0, none⟩)] 173)
  have hb : Blk (w2.alloc (.cells #[.pointer (some ⟨b1, 0, none⟩), .pointer (some ⟨b2, 0, none⟩)] 173)) w2.heap.size 173 [.pointer (some ⟨b1, 0, none⟩), .pointer (some ⟨b2, 0, none⟩)] := Blk.new _ _ _
  have hc := (c1.trans c2).alloc (.cells #[.pointer (some ⟨b1, 0, none⟩), .pointer (some ⟨b2, 0, none⟩)] 173)
  clear h1 h2 c1 c2
  go_wp2_with fail
  go_ret
  exact ⟨w2.heap.size, [w2.heap.size, b1, b1, b2, b2], rfl, ⟨b1, b1, b2, b2, rfl, hb, h1', h2', by omega⟩, hc, by simp; omega⟩

/-- meets. -/
theorem bMeets (o x : Ord) (w : World) : Calls Tryz.prog 211 #[ov o, ov x] w fun e w' => e = .returned (.bool (meet o x)) ∧ Chg [] w w' := by
  obtain ⟨i, c, b, p, q⟩ := o
  cases b
  all_goals
    go_enter Tryz.func211, Tryz.ntmps211
    go_wp2
    go_ret
    exact ⟨rfl, ((Chg.refl [] w).alloc _).alloc _⟩

/-- trade. -/
theorem bTrade (o x : Ord) (n : Int) (w : World) : Calls Tryz.prog 212 #[ov o, ov x, .int .u64 n] w fun e w' => e = .returned (tv (trd o x n)) ∧ Chg [] w w' := by
  obtain ⟨i, c, b, p, q⟩ := o
  cases b
  · go_enter Tryz.func212, Tryz.ntmps212
    go_wp2
    exact bodyPost_ret (v := tv (trd ⟨i, c, false, p, q⟩ x n)) (by simp [results, Tryz.results212, go_sem, trd]) rfl ⟨rfl, by
      repeat (first | exact Chg.refl _ _ | refine Chg.setCell ?_ _ _ (.inr (by simp)) | refine Chg.alloc ?_ _)⟩
  · go_enter Tryz.func212, Tryz.ntmps212
    go_wp2
    exact bodyPost_ret (v := tv (trd ⟨i, c, true, p, q⟩ x n)) (by simp [results, Tryz.results212, go_sem, trd]) rfl ⟨rfl, by
      repeat (first | exact Chg.refl _ _ | refine Chg.setCell ?_ _ _ (.inr (by simp)) | refine Chg.alloc ?_ _)⟩
end Go.Proofs.YteabcpmpcbjicaaGreat

namespace Go.Proofs.YteabcpmpcbjicaaGreat
set_option linter.unusedVariables false
open Go Go.Proofs Go.RowKit
attribute [local go_sem ↓] Go.wp_at_zero Go.wp_at_succ

/-- What stands behind a Rest. -/
def restL (o : Ord) (L : List Ord) : List Ord := if o.qty ≠ 0 ∧ o.buy = true then ins false o L else L
def restM (o : Ord) (M : List Ord) : List Ord := if o.qty ≠ 0 ∧ o.buy = false then ins true o M else M

set_option maxRecDepth 100000 in
set_option maxHeartbeats 1000000 in
/-- Rest. -/
theorem bRest {w : World} {F : List Nat} {k : Nat} {L M : List Ord} (h : Bok w F k L M) {o : Ord} (ho : o.Ok) (hL : ∀ x ∈ L, x.id ≠ o.id) (hM : ∀ x ∈ M, x.id ≠ o.id) (zL : L.length < 999999999999) (zM : M.length < 999999999999) :
    Calls Tryz.prog 196 #[.pointer (some ⟨k, 0, none⟩), ov o] w fun e w' => e = .returned (.tuple #[]) ∧ ∃ F', Bok w' F' k (restL o L) (restM o M) ∧ Chg F w w' ∧ Grw w.heap.size F F' := by
  by_cases hq : o.qty = 0
  · have e1 : restL o L = L := if_neg (by simp [hq])
    have e2 : restM o M = M := if_neg (by simp [hq])
    rw [e1, e2]
    have hz : (o.qty == 0) = true := by simp [hq]
    clear hq e1 e2 hL hM
    go_enter Tryz.func196, Tryz.ntmps196
    go_wp2_with fail
    go_end0
    exact ⟨rfl, F, h.chg0 ((Chg.refl [] w).alloc _), (Chg.refl _ _).alloc _, Grw.refl _ _⟩
  · have hz : (o.qty == 0) = false := by simp [hq]
    obtain ⟨b1, s1, b2, s2, rfl, hb, h1, h2, n1, n2, n3, n4, n5, n6, n7, n8⟩ := h.all
    have l1 := h1.lt
    have l2 := h2.lt
    have l3 := hb.lt
    cases hy : o.buy
    · have e1 : Hid (restL o L = L) := if_neg (by simp [hy])
      have e2 : Hid (restM o M = ins true o M) := if_pos ⟨hq, hy⟩
      have HM := Lib.hid hM
      have HY := Lib.hid hy
      clear hy
      clear hL hM hq h
      go_enter Tryz.func196, Tryz.ntmps196
      go_upto_region 2 with (fail)
      have c1 := (Chg.refl [] w).alloc (.cells #[.int .i64 o.id, .int .i64 o.client, .bool o.buy, .int .u64 o.price, .int .u64 o.qty] 73)
      obtain ⟨x0, x1, x2, x3, x4⟩ := box5 w o
      have g1 := h1.chg c1 (by simp) (by simp)
      have g2 := h2.chg c1 (by simp) (by simp)
      have gb := hb.chg c1 (by simp)
      generalize w.alloc _ = W at *
      have X2 := Lib.hid x2
      rw [HY.out] at x2
      have d1 := gb.at (i := 1) rfl
      go_upto_region 1 with (fail)
      clear x2
      have x2 := X2.out
      clear X2
      go_still_tail 5, (by kernel_rfl)
      change wpList _ _ _ _ _ W.drew
      have g3 := g1.drew
      have g4 := g2.drew
      have g5 := gb.drew
      have c2 := c1.drew
      clear x0 x1 x2 x3 x4 d1 gb g1 g2 c1
      generalize W.drew = V at *
      go_wp2_with fail
      refine (qPush g4 ho HM.out zM).mono ?_
      rintro e w3 ⟨rfl, s', h3, c3, hs⟩
      go_wp2_with fail
      go_end0
      refine ⟨rfl, [k, b1, s1, b2, s'], ?_, (c2.mono (by simp)).trans (c3.mono (by simp)), ?_⟩
      · rw [e1.out, e2.out]
        have := c2.size
        exact ⟨b1, s1, b2, s', rfl, g5.chg c3 (by simp; omega), g3.chg c3 (by simp; omega) (by simp; omega), h3, n1, n2, n3, by omega, n5, by omega, n7, by omega⟩
      · have := c2.size
        intro x hx
        simp at hx ⊢
        omega
    · have e1 : Hid (restL o L = ins false o L) := if_pos ⟨hq, hy⟩
      have e2 : Hid (restM o M = M) := if_neg (by simp [hy])
      have HM := Lib.hid hL
      have HY := Lib.hid hy
      clear hy
      clear hL hM hq h
      go_enter Tryz.func196, Tryz.ntmps196
      go_upto_region 2 with (fail)
      have c1 := (Chg.refl [] w).alloc (.cells #[.int .i64 o.id, .int .i64 o.client, .bool o.buy, .int .u64 o.price, .int .u64 o.qty] 73)
      obtain ⟨x0, x1, x2, x3, x4⟩ := box5 w o
      have g1 := h1.chg c1 (by simp) (by simp)
      have g2 := h2.chg c1 (by simp) (by simp)
      have gb := hb.chg c1 (by simp)
      generalize w.alloc _ = W at *
      have X2 := Lib.hid x2
      rw [HY.out] at x2
      have d1 := gb.at (i := 0) rfl
      go_upto_region 4 with (fail)
      clear x2
      have x2 := X2.out
      clear X2
      go_still_tail 5, (by kernel_rfl)
      change wpList _ _ _ _ _ W.drew
      have g3 := g1.drew
      have g4 := g2.drew
      have g5 := gb.drew
      have c2 := c1.drew
      clear x0 x1 x2 x3 x4 d1 gb g1 g2 c1
      generalize W.drew = V at *
      go_wp2_with fail
      refine (qPush g3 ho HM.out zL).mono ?_
      rintro e w3 ⟨rfl, s', h3, c3, hs⟩
      go_wp2_with fail
      go_end0
      refine ⟨rfl, [k, b1, s', b2, s2], ?_, (c2.mono (by simp)).trans (c3.mono (by simp)), ?_⟩
      · rw [e1.out, e2.out]
        have := c2.size
        exact ⟨b1, s', b2, s2, rfl, g5.chg c3 (by simp; omega), h3, g4.chg c3 (by simp; omega) (by simp; omega), n1, by omega, n3, n4, n5, n6, by omega, by omega⟩
      · have := c2.size
        intro x hx
        simp at hx ⊢
        omega

set_option maxRecDepth 100000 in
set_option maxHeartbeats 1000000 in
/-- Find. -/
theorem bFind {w : World} {F : List Nat} {k : Nat} {L M : List Ord} (h : Bok w F k L M) (id : Int) :
    Calls Tryz.prog 198 #[.pointer (some ⟨k, 0, none⟩), .int .i64 id] w fun e w' => e = .returned (.tuple #[ov (pickB id L M).1, .bool (pickB id L M).2]) ∧ Chg [] w w' := by
  obtain ⟨b1, s1, b2, s2, rfl, hb, h1, h2, _⟩ := h.all
  clear h
  have c1 := (Chg.refl [] w).alloc (.cells #[.int .i64 0, .int .i64 0, .bool false, .int .u64 0, .int .u64 0] 73)
  have g1 := h1.chg c1 (by simp) (by simp)
  have d0 := (hb.chg c1 (by simp)).at (i := 0) rfl
  obtain ⟨r, ok, hr⟩ : ∃ r ok, pickQ id L = (r, ok) := ⟨_, _, rfl⟩
  obtain ⟨q, ok2, hq⟩ : ∃ r ok, pickQ id M = (r, ok) := ⟨_, _, rfl⟩
  cases ok
  · have e : pickB id L M = (q, ok2) := by unfold pickB; rw [hr]; exact hq
    rw [e]
    have HR := Lib.hid hr
    have HQ := Lib.hid hq
    clear e hr hq
    go_enter Tryz.func198, Tryz.ntmps198
    go_wp2_with fail
    refine (qFind_any g1 id).mono ?_
    rw [HR.out]
    rintro e w2 ⟨rfl, cf⟩
    have B1 := own5 cf (by simp)
    have z1 := B1.lt
    dsimp only
    have c2 := (c1.trans cf).alloc (.cells #[.int .i64 r.id, .int .i64 r.client, .bool r.buy, .int .u64 r.price, .int .u64 r.qty] 73)
    have g2 := h2.chg c2 (by simp) (by simp)
    have d1 := (hb.chg c2 (by simp)).at (i := 1) rfl
    have B2 := B1.alloc (.cells #[.int .i64 r.id, .int .i64 r.client, .bool r.buy, .int .u64 r.price, .int .u64 r.qty] 73)
    clear g1 d0 c1 cf B1
    go_wp2_with fail
    generalize w2.alloc _ = W at *
    refine (qFind_any g2 id).mono ?_
    rw [HQ.out]
    rintro e w3 ⟨rfl, cf⟩
    have B3 := B2.chg cf (by simp)
    have z3 := B3.lt
    have a0 := B3.at (i := 0) rfl
    have a1 := B3.at (i := 1) rfl
    have a2 := B3.at (i := 2) rfl
    have a3 := B3.at (i := 3) rfl
    have a4 := B3.at (i := 4) rfl
    have f0 := B3.free 0
    have f1 := B3.free 1
    have f2 := B3.free 2
    have f3 := B3.free 3
    have f4 := B3.free 4
    have hc : Chg [] w (sto w3 w.heap.size 0 q) := sto_chg (c2.trans cf) _ _ _ (by simp)
    clear B2 B3 c2 cf
    go_wp2_with fail
    exact bodyPost_ret (v := .tuple #[ov q, .bool ok2]) (by simp [results, Tryz.results198, go_sem, a0, a1, a2, a3, a4]) rfl ⟨rfl, hc⟩
  · have e : pickB id L M = (r, true) := by unfold pickB; rw [hr]; exact rfl
    rw [e]
    have HR := Lib.hid hr
    have HQ := Lib.hid hq
    clear e hr hq
    go_enter Tryz.func198, Tryz.ntmps198
    go_wp2_with fail
    refine (qFind_any g1 id).mono ?_
    rw [HR.out]
    rintro e w2 ⟨rfl, cf⟩
    have B1 := own5 cf (by simp)
    have z1 := B1.lt
    dsimp only
    have c2 := (c1.trans cf).alloc (.cells #[.int .i64 r.id, .int .i64 r.client, .bool r.buy, .int .u64 r.price, .int .u64 r.qty] 73)
    have B3 := B1.alloc (.cells #[.int .i64 r.id, .int .i64 r.client, .bool r.buy, .int .u64 r.price, .int .u64 r.qty] 73)
    have BR : Blk (w2.alloc (.cells #[.int .i64 r.id, .int .i64 r.client, .bool r.buy, .int .u64 r.price, .int .u64 r.qty] 73)) w2.heap.size 73 (oc r) := Blk.new w2 (oc r) 73
    have r0 := BR.at (i := 0) rfl
    have r1 := BR.at (i := 1) rfl
    have r2 := BR.at (i := 2) rfl
    have r3 := BR.at (i := 3) rfl
    have r4 := BR.at (i := 4) rfl
    have a0 := B3.at (i := 0) rfl
    have a1 := B3.at (i := 1) rfl
    have a2 := B3.at (i := 2) rfl
    have a3 := B3.at (i := 3) rfl
    have a4 := B3.at (i := 4) rfl
    have f0 := B3.free 0
    have f1 := B3.free 1
    have f2 := B3.free 2
    have f3 := B3.free 3
    have f4 := B3.free 4
    clear g1 d0 c1 cf B1 B3 BR
    go_upto_region 3 with (fail)
    generalize w2.heap.size = gr at *
    generalize w2.alloc _ = W at *
    have hc : Chg [] w (sto W w.heap.size 0 r) := sto_chg c2 _ _ _ (by simp)
    clear c2
    go_wp2_with fail
    exact bodyPost_ret (v := .tuple #[ov r, .bool true]) (by simp [results, Tryz.results198, go_sem, a0, a1, a2, a3, a4]) rfl ⟨rfl, hc⟩

def remL (k : Int) (L : List Ord) : List Ord := sans k L
def remM (k : Int) (L M : List Ord) : List Ord := if (pickQ k L).2 = true then M else sans k M
set_option maxRecDepth 100000 in
set_option maxHeartbeats 1000000 in
/-- Remove. -/
theorem bRemove {w : World} {F : List Nat} {k : Nat} {L M : List Ord} (h : Bok w F k L M) (id : Int) (zL : L.length < 1000000000000) (zM : M.length < 1000000000000) :
    Calls Tryz.prog 199 #[.pointer (some ⟨k, 0, none⟩), .int .i64 id] w fun e w' => e = .returned (.tuple #[ov (pickB id L M).1, .bool (pickB id L M).2]) ∧ Bok w' F k (sans id L) (remM id L M) ∧ Chg F w w' := by
  obtain ⟨b1, s1, b2, s2, rfl, hb, h1, h2, n1, n2, n3, n4, n5, n6, n7, n8⟩ := h.all
  have l1 := h1.lt
  have l2 := h2.lt
  have l3 := hb.lt
  clear h
  have c1 := (Chg.refl [] w).alloc (.cells #[.int .i64 0, .int .i64 0, .bool false, .int .u64 0, .int .u64 0] 73)
  have g1 := h1.chg c1 (by simp) (by simp)
  have d0 := (hb.chg c1 (by simp)).at (i := 0) rfl
  obtain ⟨r, ok, hr⟩ : ∃ r ok, pickQ id L = (r, ok) := ⟨_, _, rfl⟩
  obtain ⟨q, ok2, hq⟩ : ∃ r ok, pickQ id M = (r, ok) := ⟨_, _, rfl⟩
  cases ok
  · have e : pickB id L M = (q, ok2) := by unfold pickB; rw [hr]; exact hq
    rw [e]
    have e2 : remM id L M = sans id M := by unfold remM; rw [hr]; rfl
    rw [e2]
    clear e2
    have HR := Lib.hid hr
    have HQ := Lib.hid hq
    clear e hr hq
    go_enter Tryz.func199, Tryz.ntmps199
    go_wp2_with fail
    refine (qRemove_pick g1 zL id).mono ?_
    rw [HR.out]
    rintro e w2 ⟨rfl, q1, cf⟩
    have B1 := own5 cf (by simp; omega)
    have z1 := B1.lt
    dsimp only
    have c2 := ((c1.mono (by simp)).trans cf).alloc (.cells #[.int .i64 r.id, .int .i64 r.client, .bool r.buy, .int .u64 r.price, .int .u64 r.qty] 73)
    have g2 := h2.chg c2 (by simp; omega) (by simp; omega)
    have gb := hb.chg c2 (by simp; omega)
    have d1 := gb.at (i := 1) rfl
    have B2 := B1.alloc (.cells #[.int .i64 r.id, .int .i64 r.client, .bool r.buy, .int .u64 r.price, .int .u64 r.qty] 73)
    have q2 := q1.alloc (.cells #[.int .i64 r.id, .int .i64 r.client, .bool r.buy, .int .u64 r.price, .int .u64 r.qty] 73)
    clear g1 d0 c1 cf B1 q1
    go_wp2_with fail
    generalize w2.alloc _ = W at *
    refine (qRemove_pick g2 zM id).mono ?_
    rw [HQ.out]
    rintro e w3 ⟨rfl, q3, cf⟩
    have B3 := B2.chg cf (by simp; omega)
    have z3 := B3.lt
    have a0 := B3.at (i := 0) rfl
    have a1 := B3.at (i := 1) rfl
    have a2 := B3.at (i := 2) rfl
    have a3 := B3.at (i := 3) rfl
    have a4 := B3.at (i := 4) rfl
    have f0 := B3.free 0
    have f1 := B3.free 1
    have f2 := B3.free 2
    have f3 := B3.free 3
    have f4 := B3.free 4
    have hc : Chg [k, b1, s1, b2, s2] w (sto w3 w.heap.size 0 q) := sto_chg ((c2.mono (by simp)).trans (cf.mono (by simp))) _ _ _ (by simp)
    have hK : Chg [w.heap.size] w3 (sto w3 w.heap.size 0 q) := sto_chg (Chg.refl _ _) _ _ _ (by simp)
    have HB : Hid (Bok (sto w3 w.heap.size 0 q) [k, b1, s1, b2, s2] k (sans id L) (sans id M)) :=
      ⟨b1, s1, b2, s2, rfl, (gb.chg cf (by simp; omega)).chg hK (by simp; omega), (q2.chg cf (by simp; omega) (by simp; omega)).chg hK (by simp; omega) (by simp; omega), q3.chg hK (by simp; omega) (by simp; omega), n1, n2, n3, n4, n5, n6, n7, n8⟩
    clear B2 B3 c2 cf q3 q2 g2 gb hK
    go_wp2_with fail
    exact bodyPost_ret (v := .tuple #[ov q, .bool ok2]) (by simp [results, Tryz.results199, go_sem, a0, a1, a2, a3, a4]) rfl ⟨rfl, HB.out, hc⟩
  · have e : pickB id L M = (r, true) := by unfold pickB; rw [hr]; exact rfl
    rw [e]
    have e2 : remM id L M = M := by unfold remM; rw [hr]; rfl
    rw [e2]
    clear e2
    have HR := Lib.hid hr
    have HQ := Lib.hid hq
    clear e hr hq
    go_enter Tryz.func199, Tryz.ntmps199
    go_wp2_with fail
    refine (qRemove_pick g1 zL id).mono ?_
    rw [HR.out]
    rintro e w2 ⟨rfl, q1, cf⟩
    have B1 := own5 cf (by simp; omega)
    have z1 := B1.lt
    dsimp only
    have c2 := ((c1.mono (by simp)).trans cf).alloc (.cells #[.int .i64 r.id, .int .i64 r.client, .bool r.buy, .int .u64 r.price, .int .u64 r.qty] 73)
    have B3 := B1.alloc (.cells #[.int .i64 r.id, .int .i64 r.client, .bool r.buy, .int .u64 r.price, .int .u64 r.qty] 73)
    have BR : Blk (w2.alloc (.cells #[.int .i64 r.id, .int .i64 r.client, .bool r.buy, .int .u64 r.price, .int .u64 r.qty] 73)) w2.heap.size 73 (oc r) := Blk.new w2 (oc r) 73
    have r0 := BR.at (i := 0) rfl
    have r1 := BR.at (i := 1) rfl
    have r2 := BR.at (i := 2) rfl
    have r3 := BR.at (i := 3) rfl
    have r4 := BR.at (i := 4) rfl
    have a0 := B3.at (i := 0) rfl
    have a1 := B3.at (i := 1) rfl
    have a2 := B3.at (i := 2) rfl
    have a3 := B3.at (i := 3) rfl
    have a4 := B3.at (i := 4) rfl
    have f0 := B3.free 0
    have f1 := B3.free 1
    have f2 := B3.free 2
    have f3 := B3.free 3
    have f4 := B3.free 4
    have hK2 := ((c1.mono (by simp)).trans cf).alloc (.cells #[.int .i64 r.id, .int .i64 r.client, .bool r.buy, .int .u64 r.price, .int .u64 r.qty] 73)
    have q1' := q1.alloc (.cells #[.int .i64 r.id, .int .i64 r.client, .bool r.buy, .int .u64 r.price, .int .u64 r.qty] 73)
    clear g1 d0 c1 cf B1 B3 BR q1
    go_upto_region 3 with (fail)
    generalize w2.heap.size = gr at *
    generalize w2.alloc _ = W at *
    have hK : Chg [w.heap.size] W (sto W w.heap.size 0 r) := sto_chg (Chg.refl _ _) _ _ _ (by simp)
    have hc : Chg [k, b1, s1, b2, s2] w (sto W w.heap.size 0 r) := sto_chg (c2.mono (by simp)) _ _ _ (by simp)
    have HB : Hid (Bok (sto W w.heap.size 0 r) [k, b1, s1, b2, s2] k (sans id L) M) :=
      ⟨b1, s1, b2, s2, rfl, (hb.chg hK2 (by simp; omega)).chg hK (by simp; omega), q1'.chg hK (by simp; omega) (by simp; omega), (h2.chg hK2 (by simp; omega) (by simp; omega)).chg hK (by simp; omega) (by simp; omega), n1, n2, n3, n4, n5, n6, n7, n8⟩
    clear c2 hK hK2 q1'
    go_wp2_with fail
    exact bodyPost_ret (v := .tuple #[ov r, .bool true]) (by simp [results, Tryz.results199, go_sem, a0, a1, a2, a3, a4]) rfl ⟨rfl, HB.out, hc⟩

theorem bBids {w : World} {F : List Nat} {k : Nat} {L M : List Ord} (h : Bok w F k L M) (hz : L.length < 1000000000000) :
    Calls Tryz.prog 40 #[.pointer (some ⟨k, 0, none⟩)] w fun e w' => ∃ v, e = .returned v ∧ Onew w' w.heap.size v L ∧ Chg [] w w' := by
  obtain ⟨b1, s1, b2, s2, rfl, hb, h1, h2, _⟩ := h.all
  have d0 := hb.at (i := 0) rfl
  go_enter Tryz.func40, Tryz.ntmps40
  go_wp2_with fail
  refine (qAll h1 hz).mono ?_
  rintro e w2 ⟨v, rfl, ho, cf⟩
  go_wp2_with fail
  go_ret
  exact ⟨v, rfl, ho, cf⟩

theorem bAsks {w : World} {F : List Nat} {k : Nat} {L M : List Ord} (h : Bok w F k L M) (hz : M.length < 1000000000000) :
    Calls Tryz.prog 41 #[.pointer (some ⟨k, 0, none⟩)] w fun e w' => ∃ v, e = .returned v ∧ Onew w' w.heap.size v M ∧ Chg [] w w' := by
  obtain ⟨b1, s1, b2, s2, rfl, hb, h1, h2, _⟩ := h.all
  have d0 := hb.at (i := 1) rfl
  go_enter Tryz.func41, Tryz.ntmps41
  go_wp2_with fail
  refine (qAll h2 hz).mono ?_
  rintro e w2 ⟨v, rfl, ho, cf⟩
  go_wp2_with fail
  go_ret
  exact ⟨v, rfl, ho, cf⟩

end Go.Proofs.YteabcpmpcbjicaaGreat

namespace Go.Proofs.YteabcpmpcbjicaaGreat
set_option linter.unusedVariables false
open Go Go.Proofs Go.RowKit
attribute [local go_sem ↓] Go.wp_at_zero Go.wp_at_succ

theorem info_trd : (Tryz.prog.info? 99).map (fun i => (i.zero, i.size, i.bytes)) = some (some (tv Trd.zero), 6, 48) := by kernel_rfl

/-- One side of a book; the book again, when it has turned. -/
theorem Bok.side {w : World} {F : List Nat} {k : Nat} {L M : List Ord} (h : Bok w F k L M) (buy : Bool) : ∃ bq sq up, bq < w.heap.size ∧ sq < w.heap.size ∧ Que w bq sq up (if buy = true then M else L) ∧
    (buy = false → w.cell? ⟨k, 0, none⟩ = some (.pointer (some ⟨bq, 0, none⟩))) ∧ (∃ b, w.cell? ⟨k, 0, none⟩ = some (.pointer (some ⟨b, 0, none⟩))) ∧ (buy = true → w.cell? ⟨k, 1, none⟩ = some (.pointer (some ⟨bq, 0, none⟩))) ∧
    ∀ (w' : World) Q', Que w' bq sq up Q' → Chg [bq, sq] w w' → Bok w' F k (if buy = true then L else Q') (if buy = true then Q' else M) ∧ Chg F w w' := by
  obtain ⟨b1, s1, b2, s2, rfl, hb, h1, h2, n1, n2, n3, n4, n5, n6, n7, n8⟩ := h.all
  have l1 := h1.lt
  have l2 := h2.lt
  have l3 := hb.lt
  cases buy
  · refine ⟨b1, s1, false, l1.1, l1.2, h1, fun _ => hb.at (i := 0) rfl, ⟨b1, hb.at (i := 0) rfl⟩, by simp, fun w' Q' hq c => ⟨?_, c.mono (by simp)⟩⟩
    exact ⟨b1, s1, b2, s2, rfl, hb.chg c (by simp; omega), hq, h2.chg c (by simp; omega) (by simp; omega), n1, n2, n3, n4, n5, n6, n7, n8⟩
  · refine ⟨b2, s2, true, l2.1, l2.2, h2, by simp, ⟨b1, hb.at (i := 0) rfl⟩, fun _ => hb.at (i := 1) rfl, fun w' Q' hq c => ⟨?_, c.mono (by simp)⟩⟩
    exact ⟨b1, s1, b2, s2, rfl, hb.chg c (by simp; omega), h1.chg c (by simp; omega) (by simp; omega), hq, n1, n2, n3, n4, n5, n6, n7, n8⟩

def mres (o : Ord) (L M : List Ord) : List Trd × Int × List Ord := mch o o.qty (if o.buy = true then M else L)
def mL (o : Ord) (L M : List Ord) : List Ord := if o.buy = true then L else (mres o L M).2.2
def mM (o : Ord) (L M : List Ord) : List Ord := if o.buy = true then (mres o L M).2.2 else M
/-- So far: what was traded, what is left, what stands. -/
def MchIs (o : Ord) (q0 : Int) (Q0 : List Ord) (T : List Trd) (q : Int) (Q : List Ord) : Prop := mch o q0 Q0 = (T ++ (mch o q Q).1, (mch o q Q).2.1, (mch o q Q).2.2)
theorem MchIs.start (o : Ord) (q : Int) (Q : List Ord) : MchIs o q Q [] q Q := rfl
theorem MchIs.part {o : Ord} {q0 q : Int} {Q0 Q : List Ord} {T : List Trd} {x : Ord} (h : MchIs o q0 Q0 T q (x :: Q)) (hq : 0 < q) (g : meet o x = true) (k : q < x.qty) : MchIs o q0 Q0 (T ++ [trd o x q]) 0 ({ x with qty := x.qty - q } :: Q) := by
  unfold MchIs at h ⊢
  rw [h, mch_part hq g k, mch_zero]
  simp
theorem MchIs.all {o : Ord} {q0 q : Int} {Q0 Q : List Ord} {T : List Trd} {x : Ord} (h : MchIs o q0 Q0 T q (x :: Q)) (hq : 0 < q) (g : meet o x = true) (k : x.qty ≤ q) : MchIs o q0 Q0 (T ++ [trd o x x.qty]) (q - x.qty) Q := by
  unfold MchIs at h ⊢
  rw [h, mch_all hq g k]
  simp
theorem MchIs.zero {o : Ord} {q0 : Int} {Q0 Q : List Ord} {T : List Trd} (h : MchIs o q0 Q0 T 0 Q) : mch o q0 Q0 = (T, 0, Q) := by rw [show mch o q0 Q0 = _ from h, mch_zero]; simp
theorem MchIs.nil {o : Ord} {q0 q : Int} {Q0 : List Ord} {T : List Trd} (h : MchIs o q0 Q0 T q []) : mch o q0 Q0 = (T, q, []) := by rw [show mch o q0 Q0 = _ from h]; simp [mch]
theorem MchIs.no {o : Ord} {q0 q : Int} {Q0 Q : List Ord} {T : List Trd} {x : Ord} (h : MchIs o q0 Q0 T q (x :: Q)) (g : meet o x = false) : mch o q0 Q0 = (T, q, x :: Q) := by
  rw [show mch o q0 Q0 = _ from h, mch_no (by simp [g])]; simp
theorem MchIs.len {o : Ord} {q0 q : Int} {Q0 Q : List Ord} {T : List Trd} (h : MchIs o q0 Q0 T q Q) : T.length ≤ Q0.length := by
  have := (mch_len o Q0 q0).1
  rw [show mch o q0 Q0 = _ from h] at this
  simp at this
  omega

/-- What Match leaves in memory. -/
structure MchPost (w w' : World) (F : List Nat) (k : Nat) (o : Ord) (L M : List Ord) (a : Option Addr) : Prop where
  tr : NewF tc w' w.heap.size 99 a (mres o L M).1
  bk : Bok w' F k (mL o L M) (mM o L M)
  chg : Chg F w w'
theorem MchPost.of {w w' : World} {F : List Nat} {k : Nat} {o : Ord} {L M : List Ord} {a : Option Addr} {T : List Trd} {q : Int} {Q : List Ord} (h : mres o L M = (T, q, Q)) (hN : NewF tc w' w.heap.size 99 a T)
    (hb : Bok w' F k (if o.buy = true then L else Q) (if o.buy = true then Q else M) ∧ Chg F w w') : MchPost w w' F k o L M a :=
  ⟨by rw [h]; exact hN, by unfold mL mM; rw [h]; exact hb.1, hb.2⟩
/-- A round's state in memory. -/
structure MSt (w : World) (g bq sq : Nat) (up : Bool) (oi ol : Int) (ob : Bool) (op : Int) (wr : World) (v : Value) (T : List Trd) (q : Int) (Q : List Ord) : Prop where
  own : wr.ownsRow (g + 1) 99 6 v T.length (flat tc T)
  box : Blk wr g 73 (oc ⟨oi, ol, ob, op, q⟩)
  que : Que wr bq sq up Q
  chg : Chg [bq, sq] w wr
  ne : bq < g ∧ sq < g ∧ w.heap.size = g
theorem MSt.to {w : World} {g bq sq : Nat} {up : Bool} {oi ol : Int} {ob : Bool} {op : Int} {wr w' : World} {v : Value} {T : List Trd} {q : Int} {Q : List Ord} (h : MSt w g bq sq up oi ol ob op wr v T q Q) (c : Chg [] wr w') : MSt w g bq sq up oi ol ob op w' v T q Q :=
  ⟨own_chg h.own c (by simp), h.box.chg c (by simp), h.que.chg c (by simp) (by simp), h.chg.trans (c.mono (by simp)), h.ne⟩
theorem MSt.grown {w : World} {g bq sq : Nat} {up : Bool} {oi ol : Int} {ob : Bool} {op : Int} {wr w' : World} {v v' : Value} {T T' : List Trd} {q : Int} {Q : List Ord} (h : MSt w g bq sq up oi ol ob op wr v T q Q) (hg : wr.grownBy w' v.ownBlock)
    (ho : w'.ownsRow (g + 1) 99 6 v' T'.length (flat tc T')) : MSt w g bq sq up oi ol ob op w' v' T' q Q := by
  have hb := own_base h.own
  obtain ⟨n1, n2, n3⟩ := h.ne
  have c : ∀ x, x ≤ g → ∀ y, w'.heap[x]? = some y ↔ wr.heap[x]? = some y := fun x hx y => by
    rcases Nat.lt_or_ge x wr.heap.size with h1 | h1
    · rw [hg.block x h1 (fun e => by have := hb x e.symm; omega)]
    · have := h.box.lt; omega
  have cc : Chg (match v.ownBlock with | some k => [k] | none => []) wr w' := (Chg.refl _ wr).grown hg (fun k hk => by rw [hk]; simp)
  have hm : ∀ x, x ≤ g → x ∉ (match v.ownBlock with | some k => [k] | none => []) := fun x hx => by
    cases e : v.ownBlock with
    | none => simp
    | some k => have := hb k e; simp; omega
  exact ⟨ho, h.box.chg cc (hm g (by omega)), h.que.chg cc (hm _ (by omega)) (hm _ (by omega)), h.chg.grown hg (fun k hk => .inr (by have := hb k hk; omega)), h.ne⟩
theorem MSt.store {w : World} {g bq sq : Nat} {up : Bool} {oi ol : Int} {ob : Bool} {op : Int} {wr : World} {v : Value} {T : List Trd} {q : Int} {Q : List Ord} (h : MSt w g bq sq up oi ol ob op wr v T q Q) (q' : Int) : MSt w g bq sq up oi ol ob op (wr.setCell ⟨g, 4, none⟩ (.int .u64 q')) v T q' Q := by
  obtain ⟨n1, n2, n3⟩ := h.ne
  have c : Chg [g] wr (wr.setCell ⟨g, 4, none⟩ (.int .u64 q')) := (Chg.refl _ _).setCell _ _ (by simp)
  exact ⟨own_chg h.own c (by simp), h.box.set 4 _, h.que.chg c (by simp; omega) (by simp; omega), h.chg.setCell _ _ (.inr (by show _ ≤ g; omega)), h.ne⟩
theorem MSt.queue {w : World} {g bq sq : Nat} {up : Bool} {oi ol : Int} {ob : Bool} {op : Int} {wr w' : World} {v : Value} {T : List Trd} {q : Int} {Q Q' : List Ord} (h : MSt w g bq sq up oi ol ob op wr v T q Q) (hq : Que w' bq sq up Q') (c : Chg [bq, sq] wr w') : MSt w g bq sq up oi ol ob op w' v T q Q' := by
  obtain ⟨n1, n2, n3⟩ := h.ne
  exact ⟨own_chg h.own c (by simp; omega), h.box.chg c (by simp; omega), hq, h.chg.trans c, h.ne⟩

set_option maxRecDepth 100000 in
set_option maxHeartbeats 4000000 in
/-- Match. -/
theorem bMatch {w : World} {F : List Nat} {k : Nat} {L M : List Ord} (h : Bok w F k L M) {o : Ord} (ho : o.Ok) (zL : L.length < 999999999) (zM : M.length < 999999999) :
    Calls Tryz.prog 204 #[.pointer (some ⟨k, 0, none⟩), ov o] w fun e w' => ∃ a c, e = .returned (.tuple #[.slice a (mres o L M).1.length c, .int .u64 (mres o L M).2.1]) ∧ MchPost w w' F k o L M a := by
  obtain ⟨i0, hi, iz0, iz1, iz2⟩ := info_parts info_trd
  obtain ⟨oi, ol, ob, op, oq⟩ := o
  obtain ⟨bq, sq, up, lb, ls, hQ, hc0, ⟨bb, hc1⟩, hc2, hback⟩ := h.side ob
  have HB := Lib.hid hback
  have HR : Hid (mres ⟨oi, ol, ob, op, oq⟩ L M = mch ⟨oi, ol, ob, op, oq⟩ oq (if ob = true then M else L)) := rfl
  have HL : Hid (mL ⟨oi, ol, ob, op, oq⟩ L M = if ob = true then L else (mres ⟨oi, ol, ob, op, oq⟩ L M).2.2) := rfl
  have HM : Hid (mM ⟨oi, ol, ob, op, oq⟩ L M = if ob = true then (mres ⟨oi, ol, ob, op, oq⟩ L M).2.2 else M) := rfl
  have zQ : (if ob = true then M else L).length < 999999999 := by split <;> assumption
  generalize hQ0 : (if ob = true then M else L) = Q0 at *
  have HI : Hid (MchIs ⟨oi, ol, ob, op, oq⟩ oq Q0 [] oq Q0) := MchIs.start _ _ _
  have HO := Lib.hid ho
  obtain ⟨u1, u2⟩ := ho.qty
  dsimp only at u1 u2
  have b1 := Blk.new w (oc ⟨oi, ol, ob, op, oq⟩) 73
  have c1 := (Chg.refl [] w).alloc (.cells #[.int .i64 oi, .int .i64 ol, .bool ob, .int .u64 op, .int .u64 oq] 73)
  have hQ1 := hQ.alloc (.cells #[.int .i64 oi, .int .i64 ol, .bool ob, .int .u64 op, .int .u64 oq] 73)
  have k0 := c1.cell hc1 (by simp)
  have K0 := Lib.hid hc0
  have K1 := Lib.hid hc2
  have HC := Lib.hid c1
  clear hQ0 ho h hback hQ hc0 hc1 hc2 zL zM
  go_enter Tryz.func204, Tryz.ntmps204
  go_upto_if 16 with (fail)
  have B1 : Blk (w.alloc (.cells #[.int .i64 oi, .int .i64 ol, .bool ob, .int .u64 op, .int .u64 oq] 73)) w.heap.size 73 (oc ⟨oi, ol, ob, op, oq⟩) := b1
  clear b1
  obtain ⟨g, hg⟩ : ∃ g, w.heap.size = g := ⟨_, rfl⟩
  rw [hg] at B1 lb ls ⊢
  have HG := Lib.hid hg
  clear hg
  go_cut [6] from 17 to 20 (fun v wx => v = .pointer (some ⟨bq, 0, none⟩) ∧ w.alloc (.cells #[.int .i64 oi, .int .i64 ol, .bool ob, .int .u64 op, .int .u64 oq] 73) = wx)
  case first =>
    cases ob
    · have e := HC.out.cell (K0.out rfl) (by simp)
      rw [k0] at e
      injection e with e
      injection e with e
      injection e with e
      injection e with e
      subst e
      clear c1
      go_wp2_with fail
      go_meet
      exact ⟨rfl, rfl⟩
    · have e := HC.out.cell (K1.out rfl) (by simp)
      clear c1
      go_wp2_with fail
      go_meet
      exact ⟨rfl, rfl⟩
  case rest =>
    obtain ⟨rfl, rfl⟩ := hcut
    clear k0 K0 K1
    generalize w.alloc _ = W0 at *
    go_wp2_with fail
    have hS0 : MSt w g bq sq up oi ol ob op W0 (.slice none 0 0) [] oq Q0 := ⟨World.ownsRow_nil _ _ _ _, B1, hQ1, c1.mono (by simp), lb, ls, HG.out⟩
    clear B1 hQ1 c1 HC
    go_loopg [7] (2 * Q0.length + 1) (fun n v wr => ∃ (T : List Trd) (q : Int) (Q : List Ord), MSt w g bq sq up oi ol ob op wr v T q Q ∧ Hid (MchIs ⟨oi, ol, ob, op, oq⟩ oq Q0 T q Q) ∧ 0 ≤ q ∧ q ≤ oq ∧ Q.length ≤ Q0.length ∧ Hid (2 * Q.length + (if 0 < q then 1 else 0) ≤ n))
    case atStart => exact ⟨[], oq, Q0, hS0, HI, u1, Int.le_refl _, Nat.le_refl _, by show _ ≤ _; split <;> omega⟩
    case round =>
      clear hS0 HI
      obtain ⟨T, q, Q, hS, hI, q1, q2, q3, hn⟩ := hrel
      have hTl := hI.out.len
      by_cases h0 : 0 < q
      · cases Q with
        | nil =>
          have h4 := hS.box.at (i := 4) rfl
          have HF := Lib.hid hI.out.nil
          clear hI
          go_wp2_with fail
          refine (qPeek_nil hS.que).mono ?_
          rintro e w2 ⟨rfl, c2⟩
          have c2b := c2.alloc (.cells #[.int .i64 0, .int .i64 0, .bool false, .int .u64 0, .int .u64 0] 73)
          have hS2 := hS.to c2b
          clear hS c2 c2b h4
          go_upto_region 7 with (fail)
          generalize w2.alloc _ = W2 at *
          have z4 := hS2.box.at (i := 4) rfl
          have HST := Lib.hid hS2
          obtain ⟨a, cap, rfl, hN⟩ := own_new HST.out.own
          have HNN := Lib.hid hN
          clear hN hS2
          go_wp2_with fail
          go_quiet (fail)
          go_wp2_with fail
          have hfin : mres ⟨oi, ol, ob, op, oq⟩ L M = (T, q, []) := HR.out.trans HF.out
          have hret : Ending.returned (.tuple #[.slice a T.length cap, .int .u64 q]) = Ending.returned (.tuple #[.slice a (mres ⟨oi, ol, ob, op, oq⟩ L M).1.length cap, .int .u64 (mres ⟨oi, ol, ob, op, oq⟩ L M).2.1]) := by rw [hfin]
          have hpost := MchPost.of (F := F) (k := k) hfin (by rw [HG.out]; exact (HNN.out.mono (Nat.le_succ g)).chg0 ((Chg.refl [] _).drewN nq)) (HB.out _ _ (HST.out.que.drewN nq) (HST.out.chg.drewN nq))
          go_ret2
          exact ⟨a, cap, hret, hpost⟩
        | cons x Q =>
          have hx := hS.que.ok x (by simp)
          obtain ⟨x1, x2⟩ := hx.qty
          have h4 := hS.box.at (i := 4) rfl
          go_wp2_with fail
          refine (qPeek_cons hS.que).mono ?_
          rintro e w2 ⟨rfl, c2⟩
          have c2b := c2.alloc (.cells #[.int .i64 x.id, .int .i64 x.client, .bool x.buy, .int .u64 x.price, .int .u64 x.qty] 73)
          have hBX : Blk (w2.alloc (.cells #[.int .i64 x.id, .int .i64 x.client, .bool x.buy, .int .u64 x.price, .int .u64 x.qty] 73)) w2.heap.size 73 (oc x) := Blk.new w2 (oc x) 73
          have hS2 := hS.to c2b
          have hgx : g < w2.heap.size := by have := c2.size; have := hS.box.lt; omega
          have hog := Lib.hid fun k hk => Nat.lt_of_lt_of_le (hS.own.lt k hk).2 c2.size
          clear hS c2 c2b h4
          go_upto_region 7 with (fail)
          generalize w2.heap.size = gx at *
          generalize w2.alloc _ = W2 at *
          have b0 := hS2.box.at (i := 0) rfl
          have b1 := hS2.box.at (i := 1) rfl
          have b2 := hS2.box.at (i := 2) rfl
          have b3 := hS2.box.at (i := 3) rfl
          have b4 := hS2.box.at (i := 4) rfl
          have y0 := hBX.at (i := 0) rfl
          have y1 := hBX.at (i := 1) rfl
          have y2 := hBX.at (i := 2) rfl
          have y3 := hBX.at (i := 3) rfl
          have y4 := hBX.at (i := 4) rfl
          cases hmt : meet ⟨oi, ol, ob, op, oq⟩ x with
          | false =>
            have HMT : Hid (meet ⟨oi, ol, ob, op, q⟩ x = false) := hmt
            have HF := Lib.hid (hI.out.no hmt)
            clear hI hmt
            go_wp2_with fail
            refine (bMeets ⟨oi, ol, ob, op, q⟩ x _).mono ?_
            rw [HMT.out]
            rintro e w3 ⟨rfl, c3⟩
            have hS3 := hS2.to c3
            clear hS2 c3 b0 b1 b2 b3 b4 y0 y1 y2 y3 y4 hBX
            have z4 := hS3.box.at (i := 4) rfl
            have HST := Lib.hid hS3
            obtain ⟨a, cap, rfl, hN⟩ := own_new HST.out.own
            have HNN := Lib.hid hN
            clear hN hS3
            go_wp2_with fail
            go_quiet (fail)
            go_wp2_with fail
            have hfin : mres ⟨oi, ol, ob, op, oq⟩ L M = (T, q, (x :: Q)) := HR.out.trans HF.out
            have hret : Ending.returned (.tuple #[.slice a T.length cap, .int .u64 q]) = Ending.returned (.tuple #[.slice a (mres ⟨oi, ol, ob, op, oq⟩ L M).1.length cap, .int .u64 (mres ⟨oi, ol, ob, op, oq⟩ L M).2.1]) := by rw [hfin]
            have hpost := MchPost.of (F := F) (k := k) hfin (by rw [HG.out]; exact (HNN.out.mono (Nat.le_succ g)).chg0 ((Chg.refl [] _).drewN nq)) (HB.out _ _ (HST.out.que.drewN nq) (HST.out.chg.drewN nq))
            go_ret2
            exact ⟨a, cap, hret, hpost⟩
          | true =>
            by_cases hlt : q < x.qty
            · have HI2 := Lib.hid (hI.out.part h0 hmt hlt)
              clear hI
              obtain ⟨t, ht⟩ : ∃ t, trd ⟨oi, ol, ob, op, oq⟩ x q = t := ⟨_, rfl⟩
              have HTT : Hid (trd ⟨oi, ol, ob, op, q⟩ x q = t) := ht
              have HT := Lib.hid ht
              have HMT : Hid (meet ⟨oi, ol, ob, op, q⟩ x = true) := hmt
              have HMQ := Lib.hid hmt
              clear hmt ht
              go_wp2_with fail
              refine (bMeets ⟨oi, ol, ob, op, q⟩ x _).mono ?_
              rw [HMT.out]
              rintro e w3 ⟨rfl, c3⟩
              have hS3 := hS2.to c3
              have hB3 := hBX.chg c3 (by simp)
              clear hS2 c3 b0 b1 b2 b3 b4 y0 y1 y2 y3 y4 hBX
              have b0 := hS3.box.at (i := 0) rfl
              have b1 := hS3.box.at (i := 1) rfl
              have b2 := hS3.box.at (i := 2) rfl
              have b3 := hS3.box.at (i := 3) rfl
              have b4 := hS3.box.at (i := 4) rfl
              have y0 := hB3.at (i := 0) rfl
              have y1 := hB3.at (i := 1) rfl
              have y2 := hB3.at (i := 2) rfl
              have y3 := hB3.at (i := 3) rfl
              have y4 := hB3.at (i := 4) rfl
              go_wp2_with fail
              refine (bTrade ⟨oi, ol, ob, op, q⟩ x q _).mono ?_
              rw [HTT.out]
              rintro e w4 ⟨rfl, c4⟩
              have hS4 := hS3.to c4
              have hB4 := hB3.chg c4 (by simp)
              clear hS3 c4 b0 b1 b2 b3 b4 y0 y1 y2 y3 y4 hB3
              have hown := hS4.own
              go_wp2_with (at_builtin; refine wpList_append_own _ rfl (.tmp 42) (.tmp 47) 44 rfl (g + 1) 99 i0 (tv Trd.zero) 6 48 Tryz.underlying44 hi iz0 iz1 iz2 rfl (by decide) _ _ _ rfl (hown.alloc _) ⟨w4.heap.size, 0, none⟩ 1 1 (tc t) rfl rfl ?c1 ?c2 ?c3 ?c4 ?c5 ?_)
              case c1 => exact news_new w4 _ _
              case c2 => simp [tc, Value.oneCell']
              case c3 => unfold maxLen; omega
              case c4 => omega
              case c5 => have := hS4.box.lt; simp; omega
              intro v' w5 hown1 hg1 _
              rw [← flat_snoc] at hown1
              have c5 := (Chg.refl [] w4).alloc (.cells #[.int .i64 t.maker, .int .i64 t.taker, .int .i64 t.buyer, .int .i64 t.seller, .int .u64 t.price, .int .u64 t.qty] 99)
              have hB5 : Blk w5 gx 73 (oc x) := (hB4.chg c5 (by simp)).grown hg1 (fun e => by have := hog.out _ e; omega)
              have hS5 : MSt w g bq sq up oi ol ob op w5 v' (T ++ [t]) q (x :: Q) := (hS4.to c5).grown hg1 (by simpa using hown1)
              clear hS4 hB4 hown hown1 hg1 c5
              have b4 := hS5.box.at (i := 4) rfl
              have f4 := hS5.box.free 4
              have HI3 : Hid (MchIs ⟨oi, ol, ob, op, oq⟩ oq Q0 (T ++ [t]) 0 ({ x with qty := x.qty - q } :: Q)) := by have := HI2.out; rwa [HT.out] at this
              have HCQ : Hid (cutQ q (x :: Q) = { x with qty := x.qty - q } :: Q) := by show _ = _; rw [cutQ_cons, if_pos (by omega)]
              have hS6 := hS5.store 0
              have hB6 := hB5.put ⟨g, 4, none⟩ (.int .u64 0) (by show gx ≠ g; omega)
              clear hS5 hB5 HI2
              go_wp2_with fail
              generalize w5.setCell _ _ = W6 at *
              refine (qCut hS6.que q ⟨by omega, by omega⟩).mono ?_
              rw [HCQ.out]
              rintro e w7 ⟨rfl, hq7, c7⟩
              have hS7 := hS6.queue hq7 (c7.mono (by simp))
              have hB7 := hB6.chg c7 (by simp; have := hS6.ne; omega)
              have y4 := hB7.at (i := 4) rfl
              clear hS6 hB6 hq7 c7
              have hne : (q == x.qty) = false := beq_eq_false_iff_ne.2 (by omega)
              go_wp2_with fail
              go_roundg (gk - 1)
              case measure => have := hn.out; simp at this; omega
              case rel => exact ⟨T ++ [t], 0, _, hS7, HI3, by omega, by omega, by simpa using q3, by have := hn.out; rw [if_pos h0] at this; show _ ≤ _; simp at this ⊢; omega⟩
            · rcases (by omega : q = x.qty ∨ x.qty < q) with rfl | hgt
              · have HI2 := Lib.hid (hI.out.all h0 hmt (by omega))
                clear hI
                obtain ⟨t, ht⟩ : ∃ t, trd ⟨oi, ol, ob, op, oq⟩ x x.qty = t := ⟨_, rfl⟩
                have HTT : Hid (trd ⟨oi, ol, ob, op, x.qty⟩ x x.qty = t) := ht
                have HT := Lib.hid ht
                have HMT : Hid (meet ⟨oi, ol, ob, op, x.qty⟩ x = true) := hmt
                have HMQ := Lib.hid hmt
                clear hmt ht
                go_wp2_with fail
                refine (bMeets ⟨oi, ol, ob, op, x.qty⟩ x _).mono ?_
                rw [HMT.out]
                rintro e w3 ⟨rfl, c3⟩
                have hS3 := hS2.to c3
                have hB3 := hBX.chg c3 (by simp)
                clear hS2 c3 b0 b1 b2 b3 b4 y0 y1 y2 y3 y4 hBX
                have b0 := hS3.box.at (i := 0) rfl
                have b1 := hS3.box.at (i := 1) rfl
                have b2 := hS3.box.at (i := 2) rfl
                have b3 := hS3.box.at (i := 3) rfl
                have b4 := hS3.box.at (i := 4) rfl
                have y0 := hB3.at (i := 0) rfl
                have y1 := hB3.at (i := 1) rfl
                have y2 := hB3.at (i := 2) rfl
                have y3 := hB3.at (i := 3) rfl
                have y4 := hB3.at (i := 4) rfl
                go_wp2_with fail
                refine (bTrade ⟨oi, ol, ob, op, x.qty⟩ x x.qty _).mono ?_
                rw [HTT.out]
                rintro e w4 ⟨rfl, c4⟩
                have hS4 := hS3.to c4
                have hB4 := hB3.chg c4 (by simp)
                clear hS3 c4 b0 b1 b2 b3 b4 y0 y1 y2 y3 y4 hB3
                have hown := hS4.own
                go_wp2_with (at_builtin; refine wpList_append_own _ rfl (.tmp 42) (.tmp 47) 44 rfl (g + 1) 99 i0 (tv Trd.zero) 6 48 Tryz.underlying44 hi iz0 iz1 iz2 rfl (by decide) _ _ _ rfl (hown.alloc _) ⟨w4.heap.size, 0, none⟩ 1 1 (tc t) rfl rfl ?c1 ?c2 ?c3 ?c4 ?c5 ?_)
                case c1 => exact news_new w4 _ _
                case c2 => simp [tc, Value.oneCell']
                case c3 => unfold maxLen; omega
                case c4 => omega
                case c5 => have := hS4.box.lt; simp; omega
                intro v' w5 hown1 hg1 _
                rw [← flat_snoc] at hown1
                have c5 := (Chg.refl [] w4).alloc (.cells #[.int .i64 t.maker, .int .i64 t.taker, .int .i64 t.buyer, .int .i64 t.seller, .int .u64 t.price, .int .u64 t.qty] 99)
                have hB5 : Blk w5 gx 73 (oc x) := (hB4.chg c5 (by simp)).grown hg1 (fun e => by have := hog.out _ e; omega)
                have hS5 : MSt w g bq sq up oi ol ob op w5 v' (T ++ [t]) x.qty (x :: Q) := (hS4.to c5).grown hg1 (by simpa using hown1)
                clear hS4 hB4 hown hown1 hg1 c5
                have b4 := hS5.box.at (i := 4) rfl
                have f4 := hS5.box.free 4
                have HI3 : Hid (MchIs ⟨oi, ol, ob, op, oq⟩ oq Q0 (T ++ [t]) 0 Q) := by have := HI2.out; rwa [HT.out, Int.sub_self] at this
                have HCQ : Hid (cutQ x.qty (x :: Q) = { x with qty := x.qty - x.qty } :: Q) := by show _ = _; rw [cutQ_cons, if_pos (by omega)]
                have hS6 := hS5.store 0
                have hB6 := hB5.put ⟨g, 4, none⟩ (.int .u64 0) (by show gx ≠ g; omega)
                clear hS5 hB5 HI2
                go_wp2_with fail
                generalize w5.setCell _ _ = W6 at *
                refine (qCut hS6.que x.qty ⟨by omega, by omega⟩).mono ?_
                rw [HCQ.out]
                rintro e w7 ⟨rfl, hq7, c7⟩
                have hS7 := hS6.queue hq7 (c7.mono (by simp))
                have hB7 := hB6.chg c7 (by simp; have := hS6.ne; omega)
                have y4 := hB7.at (i := 4) rfl
                clear hS6 hB6 hq7 c7
                go_wp2_with fail
                refine (qPop_cons hS7.que (by simp at q3; omega)).mono ?_
                rintro e w8 ⟨rfl, hq8, c8⟩
                have hS8 := hS7.queue hq8 c8
                clear hS7 hq8 c8 hB7 y4
                go_wp2_with fail
                go_roundg (gk - 1)
                case measure => have := hn.out; simp at this; omega
                case rel => exact ⟨T ++ [t], 0, Q, hS8, HI3, by omega, by omega, by simp at q3; omega, by have := hn.out; rw [if_pos h0] at this; show _ ≤ _; simp at this ⊢; (first | omega | (split <;> omega))⟩
              · have HI2 := Lib.hid (hI.out.all h0 hmt (by omega))
                clear hI
                obtain ⟨t, ht⟩ : ∃ t, trd ⟨oi, ol, ob, op, oq⟩ x x.qty = t := ⟨_, rfl⟩
                have HTT : Hid (trd ⟨oi, ol, ob, op, q⟩ x x.qty = t) := ht
                have HT := Lib.hid ht
                have HMT : Hid (meet ⟨oi, ol, ob, op, q⟩ x = true) := hmt
                have HMQ := Lib.hid hmt
                clear hmt ht
                go_wp2_with fail
                refine (bMeets ⟨oi, ol, ob, op, q⟩ x _).mono ?_
                rw [HMT.out]
                rintro e w3 ⟨rfl, c3⟩
                have hS3 := hS2.to c3
                have hB3 := hBX.chg c3 (by simp)
                clear hS2 c3 b0 b1 b2 b3 b4 y0 y1 y2 y3 y4 hBX
                have b0 := hS3.box.at (i := 0) rfl
                have b1 := hS3.box.at (i := 1) rfl
                have b2 := hS3.box.at (i := 2) rfl
                have b3 := hS3.box.at (i := 3) rfl
                have b4 := hS3.box.at (i := 4) rfl
                have y0 := hB3.at (i := 0) rfl
                have y1 := hB3.at (i := 1) rfl
                have y2 := hB3.at (i := 2) rfl
                have y3 := hB3.at (i := 3) rfl
                have y4 := hB3.at (i := 4) rfl
                go_wp2_with fail
                refine (bTrade ⟨oi, ol, ob, op, q⟩ x x.qty _).mono ?_
                rw [HTT.out]
                rintro e w4 ⟨rfl, c4⟩
                have hS4 := hS3.to c4
                have hB4 := hB3.chg c4 (by simp)
                clear hS3 c4 b0 b1 b2 b3 b4 y0 y1 y2 y3 y4 hB3
                have hown := hS4.own
                go_wp2_with (at_builtin; refine wpList_append_own _ rfl (.tmp 42) (.tmp 47) 44 rfl (g + 1) 99 i0 (tv Trd.zero) 6 48 Tryz.underlying44 hi iz0 iz1 iz2 rfl (by decide) _ _ _ rfl (hown.alloc _) ⟨w4.heap.size, 0, none⟩ 1 1 (tc t) rfl rfl ?c1 ?c2 ?c3 ?c4 ?c5 ?_)
                case c1 => exact news_new w4 _ _
                case c2 => simp [tc, Value.oneCell']
                case c3 => unfold maxLen; omega
                case c4 => omega
                case c5 => have := hS4.box.lt; simp; omega
                intro v' w5 hown1 hg1 _
                rw [← flat_snoc] at hown1
                have c5 := (Chg.refl [] w4).alloc (.cells #[.int .i64 t.maker, .int .i64 t.taker, .int .i64 t.buyer, .int .i64 t.seller, .int .u64 t.price, .int .u64 t.qty] 99)
                have hB5 : Blk w5 gx 73 (oc x) := (hB4.chg c5 (by simp)).grown hg1 (fun e => by have := hog.out _ e; omega)
                have hS5 : MSt w g bq sq up oi ol ob op w5 v' (T ++ [t]) q (x :: Q) := (hS4.to c5).grown hg1 (by simpa using hown1)
                clear hS4 hB4 hown hown1 hg1 c5
                have b4 := hS5.box.at (i := 4) rfl
                have f4 := hS5.box.free 4
                have HI3 : Hid (MchIs ⟨oi, ol, ob, op, oq⟩ oq Q0 (T ++ [t]) (q - x.qty) Q) := by have := HI2.out; rwa [HT.out] at this
                have HCQ : Hid (cutQ x.qty (x :: Q) = { x with qty := x.qty - x.qty } :: Q) := by show _ = _; rw [cutQ_cons, if_pos (by omega)]
                have hS6 := hS5.store (q - x.qty)
                have hB6 := hB5.put ⟨g, 4, none⟩ (.int .u64 (q - x.qty)) (by show gx ≠ g; omega)
                clear hS5 hB5 HI2
                go_wp2_with fail
                generalize w5.setCell _ _ = W6 at *
                refine (qCut hS6.que x.qty ⟨by omega, by omega⟩).mono ?_
                rw [HCQ.out]
                rintro e w7 ⟨rfl, hq7, c7⟩
                have hS7 := hS6.queue hq7 (c7.mono (by simp))
                have hB7 := hB6.chg c7 (by simp; have := hS6.ne; omega)
                have y4 := hB7.at (i := 4) rfl
                clear hS6 hB6 hq7 c7
                go_wp2_with fail
                refine (qPop_cons hS7.que (by simp at q3; omega)).mono ?_
                rintro e w8 ⟨rfl, hq8, c8⟩
                have hS8 := hS7.queue hq8 c8
                clear hS7 hq8 c8 hB7 y4
                go_wp2_with fail
                go_roundg (gk - 1)
                case measure => have := hn.out; simp at this; omega
                case rel => exact ⟨T ++ [t], q - x.qty, Q, hS8, HI3, by omega, by omega, by simp at q3; omega, by have := hn.out; rw [if_pos h0] at this; show _ ≤ _; simp at this ⊢; (first | omega | (split <;> omega))⟩
      · obtain rfl : q = 0 := by omega
        have HF := Lib.hid hI.out.zero
        clear hI
        have z4 := hS.box.at (i := 4) rfl
        have HST := Lib.hid hS
        obtain ⟨a, cap, rfl, hN⟩ := own_new HST.out.own
        have HNN := Lib.hid hN
        clear hN hS
        go_wp2_with fail
        go_quiet (fail)
        go_wp2_with fail
        have hfin : mres ⟨oi, ol, ob, op, oq⟩ L M = (T, 0, Q) := HR.out.trans HF.out
        have hret : Ending.returned (.tuple #[.slice a T.length cap, .int .u64 0]) = Ending.returned (.tuple #[.slice a (mres ⟨oi, ol, ob, op, oq⟩ L M).1.length cap, .int .u64 (mres ⟨oi, ol, ob, op, oq⟩ L M).2.1]) := by rw [hfin]
        have hpost := MchPost.of (F := F) (k := k) hfin (by rw [HG.out]; exact (HNN.out.mono (Nat.le_succ g)).chg0 ((Chg.refl [] _).drewN nq)) (HB.out _ _ (HST.out.que.drewN nq) (HST.out.chg.drewN nq))
        go_ret2
        exact ⟨a, cap, hret, hpost⟩
end Go.Proofs.YteabcpmpcbjicaaGreat

namespace Go.Proofs.YteabcpmpcbjicaaGreat
set_option linter.unusedVariables false
open Go Go.Proofs Go.RowKit
attribute [local go_sem ↓] Go.wp_at_zero Go.wp_at_succ

/-- A book that the call itself made: since the world w. -/
structure BkS (w wr : World) (F : List Nat) (k : Nat) (L M : List Ord) : Prop where
  bk : Bok wr F k L M
  c : Chg [] w wr
  lo : ∀ x ∈ F, w.heap.size ≤ x
theorem BkS.to {w wr w' : World} {F : List Nat} {k : Nat} {L M : List Ord} (h : BkS w wr F k L M) (c : Chg [] wr w') : BkS w w' F k L M := ⟨h.bk.chg0 c, h.c.trans c, h.lo⟩
theorem BkS.turn {w wr w' : World} {F F' : List Nat} {k : Nat} {L M L' M' : List Ord} (h : BkS w wr F k L M) (hb : Bok w' F' k L' M') (c : Chg F wr w') (g : Grw wr.heap.size F F') : BkS w w' F' k L' M' :=
  ⟨hb, h.c.trans' c fun x hx => .inr (h.lo x hx), fun x hx => by
    rcases g x hx with h1 | h1
    · exact h.lo x h1
    · have := h.c.size; omega⟩
/-- Something else stands behind what turns the book. -/
theorem BkS.apart {w wr w' : World} {F : List Nat} {k : Nat} {L M : List Ord} (h : BkS w wr F k L M) (c : Chg F wr w') {b : Nat} (hb : b ∉ F) (hl : b < wr.heap.size) : w'.heap[b]? = wr.heap[b]? := c.block b hl hb
theorem BkS.new {w wr : World} {F : List Nat} {k : Nat} {L M : List Ord} (h : BkS w wr F k L M) : ∀ x ∈ F, x < wr.heap.size := h.bk.lt
theorem Grw.not {n : Nat} {F F' : List Nat} (h : Grw n F F') {b : Nat} (hb : b ∉ F) (hl : b < n) : b ∉ F' := fun hm => by
  rcases h b hm with h1 | h1
  · exact hb h1
  · omega

/-- A trade at a place. -/
structure Tat (w : World) (s i : Nat) (t : Trd) : Prop where
  c0 : w.cell? ⟨s, i, none⟩ = some (.int .i64 t.maker)
  c1 : w.cell? ⟨s, i + 1, none⟩ = some (.int .i64 t.taker)
  c2 : w.cell? ⟨s, i + 2, none⟩ = some (.int .i64 t.buyer)
  c3 : w.cell? ⟨s, i + 3, none⟩ = some (.int .i64 t.seller)
  c4 : w.cell? ⟨s, i + 4, none⟩ = some (.int .u64 t.price)
  c5 : w.cell? ⟨s, i + 5, none⟩ = some (.int .u64 t.qty)
theorem RAt.tat {w : World} {s i : Nat} {t : Trd} (h : RAt w s i (tc t)) : Tat w s i t := ⟨h 0 _ rfl, h 1 _ rfl, h 2 _ rfl, h 3 _ rfl, h 4 _ rfl, h 5 _ rfl⟩
theorem tr_at {w : World} {B : Nat} {a : Option Addr} {T : List Trd} (h : NewF tc w B 99 a T) {k : Nat} (hk : k < T.length) : ∃ g, a = some ⟨g, 0, none⟩ ∧ B ≤ g ∧ g < w.heap.size ∧ Tat w g (k * 6) (T.getD k Trd.zero) := by
  rcases h with rfl | ⟨g, h1, h2, h3⟩
  · simp at hk
  · exact ⟨g, h1, h2, h3.lt, (flat_beg tc_len Trd.zero h3 hk).tat⟩

theorem bRest_is {w wr : World} {F : List Nat} {k : Nat} {L M : List Ord} (h : BkS w wr F k L M) (o : Ord) (L' M' : List Ord) (hr : (restL o L, restM o M) = (L', M')) (ho : o.Ok) (hL : ∀ x ∈ L, x.id ≠ o.id) (hM : ∀ x ∈ M, x.id ≠ o.id) (zL : L.length < 999999999999) (zM : M.length < 999999999999) :
    Calls Tryz.prog 196 #[.pointer (some ⟨k, 0, none⟩), ov o] wr fun e w' => e = .returned (.tuple #[]) ∧ ∃ F', BkS w w' F' k L' M' ∧ Chg F wr w' ∧ Grw wr.heap.size F F' := by
  obtain ⟨rfl, rfl⟩ := Prod.mk.inj hr
  refine (bRest h.bk ho hL hM zL zM).mono ?_
  rintro e w' ⟨rfl, F', hb, c, g⟩
  exact ⟨rfl, F', h.turn hb c g, c, g⟩
theorem bMatch_is {w wr : World} {F : List Nat} {k : Nat} {L M : List Ord} (h : BkS w wr F k L M) (o : Ord) (T : List Trd) (q : Int) (L' M' : List Ord) (hr : (mres o L M).1 = T ∧ (mres o L M).2.1 = q ∧ mL o L M = L' ∧ mM o L M = M') (ho : o.Ok) (zL : L.length < 999999999) (zM : M.length < 999999999) :
    Calls Tryz.prog 204 #[.pointer (some ⟨k, 0, none⟩), ov o] wr fun e w' => ∃ a c, e = .returned (.tuple #[.slice a T.length c, .int .u64 q]) ∧ NewF tc w' wr.heap.size 99 a T ∧ BkS w w' F k L' M' ∧ Chg F wr w' := by
  obtain ⟨rfl, rfl, rfl, rfl⟩ := hr
  refine (bMatch h.bk ho zL zM).mono ?_
  rintro e w' ⟨a, c, rfl, hT, hb, cc⟩
  exact ⟨a, c, rfl, hT, h.turn hb cc (Grw.refl _ _), cc⟩
theorem bRemove_is {w wr : World} {F : List Nat} {k : Nat} {L M : List Ord} (h : BkS w wr F k L M) (id : Int) (x : Ord) (ok : Bool) (L' M' : List Ord) (hr : (pickB id L M, sans id L, remM id L M) = ((x, ok), L', M')) (zL : L.length < 1000000000000) (zM : M.length < 1000000000000) :
    Calls Tryz.prog 199 #[.pointer (some ⟨k, 0, none⟩), .int .i64 id] wr fun e w' => e = .returned (.tuple #[ov x, .bool ok]) ∧ BkS w w' F k L' M' ∧ Chg F wr w' := by
  obtain ⟨h1, h2⟩ := Prod.mk.inj hr
  obtain ⟨rfl, rfl⟩ := Prod.mk.inj h2
  refine (bRemove h.bk id zL zM).mono ?_
  rw [h1]
  rintro e w' ⟨rfl, hb, c⟩
  exact ⟨rfl, h.turn hb c (Grw.refl _ _), c⟩
theorem bFind_is {w : World} {F : List Nat} {k : Nat} {L M : List Ord} (h : Bok w F k L M) (id : Int) (x : Ord) (ok : Bool) (hr : pickB id L M = (x, ok)) :
    Calls Tryz.prog 198 #[.pointer (some ⟨k, 0, none⟩), .int .i64 id] w fun e w' => e = .returned (.tuple #[ov x, .bool ok]) ∧ Chg [] w w' := by
  have := bFind h id
  rwa [hr] at this
theorem bNewS (w wr : World) (c : Chg [] w wr) : Calls Tryz.prog 123 #[] wr fun e w' => ∃ k F, e = .returned (.pointer (some ⟨k, 0, none⟩)) ∧ BkS w w' F k [] [] ∧ Chg [] wr w' ∧ ∀ x ∈ F, wr.heap.size ≤ x := by
  refine (bNew wr).mono ?_
  rintro e w' ⟨k, F, rfl, hb, c1, hl⟩
  exact ⟨k, F, rfl, ⟨hb, c.trans c1, fun x hx => Nat.le_trans c.size (hl x hx)⟩, c1, hl⟩

end Go.Proofs.YteabcpmpcbjicaaGreat
