
import Derived.Test.YteabcpmpcbjicaaAcctA
import Derived.Test.YteabcpmpcbjicaaMul
import Derived.Test.YteabcpmpcbjicaaBkA
import Derived.BigQuiet
import Derived.StillTailTactics
namespace Go.Proofs.Yteabcpmpcbjicaa
set_option linter.unusedVariables false
open Go Go.Proofs Go.RowKit
attribute [local go_sem ↓] Go.wp_at_zero Go.wp_at_succ

/-! An exchange: plain. -/
def wIn (n : Int) : Bool := decide (1 ≤ n) && decide (n ≤ 1048576)
/-- An order whose price and quantity may be. -/
structure OIn (o : Ord) : Prop where
  p : 0 ≤ o.price ∧ o.price ≤ 1048576
  q : 0 ≤ o.qty ∧ o.qty ≤ 1048576
def lockA (o : Ord) : Int := if o.buy = true then 1 else 0
def lockN (o : Ord) : Int := if o.buy = true then o.price * o.qty else o.qty
theorem mul_lt {a b : Int} (ha : 0 ≤ a ∧ a ≤ 1048576) (hb : 0 ≤ b ∧ b ≤ 1048576) : 0 ≤ a * b ∧ a * b ≤ 1099511627776 := by
  constructor
  · exact Int.mul_nonneg ha.1 hb.1
  · calc a * b ≤ 1048576 * b := Int.mul_le_mul_of_nonneg_right ha.2 hb.1
      _ ≤ 1048576 * 1048576 := Int.mul_le_mul_of_nonneg_left hb.2 (by omega)
      _ = 1099511627776 := by rfl
theorem OIn.lock {o : Ord} (h : OIn o) : 0 ≤ lockN o ∧ lockN o ≤ 1099511627776 := by
  unfold lockN
  have := mul_lt h.p h.q
  have := h.q
  split <;> omega
theorem within_any (n : Int) (w : World) : Calls Try.prog 116 #[.int .u64 n] w fun e w' => e = .returned (.bool (wIn n)) ∧ w = w' := by
  unfold wIn
  by_cases h1 : 1 ≤ n
  · have d1 : decide (1 ≤ n) = true := by simp; omega
    by_cases h2 : n ≤ 1048576
    · have d2 : decide (n ≤ 1048576) = true := by simp; omega
      rw [d1, d2]
      go_enter Try.func116, Try.ntmps116
      go_wp2_with fail
      go_ret
      exact ⟨rfl, rfl⟩
    · have d2 : decide (n ≤ 1048576) = false := by simp; omega
      rw [d1, d2]
      go_enter Try.func116, Try.ntmps116
      go_wp2_with fail
      go_ret
      exact ⟨rfl, rfl⟩
  · have d1 : decide (1 ≤ n) = false := by simp; omega
    rw [d1]
    go_enter Try.func116, Try.ntmps116
    go_wp2_with fail
    go_ret
    exact ⟨rfl, rfl⟩

/-- locks. -/
theorem locks_any (o : Ord) (h : OIn o) (w : World) : Calls Try.prog 82 #[ov o] w fun e w' => e = .returned (.tuple #[.int .i64 (lockA o), .int .u64 (lockN o)]) ∧ Chg [] w w' := by
  obtain ⟨i, c, b, p, q⟩ := o
  obtain ⟨hp, hq⟩ := h
  dsimp only at hp hq
  have hm := mul_lt hp hq
  have hb : Blk (w.alloc (.cells #[.int .i64 i, .int .i64 c, .bool b, .int .u64 p, .int .u64 q] 152)) w.heap.size 152 (oc ⟨i, c, b, p, q⟩) := Blk.new w (oc ⟨i, c, b, p, q⟩) 152
  have hc : Chg [] w (w.alloc (.cells #[.int .i64 i, .int .i64 c, .bool b, .int .u64 p, .int .u64 q] 152)) := (Chg.refl _ _).alloc _
  have y2 := hb.at (i := 2) rfl
  have y3 := hb.at (i := 3) rfl
  have y4 := hb.at (i := 4) rfl
  have HC := Lib.hid hc
  clear hb hc
  cases b
  · show Calls _ _ _ _ fun e w' => e = .returned (.tuple #[.int .i64 0, .int .u64 q]) ∧ _
    go_enter Try.func82, Try.ntmps82
    go_upto_region 4 with (fail)
    generalize w.alloc _ = W at *
    go_quiet (fail)
    go_wp2_with fail
    go_ret2
    exact ⟨rfl, HC.out.drewN nq⟩
  · show Calls _ _ _ _ fun e w' => e = .returned (.tuple #[.int .i64 1, .int .u64 (p * q)]) ∧ _
    go_enter Try.func82, Try.ntmps82
    go_upto_region 2 with (fail)
    generalize w.alloc _ = W at *
    go_wp2_with fail
    refine (mul_is p q (p * q) true W ⟨by omega, by omega⟩ ⟨by omega, by omega⟩ (by unfold cMulN; rw [if_pos (by omega)]) (by unfold cMulB; simp; omega)).mono ?_
    rintro e w3 ⟨rfl, rfl⟩
    go_wp2_with fail
    go_ret2
    exact ⟨rfl, HC.out⟩

/-- What both sides of a trade are paid. -/
def payL (n : Nat) (o : Ord) (xs : List Int) (t : Trd) : List Int :=
  let ys := aPut n (aPut n xs t.seller 1 (t.price * t.qty)) t.buyer 0 t.qty
  if o.buy = true then aPut n ys t.buyer 1 ((o.price - t.price) * t.qty) else ys
/-- A trade that may be. -/
structure TIn (o : Ord) (t : Trd) : Prop where
  p : 0 ≤ t.price ∧ t.price ≤ 1048576
  q : 0 ≤ t.qty ∧ t.qty ≤ 1048576
  le : o.buy = true → t.price ≤ o.price

structure Exb (w : World) (x ab kb : Nat) (last : Int) : Prop where
  hd : Blk w x 150 [.pointer (some ⟨ab, 0, none⟩), .pointer (some ⟨kb, 0, none⟩), .int .i64 last]
theorem Exb.chg {w w' : World} {x ab kb : Nat} {last : Int} {S : List Nat} (h : Exb w x ab kb last) (c : Chg S w w') (hx : x ∉ S) : Exb w' x ab kb last := ⟨h.hd.chg c hx⟩

set_option maxRecDepth 100000 in
set_option maxHeartbeats 2000000 in
/-- pay. -/
theorem pay_any {w : World} {x ab kb s n : Nat} {last : Int} {xs : List Int} (hx : Exb w x ab kb last) (ha : Acc w ab s n xs) (hn : x ≠ s) (o : Ord) (t : Trd) (ho : OIn o) (ht : TIn o t) :
    Calls Try.prog 119 #[.pointer (some ⟨x, 0, none⟩), ov o, tv t] w fun e w' => e = .returned (.tuple #[]) ∧ Exb w' x ab kb last ∧ Acc w' ab s n (payL n o xs t) ∧ Chg [s] w w' := by
  obtain ⟨i, c, b, p, q⟩ := o
  obtain ⟨hp, hq⟩ := ho
  obtain ⟨tp, tq, tl⟩ := ht
  dsimp only at hp hq tl
  have hm := mul_lt tp tq
  have hsl := ha.lt.2
  have hC : Chg [] w ((w.alloc (.cells #[.int .i64 i, .int .i64 c, .bool b, .int .u64 p, .int .u64 q] 152)).alloc (.cells #[.int .i64 t.maker, .int .i64 t.taker, .int .i64 t.buyer, .int .i64 t.seller, .int .u64 t.price, .int .u64 t.qty] 85)) := ((Chg.refl _ _).alloc _).alloc _
  have hx1 := hx.chg hC (by simp)
  have ha1 := ha.chg hC (by simp) (by simp)
  have hb : Blk ((w.alloc (.cells #[.int .i64 i, .int .i64 c, .bool b, .int .u64 p, .int .u64 q] 152)).alloc (.cells #[.int .i64 t.maker, .int .i64 t.taker, .int .i64 t.buyer, .int .i64 t.seller, .int .u64 t.price, .int .u64 t.qty] 85)) w.heap.size 152 (oc ⟨i, c, b, p, q⟩) := (Blk.new w (oc ⟨i, c, b, p, q⟩) 152).alloc _
  have ht0 : Blk ((w.alloc (.cells #[.int .i64 i, .int .i64 c, .bool b, .int .u64 p, .int .u64 q] 152)).alloc (.cells #[.int .i64 t.maker, .int .i64 t.taker, .int .i64 t.buyer, .int .i64 t.seller, .int .u64 t.price, .int .u64 t.qty] 85)) (w.heap.size + 1) 85 (tc t) := by
    have := Blk.new (w.alloc (.cells #[.int .i64 i, .int .i64 c, .bool b, .int .u64 p, .int .u64 q] 152)) (tc t) 85
    rwa [World.size_alloc] at this
  have HC := Lib.hid hC
  clear hx ha hC
  go_enter Try.func119, Try.ntmps119
  go_upto_region 1 with (fail)
  generalize w.heap.size = g at *
  generalize (w.alloc _).alloc _ = W at *
  have w1 : IntKind.u64.wrap (t.price * t.qty) = t.price * t.qty := by simp [IntKind.wrap, IntKind.bits, IntKind.signed]; omega
  have x0 := hx1.hd.at (i := 0) rfl
  have t3 := ht0.at (i := 3) rfl
  have t4 := ht0.at (i := 4) rfl
  have t5 := ht0.at (i := 5) rfl
  go_still_tail 11, (by kernel_rfl)
  change wpList _ _ _ _ _ W.drew
  have ha2 := ha1.drew
  have hx2 := hx1.chg (Chg.refl [] W).drew (by simp)
  have hb2 := hb.drew
  have ht2 := ht0.drew
  clear x0 t3 t4 t5 ha1 hx1 hb ht0
  have HCW : Hid (Chg [] w W.drew) := HC.out.drew
  generalize W.drew = V at *
  go_wp2_with fail
  refine (put_is ha2 t.seller 1 (t.price * t.qty) _ _ ⟨by omega, by omega⟩ rfl rfl).mono ?_
  rintro e w3 ⟨rfl, ha3, c3⟩
  have hx3 := hx2.chg c3 (by simp; exact hn)
  have hb3 := hb2.chg c3 (by simp; omega)
  have ht3 := ht2.chg c3 (by simp; omega)
  clear ha2 hx2 hb2 ht2
  have C3 := Lib.hid (HCW.out.mono (R := [s]) (by simp) |>.trans c3)
  clear c3 HCW HC
  have x0 := hx3.hd.at (i := 0) rfl
  have t2 := ht3.at (i := 2) rfl
  have t5 := ht3.at (i := 5) rfl
  go_upto_region 2 with (fail)
  go_still_tail 8, (by kernel_rfl)
  change wpList _ _ _ _ _ w3.drew
  have ha4 := ha3.drew
  have hx4 := hx3.chg (Chg.refl [] w3).drew (by simp)
  have hb4 := hb3.drew
  have ht4 := ht3.drew
  have C4 := Lib.hid C3.out.drew
  clear x0 t2 t5 ha3 hx3 hb3 ht3 C3
  generalize w3.drew = V4 at *
  go_wp2_with fail
  refine (put_is ha4 t.buyer 0 t.qty _ _ ⟨by omega, by omega⟩ rfl rfl).mono ?_
  rintro e w5 ⟨rfl, ha5, c5⟩
  have hx5 := hx4.chg c5 (by simp; exact hn)
  have hb5 := hb4.chg c5 (by simp; omega)
  have ht5 := ht4.chg c5 (by simp; omega)
  have C5 := Lib.hid (C4.out.trans c5)
  clear ha4 hx4 hb4 ht4 c5 C4
  have y2 := hb5.at (i := 2) rfl
  cases b
  · go_wp2_with fail
    go_end0
    exact ⟨rfl, hx5, ha5, C5.out⟩
  · have tl2 := tl rfl
    have hm2 := mul_lt (a := p - t.price) ⟨by omega, by omega⟩ tq
    have w2 : IntKind.u64.wrap (p - t.price) = p - t.price := by simp [IntKind.wrap, IntKind.bits, IntKind.signed]; omega
    have w3 : IntKind.u64.wrap ((p - t.price) * t.qty) = (p - t.price) * t.qty := by simp [IntKind.wrap, IntKind.bits, IntKind.signed]; omega
    have y3 := hb5.at (i := 3) rfl
    have x0 := hx5.hd.at (i := 0) rfl
    have t2 := ht5.at (i := 2) rfl
    have t4 := ht5.at (i := 4) rfl
    have t5 := ht5.at (i := 5) rfl
    clear tl
    go_upto_region 4 with (fail)
    go_still_tail 14, (by kernel_rfl)
    change wpList _ _ _ _ _ w5.drew
    have ha6 := ha5.drew
    have hx6 := hx5.chg (Chg.refl [] w5).drew (by simp)
    have C6 := Lib.hid C5.out.drew
    clear x0 t2 t4 t5 y2 y3 ha5 hx5 hb5 ht5 C5
    generalize w5.drew = V6 at *
    go_wp2_with fail
    refine (put_is ha6 t.buyer 1 ((p - t.price) * t.qty) _ _ ⟨by omega, by omega⟩ rfl rfl).mono ?_
    rintro e w7 ⟨rfl, ha7, c7⟩
    have hx7 := hx6.chg c7 (by simp; exact hn)
    have C7 := Lib.hid (C6.out.trans c7)
    clear ha6 hx6 c7 C6
    go_wp2_with fail
    go_end0
    exact ⟨rfl, hx7, ha7, C7.out⟩

set_option maxRecDepth 100000 in
/-- free. -/
theorem exfree_any {w : World} {x ab kb s n : Nat} {last : Int} {xs : List Int} (hx : Exb w x ab kb last) (ha : Acc w ab s n xs) (hn : x ≠ s) (o : Ord) (ho : OIn o) :
    Calls Try.prog 87 #[.pointer (some ⟨x, 0, none⟩), ov o] w fun e w' => e = .returned (.tuple #[]) ∧ Exb w' x ab kb last ∧ Acc w' ab s n (aPut n xs o.client (lockA o) (lockN o)) ∧ Chg [s] w w' := by
  have hC : Chg [] w (w.alloc (.cells #[.int .i64 o.id, .int .i64 o.client, .bool o.buy, .int .u64 o.price, .int .u64 o.qty] 152)) := (Chg.refl _ _).alloc _
  have hx1 := hx.chg hC (by simp)
  have ha1 := ha.chg hC (by simp) (by simp)
  have hb : Blk (w.alloc (.cells #[.int .i64 o.id, .int .i64 o.client, .bool o.buy, .int .u64 o.price, .int .u64 o.qty] 152)) w.heap.size 152 (oc o) := Blk.new w (oc o) 152
  have hl := ho.lock
  have HC := Lib.hid hC
  clear hx ha hC
  have y0 := hb.at (i := 0) rfl
  have y1 := hb.at (i := 1) rfl
  have y2 := hb.at (i := 2) rfl
  have y3 := hb.at (i := 3) rfl
  have y4 := hb.at (i := 4) rfl
  go_enter Try.func87, Try.ntmps87
  go_upto_region 1 with (fail)
  generalize w.heap.size = g at *
  generalize w.alloc _ = W at *
  go_wp2_with fail
  refine (locks_any o ho W).mono ?_
  rintro e w2 ⟨rfl, c2⟩
  have hx2 := hx1.chg c2 (by simp)
  have ha2 := ha1.chg c2 (by simp) (by simp)
  have hb2 := hb.chg c2 (by simp)
  have HC2 := Lib.hid (HC.out.trans c2)
  clear hx1 ha1 hb HC c2 y0 y1 y2 y3 y4
  have y1 := hb2.at (i := 1) rfl
  have x0 := hx2.hd.at (i := 0) rfl
  go_upto_region 2 with (fail)
  go_still_tail 8, (by kernel_rfl)
  change wpList _ _ _ _ _ w2.drew
  have ha3 := ha2.drew
  have hx3 := hx2.chg (Chg.refl [] w2).drew (by simp)
  have C3 := Lib.hid HC2.out.drew
  clear x0 y1 ha2 hx2 hb2 HC2
  generalize w2.drew = V at *
  go_wp2_with fail
  refine (put_is ha3 o.client (lockA o) (lockN o) _ _ ⟨by omega, by omega⟩ rfl rfl).mono ?_
  rintro e w4 ⟨rfl, ha4, c4⟩
  have hx4 := hx3.chg c4 (by simp; exact hn)
  have C5 : Hid (Chg [s] w w4) := (C3.out.mono (by simp)).trans c4
  clear ha3 hx3 c4 C3
  go_wp2_with fail
  go_end0
  exact ⟨rfl, hx4, ha4, C5.out⟩
end Go.Proofs.Yteabcpmpcbjicaa
