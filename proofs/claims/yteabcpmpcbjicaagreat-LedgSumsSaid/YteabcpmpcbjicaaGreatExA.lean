
import Derived.Test.YteabcpmpcbjicaaGreatAcctA
import Derived.Test.YteabcpmpcbjicaaGreatMul
import Derived.Test.YteabcpmpcbjicaaGreatBkA
import Derived.BigQuiet
import Derived.StillTailTactics
import Derived.Deep.DrawnRows
import Derived.Deep.RegionHeld3
namespace Go.Proofs.YteabcpmpcbjicaaGreat
set_option linter.unusedVariables false
open Go Go.Proofs Go.RowKit
attribute [local go_sem ↓] Go.wp_at_zero Go.wp_at_succ

/-! An exchange: plain. -/
def wIn (n : Int) : Bool := decide (1 ≤ n) && decide (n ≤ 1048576)
/-- An order whose price and quantity may be. -/
structure OIn (o : Ord) : Prop where
  p : 0 ≤ o.price ∧ o.price ≤ 1048576
  q : 0 ≤ o.qty ∧ o.qty ≤ 1048576
def lockA (o : Ord) : Int := if o.buy = true then 1 else 0
def lockN (o : Ord) : Int := if o.buy = true then o.price * o.qty else o.qty
theorem mul_lt {a b : Int} (ha : 0 ≤ a ∧ a ≤ 1048576) (hb : 0 ≤ b ∧ b ≤ 1048576) : 0 ≤ a * b ∧ a * b ≤ 1099511627776 := by
  constructor
  · exact Int.mul_nonneg ha.1 hb.1
  · calc a * b ≤ 1048576 * b := Int.mul_le_mul_of_nonneg_right ha.2 hb.1
      _ ≤ 1048576 * 1048576 := Int.mul_le_mul_of_nonneg_left hb.2 (by omega)
      _ = 1099511627776 := by rfl
theorem OIn.lock {o : Ord} (h : OIn o) : 0 ≤ lockN o ∧ lockN o ≤ 1099511627776 := by
  unfold lockN
  have := mul_lt h.p h.q
  have := h.q
  split <;> omega
theorem within_any (n : Int) (w : World) : Calls Tryz.prog 203 #[.int .u64 n] w fun e w' => e = .returned (.bool (wIn n)) ∧ w = w' := by
  unfold wIn
  by_cases h1 : 1 ≤ n
  · have d1 : decide (1 ≤ n) = true := by simp; omega
    by_cases h2 : n ≤ 1048576
    · have d2 : decide (n ≤ 1048576) = true := by simp; omega
      rw [d1, d2]
      go_enter Tryz.func203, Tryz.ntmps203
      go_wp2_with fail
      go_ret
      exact ⟨rfl, rfl⟩
    · have d2 : decide (n ≤ 1048576) = false := by simp; omega
      rw [d1, d2]
      go_enter Tryz.func203, Tryz.ntmps203
      go_wp2_with fail
      go_ret
      exact ⟨rfl, rfl⟩
  · have d1 : decide (1 ≤ n) = false := by simp; omega
    rw [d1]
    go_enter Tryz.func203, Tryz.ntmps203
    go_wp2_with fail
    go_ret
    exact ⟨rfl, rfl⟩

/-- locks. -/
theorem locks_any (o : Ord) (h : OIn o) (w : World) : Calls Tryz.prog 144 #[ov o] w fun e w' => e = .returned (.tuple #[.int .i64 (lockA o), .int .u64 (lockN o)]) ∧ Chg [] w w' := by
  obtain ⟨i, c, b, p, q⟩ := o
  obtain ⟨hp, hq⟩ := h
  dsimp only at hp hq
  have hm := mul_lt hp hq
  have hb : Blk (w.alloc (.cells #[.int .i64 i, .int .i64 c, .bool b, .int .u64 p, .int .u64 q] 73)) w.heap.size 73 (oc ⟨i, c, b, p, q⟩) := Blk.new w (oc ⟨i, c, b, p, q⟩) 73
  have hc : Chg [] w (w.alloc (.cells #[.int .i64 i, .int .i64 c, .bool b, .int .u64 p, .int .u64 q] 73)) := (Chg.refl _ _).alloc _
  have y2 := hb.at (i := 2) rfl
  have y3 := hb.at (i := 3) rfl
  have y4 := hb.at (i := 4) rfl
  have HC := Lib.hid hc
  clear hb hc
  cases b
  · show Calls _ _ _ _ fun e w' => e = .returned (.tuple #[.int .i64 0, .int .u64 q]) ∧ _
    go_enter Tryz.func144, Tryz.ntmps144
    go_upto_region 4 with (fail)
    generalize w.alloc _ = W at *
    go_quiet (fail)
    go_wp2_with fail
    go_ret2
    exact ⟨rfl, HC.out.drewN nq⟩
  · show Calls _ _ _ _ fun e w' => e = .returned (.tuple #[.int .i64 1, .int .u64 (p * q)]) ∧ _
    go_enter Tryz.func144, Tryz.ntmps144
    go_upto_region 2 with (fail)
    generalize w.alloc _ = W at *
    go_wp2_with fail
    refine (mul_is p q (p * q) true W ⟨by omega, by omega⟩ ⟨by omega, by omega⟩ (by unfold cMulN; rw [if_pos (by omega)]) (by unfold cMulB; simp; omega)).mono ?_
    rintro e w3 ⟨rfl, rfl⟩
    go_wp2_with fail
    go_ret2
    exact ⟨rfl, HC.out⟩

/-- What both sides of a trade are paid. -/
def payL (n : Nat) (o : Ord) (xs : List Int) (t : Trd) : List Int :=
  let ys := aPut n (aPut n xs t.seller 1 (t.price * t.qty)) t.buyer 0 t.qty
  if o.buy = true then aPut n ys t.buyer 1 ((o.price - t.price) * t.qty) else ys
/-- A trade that may be. -/
structure TIn (o : Ord) (t : Trd) : Prop where
  p : 0 ≤ t.price ∧ t.price ≤ 1048576
  q : 0 ≤ t.qty ∧ t.qty ≤ 1048576
  le : o.buy = true → t.price ≤ o.price

structure Exb (w : World) (x ab kb : Nat) (last : Int) : Prop where
  hd : Blk w x 207 [.pointer (some ⟨ab, 0, none⟩), .pointer (some ⟨kb, 0, none⟩), .int .i64 last]
theorem Exb.chg {w w' : World} {x ab kb : Nat} {last : Int} {S : List Nat} (h : Exb w x ab kb last) (c : Chg S w w') (hx : x ∉ S) : Exb w' x ab kb last := ⟨h.hd.chg c hx⟩

set_option maxRecDepth 100000 in
set_option maxHeartbeats 2000000 in
/-- pay. -/
theorem pay_any {w : World} {x ab kb s n : Nat} {last : Int} {xs : List Int} (hx : Exb w x ab kb last) (ha : Acc w ab s n xs) (hn : x ≠ s) (o : Ord) (t : Trd) (ho : OIn o) (ht : TIn o t) :
    Calls Tryz.prog 205 #[.pointer (some ⟨x, 0, none⟩), ov o, tv t] w fun e w' => e = .returned (.tuple #[]) ∧ Exb w' x ab kb last ∧ Acc w' ab s n (payL n o xs t) ∧ Chg [s] w w' := by
  obtain ⟨i, c, b, p, q⟩ := o
  obtain ⟨hp, hq⟩ := ho
  obtain ⟨tp, tq, tl⟩ := ht
  dsimp only at hp hq tl
  have hm := mul_lt tp tq
  have hsl := ha.lt.2
  have hC : Chg [] w ((w.alloc (.cells #[.int .i64 i, .int .i64 c, .bool b, .int .u64 p, .int .u64 q] 73)).alloc (.cells #[.int .i64 t.maker, .int .i64 t.taker, .int .i64 t.buyer, .int .i64 t.seller, .int .u64 t.price, .int .u64 t.qty] 99)) := ((Chg.refl _ _).alloc _).alloc _
  have hx1 := hx.chg hC (by simp)
  have ha1 := ha.chg hC (by simp) (by simp)
  have hb : Blk ((w.alloc (.cells #[.int .i64 i, .int .i64 c, .bool b, .int .u64 p, .int .u64 q] 73)).alloc (.cells #[.int .i64 t.maker, .int .i64 t.taker, .int .i64 t.buyer, .int .i64 t.seller, .int .u64 t.price, .int .u64 t.qty] 99)) w.heap.size 73 (oc ⟨i, c, b, p, q⟩) := (Blk.new w (oc ⟨i, c, b, p, q⟩) 73).alloc _
  have ht0 : Blk ((w.alloc (.cells #[.int .i64 i, .int .i64 c, .bool b, .int .u64 p, .int .u64 q] 73)).alloc (.cells #[.int .i64 t.maker, .int .i64 t.taker, .int .i64 t.buyer, .int .i64 t.seller, .int .u64 t.price, .int .u64 t.qty] 99)) (w.heap.size + 1) 99 (tc t) := by
    have := Blk.new (w.alloc (.cells #[.int .i64 i, .int .i64 c, .bool b, .int .u64 p, .int .u64 q] 73)) (tc t) 99
    rwa [World.size_alloc] at this
  have HC := Lib.hid hC
  clear hx ha hC
  go_enter Tryz.func205, Tryz.ntmps205
  go_upto_region 1 with (fail)
  generalize w.heap.size = g at *
  generalize (w.alloc _).alloc _ = W at *
  have w1 : IntKind.u64.wrap (t.price * t.qty) = t.price * t.qty := by simp [IntKind.wrap, IntKind.bits, IntKind.signed]; omega
  have x0 := hx1.hd.at (i := 0) rfl
  have t3 := ht0.at (i := 3) rfl
  have t4 := ht0.at (i := 4) rfl
  have t5 := ht0.at (i := 5) rfl
  go_still_tail 11, (by kernel_rfl)
  change wpList _ _ _ _ _ W.drew
  have ha2 := ha1.drew
  have hx2 := hx1.chg (Chg.refl [] W).drew (by simp)
  have hb2 := hb.drew
  have ht2 := ht0.drew
  clear x0 t3 t4 t5 ha1 hx1 hb ht0
  have HCW : Hid (Chg [] w W.drew) := HC.out.drew
  generalize W.drew = V at *
  go_wp2_with fail
  refine (put_is ha2 t.seller 1 (t.price * t.qty) _ _ ⟨by omega, by omega⟩ rfl rfl).mono ?_
  rintro e w3 ⟨rfl, ha3, c3⟩
  have hx3 := hx2.chg c3 (by simp; exact hn)
  have hb3 := hb2.chg c3 (by simp; omega)
  have ht3 := ht2.chg c3 (by simp; omega)
  clear ha2 hx2 hb2 ht2
  have C3 := Lib.hid (HCW.out.mono (R := [s]) (by simp) |>.trans c3)
  clear c3 HCW HC
  have x0 := hx3.hd.at (i := 0) rfl
  have t2 := ht3.at (i := 2) rfl
  have t5 := ht3.at (i := 5) rfl
  go_upto_region 2 with (fail)
  go_still_tail 8, (by kernel_rfl)
  change wpList _ _ _ _ _ w3.drew
  have ha4 := ha3.drew
  have hx4 := hx3.chg (Chg.refl [] w3).drew (by simp)
  have hb4 := hb3.drew
  have ht4 := ht3.drew
  have C4 := Lib.hid C3.out.drew
  clear x0 t2 t5 ha3 hx3 hb3 ht3 C3
  generalize w3.drew = V4 at *
  go_wp2_with fail
  refine (put_is ha4 t.buyer 0 t.qty _ _ ⟨by omega, by omega⟩ rfl rfl).mono ?_
  rintro e w5 ⟨rfl, ha5, c5⟩
  have hx5 := hx4.chg c5 (by simp; exact hn)
  have hb5 := hb4.chg c5 (by simp; omega)
  have ht5 := ht4.chg c5 (by simp; omega)
  have C5 := Lib.hid (C4.out.trans c5)
  clear ha4 hx4 hb4 ht4 c5 C4
  have y2 := hb5.at (i := 2) rfl
  cases b
  · go_wp2_with fail
    go_end0
    exact ⟨rfl, hx5, ha5, C5.out⟩
  · have tl2 := tl rfl
    have hm2 := mul_lt (a := p - t.price) ⟨by omega, by omega⟩ tq
    have w2 : IntKind.u64.wrap (p - t.price) = p - t.price := by simp [IntKind.wrap, IntKind.bits, IntKind.signed]; omega
    have w3 : IntKind.u64.wrap ((p - t.price) * t.qty) = (p - t.price) * t.qty := by simp [IntKind.wrap, IntKind.bits, IntKind.signed]; omega
    have y3 := hb5.at (i := 3) rfl
    have x0 := hx5.hd.at (i := 0) rfl
    have t2 := ht5.at (i := 2) rfl
    have t4 := ht5.at (i := 4) rfl
    have t5 := ht5.at (i := 5) rfl
    clear tl
    go_upto_region 4 with (fail)
    go_still_tail 14, (by kernel_rfl)
    change wpList _ _ _ _ _ w5.drew
    have ha6 := ha5.drew
    have hx6 := hx5.chg (Chg.refl [] w5).drew (by simp)
    have C6 := Lib.hid C5.out.drew
    clear x0 t2 t4 t5 y2 y3 ha5 hx5 hb5 ht5 C5
    generalize w5.drew = V6 at *
    go_wp2_with fail
    refine (put_is ha6 t.buyer 1 ((p - t.price) * t.qty) _ _ ⟨by omega, by omega⟩ rfl rfl).mono ?_
    rintro e w7 ⟨rfl, ha7, c7⟩
    have hx7 := hx6.chg c7 (by simp; exact hn)
    have C7 := Lib.hid (C6.out.trans c7)
    clear ha6 hx6 c7 C6
    go_wp2_with fail
    go_end0
    exact ⟨rfl, hx7, ha7, C7.out⟩

set_option maxRecDepth 100000 in
/-- free. -/
theorem exfree_any {w : World} {x ab kb s n : Nat} {last : Int} {xs : List Int} (hx : Exb w x ab kb last) (ha : Acc w ab s n xs) (hn : x ≠ s) (o : Ord) (ho : OIn o) :
    Calls Tryz.prog 197 #[.pointer (some ⟨x, 0, none⟩), ov o] w fun e w' => e = .returned (.tuple #[]) ∧ Exb w' x ab kb last ∧ Acc w' ab s n (aPut n xs o.client (lockA o) (lockN o)) ∧ Chg [s] w w' := by
  have hC : Chg [] w (w.alloc (.cells #[.int .i64 o.id, .int .i64 o.client, .bool o.buy, .int .u64 o.price, .int .u64 o.qty] 73)) := (Chg.refl _ _).alloc _
  have hx1 := hx.chg hC (by simp)
  have ha1 := ha.chg hC (by simp) (by simp)
  have hb : Blk (w.alloc (.cells #[.int .i64 o.id, .int .i64 o.client, .bool o.buy, .int .u64 o.price, .int .u64 o.qty] 73)) w.heap.size 73 (oc o) := Blk.new w (oc o) 73
  have hl := ho.lock
  have HC := Lib.hid hC
  clear hx ha hC
  have y0 := hb.at (i := 0) rfl
  have y1 := hb.at (i := 1) rfl
  have y2 := hb.at (i := 2) rfl
  have y3 := hb.at (i := 3) rfl
  have y4 := hb.at (i := 4) rfl
  go_enter Tryz.func197, Tryz.ntmps197
  go_upto_region 1 with (fail)
  generalize w.heap.size = g at *
  generalize w.alloc _ = W at *
  go_wp2_with fail
  refine (locks_any o ho W).mono ?_
  rintro e w2 ⟨rfl, c2⟩
  have hx2 := hx1.chg c2 (by simp)
  have ha2 := ha1.chg c2 (by simp) (by simp)
  have hb2 := hb.chg c2 (by simp)
  have HC2 := Lib.hid (HC.out.trans c2)
  clear hx1 ha1 hb HC c2 y0 y1 y2 y3 y4
  have y1 := hb2.at (i := 1) rfl
  have x0 := hx2.hd.at (i := 0) rfl
  go_upto_region 2 with (fail)
  go_still_tail 8, (by kernel_rfl)
  change wpList _ _ _ _ _ w2.drew
  have ha3 := ha2.drew
  have hx3 := hx2.chg (Chg.refl [] w2).drew (by simp)
  have C3 := Lib.hid HC2.out.drew
  clear x0 y1 ha2 hx2 hb2 HC2
  generalize w2.drew = V at *
  go_wp2_with fail
  refine (put_is ha3 o.client (lockA o) (lockN o) _ _ ⟨by omega, by omega⟩ rfl rfl).mono ?_
  rintro e w4 ⟨rfl, ha4, c4⟩
  have hx4 := hx3.chg c4 (by simp; exact hn)
  have C5 : Hid (Chg [s] w w4) := (C3.out.mono (by simp)).trans c4
  clear ha3 hx3 c4 C3
  go_wp2_with fail
  go_end0
  exact ⟨rfl, hx4, ha4, C5.out⟩
end Go.Proofs.YteabcpmpcbjicaaGreat

namespace Go.Proofs.YteabcpmpcbjicaaGreat
set_option linter.unusedVariables false
open Go Go.Proofs Go.RowKit

/-! An exchange's orders: plain. -/
structure EOk (n : Nat) (L M : List Ord) (k : Nat) : Prop where
  fr : Fresh k L M
  oin : ∀ x ∈ L ++ M, OIn x ∧ 0 < x.qty ∧ aHas n x.client = true
  fl : ∀ x ∈ L, x.buy = true
  fm : ∀ x ∈ M, x.buy = false
  len : L.length + M.length ≤ k
theorem EOk.start (n : Nat) : EOk n [] [] 0 := ⟨Fresh.start, by simp, by simp, by simp, by simp⟩
theorem OIn.lt {o : Ord} (h : OIn o) (q : Int) (hq : 0 ≤ q ∧ q ≤ o.qty) : OIn { o with qty := q } := ⟨h.p, by have := h.q; exact ⟨hq.1, by show q ≤ _; omega⟩⟩
/-- What an order's match leaves. -/
theorem EOk.met {n : Nat} {L M : List Ord} {k : Nat} (h : EOk n L M k) (o : Ord) : EOk n (mL o L M) (mM o L M) k := by
  have hl := h.len
  have st : ∀ (Q : List Ord), (∀ x ∈ Q, x ∈ L ++ M) → ∀ y, y ∈ (mch o o.qty Q).2.2 → (OIn y ∧ 0 < y.qty ∧ aHas n y.client = true) ∧ ∃ x ∈ Q, y.buy = x.buy := fun Q hQ y hy => by
    obtain ⟨x, hx, e1, e2, e3, e4, e5, e6⟩ := @mch_stand o Q o.qty y hy
    obtain ⟨o1, o2, o3⟩ := h.oin x (hQ x hx)
    have g1 := e6 o2
    have g2 : OIn y := ⟨by rw [e2]; exact o1.p, by have := o1.q; omega⟩
    have g3 : aHas n y.client = true := by rw [e3]; exact o3
    exact ⟨⟨g2, g1, g3⟩, x, hx, e4⟩
  have ln := fun Q : List Ord => (mch_len o Q o.qty).2
  refine ⟨h.fr.mch o, ?_, ?_, ?_, ?_⟩
  · intro x hx
    unfold mL mM mres at hx
    cases hb : o.buy
    · simp only [hb, Bool.false_eq_true, if_false] at hx
      rcases List.mem_append.1 hx with g | g
      · exact (st L (by simp +contextual) x g).1
      · exact h.oin x (by simp [g])
    · simp only [hb, if_true] at hx
      rcases List.mem_append.1 hx with g | g
      · exact h.oin x (by simp [g])
      · exact (st M (by simp +contextual) x g).1
  · intro x hx
    unfold mL mres at hx
    cases hb : o.buy
    · simp only [hb, Bool.false_eq_true, if_false] at hx
      obtain ⟨_, y, hy, e⟩ := st L (by simp +contextual) x hx
      rw [e]; exact h.fl y hy
    · simp only [hb, if_true] at hx; exact h.fl x hx
  · intro x hx
    unfold mM mres at hx
    cases hb : o.buy
    · simp only [hb, Bool.false_eq_true, if_false] at hx; exact h.fm x hx
    · simp only [hb, if_true] at hx
      obtain ⟨_, y, hy, e⟩ := st M (by simp +contextual) x hx
      rw [e]; exact h.fm y hy
  · have h1 := ln L
    have h2 := ln M
    unfold mL mM mres
    cases o.buy <;> simp <;> omega
theorem EOk.mono {n : Nat} {L M : List Ord} {k j : Nat} (h : EOk n L M k) (hj : k ≤ j) : EOk n L M j := ⟨h.fr.mono hj, h.oin, h.fl, h.fm, by have := h.len; omega⟩
theorem EOk.rest {n : Nat} {L M : List Ord} {k : Nat} (h : EOk n L M k) {o : Ord} (ho : o.id = (k : Int) + 1) (hi : OIn o) (hc : aHas n o.client = true) : EOk n (restL o L) (restM o M) (k + 1) := by
  have hl := h.len
  refine ⟨h.fr.rest ho, rest_all' h.oin (fun hne => ⟨hi, by have := hi.q; omega, hc⟩), fun x hx => ?_, fun x hx => ?_, by rw [rest_len]; split <;> omega⟩
  · unfold restL at hx
    split at hx
    · rename_i hc
      rcases List.mem_cons.1 ((ins_perm _ _ _).mem_iff.1 hx) with e | e
      · subst e; exact hc.2
      · exact h.fl x e
    · exact h.fl x hx
  · unfold restM at hx
    split at hx
    · rename_i hc
      rcases List.mem_cons.1 ((ins_perm _ _ _).mem_iff.1 hx) with e | e
      · subst e; exact hc.2
      · exact h.fm x e
    · exact h.fm x hx
theorem EOk.remove {n : Nat} {L M : List Ord} {k : Nat} (h : EOk n L M k) (i : Int) : EOk n (sans i L) (remM i L M) k := by
  have s1 : ∀ x ∈ sans i L, x ∈ L := fun x hx => (sans_sub i L).subset hx
  have s2 : ∀ x ∈ remM i L M, x ∈ M := fun x hx => by
    unfold remM at hx; split at hx
    · exact hx
    · exact (sans_sub i M).subset hx
  refine ⟨h.fr.remove i, fun x hx => ?_, fun x hx => h.fl x (s1 x hx), fun x hx => h.fm x (s2 x hx), ?_⟩
  · rcases List.mem_append.1 hx with g | g
    · exact h.oin x (by simp [s1 x g])
    · exact h.oin x (by simp [s2 x g])
  · have h1 := (sans_sub i L).length_le
    have h2 : (remM i L M).length ≤ M.length := by
      unfold remM; split
      · omega
      · exact (sans_sub i M).length_le
    have := h.len; omega
/-- All trades of an order may be. -/
theorem EOk.trades {n : Nat} {L M : List Ord} {k : Nat} (h : EOk n L M k) {o : Ord} (ho : OIn o) : ∀ t ∈ (mres o L M).1, TIn o t := by
  intro t ht
  have hq : ∀ Q : List Ord, (∀ x ∈ Q, x ∈ L ++ M) → t ∈ (mch o o.qty Q).1 → TIn o t := fun Q hQ ht => by
    obtain ⟨x, hx, m, h1, h2, rfl, h4⟩ := mch_trades (fun x hx => (h.oin x (hQ x hx)).2.1) _ t ht
    obtain ⟨o1, o2, o3⟩ := h.oin x (hQ x hx)
    have e1 : (trd o x m).price = x.price := by unfold trd; split <;> rfl
    have e2 : (trd o x m).qty = m := by unfold trd; split <;> rfl
    refine ⟨by rw [e1]; exact o1.p, by rw [e2]; have := o1.q; omega, fun hb => ?_⟩
    rw [e1]
    unfold meet at h4
    rw [if_pos hb] at h4
    exact of_decide_eq_true h4
  unfold mres at ht
  split at ht
  · exact hq M (by simp +contextual) ht
  · exact hq L (by simp +contextual) ht
theorem mres_left {n : Nat} {L M : List Ord} {k : Nat} (h : EOk n L M k) {o : Ord} (ho : OIn o) : 0 ≤ (mres o L M).2.1 ∧ (mres o L M).2.1 ≤ o.qty := by
  unfold mres
  refine mch_left o _ (fun x hx => ?_) o.qty ho.q.1
  split at hx
  · have := (h.oin x (by simp [hx])).2.1; omega
  · have := (h.oin x (by simp [hx])).2.1; omega
theorem mres_len (o : Ord) (L M : List Ord) : (mres o L M).1.length ≤ L.length + M.length := by
  unfold mres
  have := (mch_len o (if o.buy = true then M else L) o.qty).1
  split at this <;> split <;> first | omega | contradiction

/-- What an order is refused for: 0, it is not. -/
def mtE (n : Nat) (xs : List Int) (c : Int) (b : Bool) (p q : Int) : Int :=
  if aHas n c = true then (if (wIn p && wIn q) = true then (if aTakeE n xs c (lockA ⟨0, c, b, p, q⟩) (lockN ⟨0, c, b, p, q⟩) = 0 then 0 else 4) else 6) else 2
theorem wIn_o {p q : Int} (h : (wIn p && wIn q) = true) (i c : Int) (b : Bool) : OIn ⟨i, c, b, p, q⟩ ∧ 1 ≤ p ∧ 1 ≤ q := by
  unfold wIn at h
  simp at h
  exact ⟨⟨by show 0 ≤ p ∧ p ≤ _; omega, by show 0 ≤ q ∧ q ≤ _; omega⟩, by omega, by omega⟩

/-- An exchange in memory, made since the world w. -/
structure Exc (w wr : World) (x ab s kb n : Nat) (F : List Nat) (xs : List Int) (L M : List Ord) (k : Nat) : Prop where
  e : Exb wr x ab kb (k : Int)
  a : Acc wr ab s n xs
  b : BkS w wr F kb L M
  ne : x ≠ s ∧ x ∉ F ∧ ab ∉ F ∧ s ∉ F ∧ x ≠ ab
  lo : w.heap.size ≤ x ∧ w.heap.size ≤ ab ∧ w.heap.size ≤ s
  ok : EOk n L M k
theorem Exc.to {w wr w' : World} {x ab s kb n : Nat} {F : List Nat} {xs : List Int} {L M : List Ord} {k : Nat} (h : Exc w wr x ab s kb n F xs L M k) (c : Chg [] wr w') : Exc w w' x ab s kb n F xs L M k :=
  ⟨h.e.chg c (by simp), h.a.chg c (by simp) (by simp), h.b.to c, h.ne, h.lo, h.ok⟩
theorem Exc.acct {w wr w' : World} {x ab s kb n : Nat} {F : List Nat} {xs ys : List Int} {L M : List Ord} {k : Nat} (h : Exc w wr x ab s kb n F xs L M k) (a : Acc w' ab s n ys) (c : Chg [s] wr w') : Exc w w' x ab s kb n F ys L M k :=
  ⟨h.e.chg c (by simp; exact h.ne.1), a, h.b.aside c h.ne.2.2.2.1 h.lo.2.2, h.ne, h.lo, h.ok⟩
theorem Exc.book {w wr w' : World} {x ab s kb n : Nat} {F F' : List Nat} {xs : List Int} {L M L' M' : List Ord} {k k' : Nat} (h : Exc w wr x ab s kb n F xs L M k) (hb : BkS w w' F' kb L' M') (c : Chg F wr w') (g : Grw wr.heap.size F F') (hk : k = k') (ok : EOk n L' M' k') : Exc w w' x ab s kb n F' xs L' M' k' := by
  subst hk
  obtain ⟨n1, n2, n3, n4, n5⟩ := h.ne
  have l1 := h.e.hd.lt
  obtain ⟨l2, l3⟩ := h.a.lt
  exact ⟨h.e.chg c n2, h.a.chg c n3 n4, hb, ⟨n1, g.not n2 l1, g.not n3 l2, g.not n4 l3, n5⟩, h.lo, ok⟩
theorem Exc.last {w wr : World} {x ab s kb n : Nat} {F : List Nat} {xs : List Int} {L M : List Ord} {k : Nat} (h : Exc w wr x ab s kb n F xs L M k) : Exc w (wr.setCell ⟨x, 2, none⟩ (.int .i64 ((k : Int) + 1))) x ab s kb n F xs L M (k + 1) := by
  obtain ⟨n1, n2, n3, n4, n5⟩ := h.ne
  have c : Chg [x] wr (wr.setCell ⟨x, 2, none⟩ (.int .i64 ((k : Int) + 1))) := (Chg.refl _ _).setCell _ _ (by simp)
  exact ⟨⟨by have := h.e.hd.set 2 (.int .i64 ((k : Int) + 1)); simpa using this⟩, h.a.chg c (by simp; omega) (by simp; omega), h.b.aside c n2 h.lo.1, h.ne, h.lo, h.ok.mono (Nat.le_succ k)⟩
theorem Exc.lt {w wr : World} {x ab s kb n : Nat} {F : List Nat} {xs : List Int} {L M : List Ord} {k : Nat} (h : Exc w wr x ab s kb n F xs L M k) : x < wr.heap.size ∧ ab < wr.heap.size ∧ s < wr.heap.size ∧ w.heap.size ≤ wr.heap.size ∧ ∀ z ∈ F, z < wr.heap.size := ⟨h.e.hd.lt, h.a.lt.1, h.a.lt.2, h.b.c.size, h.b.new⟩
theorem Exc.fresh {w wr w' : World} {x ab s kb n g : Nat} {F : List Nat} {xs : List Int} {L M : List Ord} {k : Nat} (h : Exc w wr x ab s kb n F xs L M k) (c : Chg [g] wr w') (hg : g ≠ x ∧ g ≠ ab ∧ g ≠ s ∧ g ∉ F) (hl : w.heap.size ≤ g) : Exc w w' x ab s kb n F xs L M k :=
  ⟨h.e.chg c (by simp; omega), h.a.chg c (by simp; omega) (by simp; omega), h.b.aside c hg.2.2.2 hl, h.ne, h.lo, h.ok⟩
theorem has_is {w : World} {b s n : Nat} {xs : List Int} (h : Acc w b s n xs) (c : Int) (r : Bool) (h1 : aHas n c = r) :
    Calls Tryz.prog 85 #[.pointer (some ⟨b, 0, none⟩), .int .i64 c] w fun e w' => e = .returned (.bool r) ∧ w = w' := by
  subst h1; exact has_any h c
theorem within_is (n : Int) (r : Bool) (w : World) (h1 : wIn n = r) : Calls Tryz.prog 203 #[.int .u64 n] w fun e w' => e = .returned (.bool r) ∧ w = w' := by
  subst h1; exact within_any n w
end Go.Proofs.YteabcpmpcbjicaaGreat

namespace Go.Proofs.YteabcpmpcbjicaaGreat
set_option linter.unusedVariables false
open Go Go.Proofs Go.RowKit
attribute [local go_sem ↓] Go.wp_at_zero Go.wp_at_succ

set_option maxRecDepth 1000000 in
set_option maxHeartbeats 8000000 in
theorem meet_reg {Q : Exit → Act → World → Prop} {u1 u2 u3 u4 u5 u6 u7 u8 u9 u10 u11 u12 u14 u15 u16 u17 u18 u19 u20 u21 u22 u23 u24 u25 u26 u27 u28 u29 u30 u31 u32 u33 u34 u35 u36 u37 u38 u39 u40 u41 u42 u43 u44 u45 u46 u47 u48 u49 u50 u51 u52 u53 u54 u55 u56 u57 u58 u59 u60 u61 u62 u63 u64 u65 u66 u67 u68 u69 u70 u71 u72 u73 u74 u75 u76 u77 u78 u79 u80 u81 u82 u83 u84 u85 u86 u87 u88 u89 u90 u91 u92 u93 u94 : Value} (hP : ∀ c a d v w, Q (.panic c) (Act.put a d v) w → Q (.panic c) a w) {x kb go nT : Nat} {oi c p q lft : Int} {b : Bool} {W : World} {PP : World → Option Addr → Nat → Prop} (hM : Calls Tryz.prog 204 #[.pointer (some ⟨kb, 0, none⟩), ov ⟨oi, c, b, p, q⟩] W.drew fun e w' => ∃ a cap, e = .returned (.tuple #[.slice a nT cap, .int .u64 lft]) ∧ PP w' a cap) (HSP : Hid (∀ w' a d, PP w' a d → w'.cell? ⟨x, 1, none⟩ = some (.pointer (some ⟨kb, 0, none⟩)) ∧ w'.cell? ⟨go, 0, none⟩ = some (.int .i64 oi) ∧ w'.cell? ⟨go, 1, none⟩ = some (.int .i64 c) ∧ w'.cell? ⟨go, 2, none⟩ = some (.bool b) ∧ w'.cell? ⟨go, 3, none⟩ = some (.int .u64 p) ∧ w'.cell? ⟨go, 4, none⟩ = some (.int .u64 q))) (x1 : W.cell? ⟨x, 1, none⟩ = some (.pointer (some ⟨kb, 0, none⟩))) (y0 : W.cell? ⟨go, 0, none⟩ = some (.int .i64 oi)) (y1 : W.cell? ⟨go, 1, none⟩ = some (.int .i64 c)) (y2 : W.cell? ⟨go, 2, none⟩ = some (.bool b)) (y3 : W.cell? ⟨go, 3, none⟩ = some (.int .u64 p)) (y4 : W.cell? ⟨go, 4, none⟩ = some (.int .u64 q))
    (hQ : ∀ (w7 : World) (a7 : Option Addr) (d7 : Nat) (_ : PP w7 a7 d7) (x71 x72 x73 x74 x75 x76 x77 x78 x79 : Value), Q .normal ⟨#[.pointer (some ⟨x, 0, none⟩), u1, u2, u3, u4, u5, u6, u7, u8, u9, u10, u11, u12, .pointer (some ⟨go, 0, none⟩), u14, u15, .slice a7 nT d7, .int .u64 lft, u18, u19, u20, u21, u22, u23, u24, u25, u26, u27, u28, u29, u30, u31, u32, u33, u34, u35, u36, u37, u38, u39, u40, u41, u42, u43, u44, u45, u46, u47, u48, u49, u50, u51, u52, u53, u54, u55, u56, u57, u58, u59, u60, u61, u62, u63, u64, u65, u66, u67, u68, u69, u70, x71, x72, x73, x74, x75, x76, x77, x78, x79, u80, u81, u82, u83, u84, u85, u86, u87, u88, u89, u90, u91, u92, u93, u94], []⟩ w7) :
    Code.wp Tryz.prog (regionOf Tryz.f195 10) Q ⟨#[.pointer (some ⟨x, 0, none⟩), u1, u2, u3, u4, u5, u6, u7, u8, u9, u10, u11, u12, .pointer (some ⟨go, 0, none⟩), u14, u15, u16, u17, u18, u19, u20, u21, u22, u23, u24, u25, u26, u27, u28, u29, u30, u31, u32, u33, u34, u35, u36, u37, u38, u39, u40, u41, u42, u43, u44, u45, u46, u47, u48, u49, u50, u51, u52, u53, u54, u55, u56, u57, u58, u59, u60, u61, u62, u63, u64, u65, u66, u67, u68, u69, u70, u71, u72, u73, u74, u75, u76, u77, u78, u79, u80, u81, u82, u83, u84, u85, u86, u87, u88, u89, u90, u91, u92, u93, u94], []⟩ W := by
  conv => arg 2; whnf
  refine wp_region_held_drew (S := (fun w' => w'.cell? ⟨x, 1, none⟩ = some (.pointer (some ⟨kb, 0, none⟩)) ∧ w'.cell? ⟨go, 0, none⟩ = some (.int .i64 oi) ∧ w'.cell? ⟨go, 1, none⟩ = some (.int .i64 c) ∧ w'.cell? ⟨go, 2, none⟩ = some (.bool b) ∧ w'.cell? ⟨go, 3, none⟩ = some (.int .u64 p) ∧ w'.cell? ⟨go, 4, none⟩ = some (.int .u64 q))) (by kernel_rfl) ⟨x1, y0, y1, y2, y3, y4⟩ (fun _ => ?_)
  refine wpAnyH_take (i := 0) (v := ?_) rfl (by kernel_rfl) (by kernel_rfl) (by kernel_rfl) (fun c a w h => hP c a _ _ w h) (Or.inl ⟨by rfl, ?_⟩) ⟨x1, y0, y1, y2, y3, y4⟩ ?_
  rotate_left
  · (intro w hSw; (try dsimp only at hSw); go_simp; (try (with_reducible rfl)))
  change wpAnyH _ _ _ _ _ _ _ (Act.put _ (some 72) _) _
  simp only [Act.put, List.setIfInBounds_toArray, List.set_cons_succ, List.set_cons_zero]
  refine wpAnyH_take (i := 1) (v := ?_) rfl (by kernel_rfl) (by kernel_rfl) (by kernel_rfl) (fun c a w h => hP c a _ _ w h) (Or.inl ⟨by rfl, ?_⟩) ⟨x1, y0, y1, y2, y3, y4⟩ ?_
  rotate_left
  · (intro w hSw; (try dsimp only at hSw); go_simp; (try (with_reducible rfl)))
  change wpAnyH _ _ _ _ _ _ _ (Act.put _ (some 73) _) _
  simp only [Act.put, List.setIfInBounds_toArray, List.set_cons_succ, List.set_cons_zero]
  refine wpAnyH_take (i := 2) (v := ?_) rfl (by kernel_rfl) (by kernel_rfl) (by kernel_rfl) (fun c a w h => hP c a _ _ w h) (Or.inl ⟨by rfl, ?_⟩) ⟨x1, y0, y1, y2, y3, y4⟩ ?_
  rotate_left
  · (intro w hSw; (try dsimp only at hSw); go_simp; (try (with_reducible rfl)))
  change wpAnyH _ _ _ _ _ _ _ (Act.put _ (some 74) _) _
  simp only [Act.put, List.setIfInBounds_toArray, List.set_cons_succ, List.set_cons_zero]
  refine wpAnyH_take (i := 3) (v := ?_) rfl (by kernel_rfl) (by kernel_rfl) (by kernel_rfl) (fun c a w h => hP c a _ _ w h) (Or.inl ⟨by rfl, ?_⟩) ⟨x1, y0, y1, y2, y3, y4⟩ ?_
  rotate_left
  · (intro w hSw; (try dsimp only at hSw); go_simp; (try (with_reducible rfl)))
  change wpAnyH _ _ _ _ _ _ _ (Act.put _ (some 75) _) _
  simp only [Act.put, List.setIfInBounds_toArray, List.set_cons_succ, List.set_cons_zero]
  refine wpAnyH_take (i := 4) (v := ?_) rfl (by kernel_rfl) (by kernel_rfl) (by kernel_rfl) (fun c a w h => hP c a _ _ w h) (Or.inl ⟨by rfl, ?_⟩) ⟨x1, y0, y1, y2, y3, y4⟩ ?_
  rotate_left
  · (intro w hSw; (try dsimp only at hSw); go_simp; (try (with_reducible rfl)))
  change wpAnyH _ _ _ _ _ _ _ (Act.put _ (some 76) _) _
  simp only [Act.put, List.setIfInBounds_toArray, List.set_cons_succ, List.set_cons_zero]
  refine wpAnyH_ready (rs := [5]) (by kernel_rfl) (by simp) (AllReadyH.cons rfl (fun K hK => ?_) AllReadyH.nil)
  go_simp
  refine hM.mono ?_
  rintro e w7 ⟨a7, d7, rfl, hP7⟩
  have HZ := HSP.out _ _ _ hP7
  go_wp2_with fail
  refine hK.out _ _ HZ (fun hHeld => ?_)
  clear hK K
  refine wpAnyH_take (i := 6) (v := ?_) rfl (by kernel_rfl) (by kernel_rfl) (by kernel_rfl) (fun c a w h => hP c a _ _ w h) (Or.inl ⟨by rfl, ?_⟩) HZ ?_
  rotate_left
  · (intro w hSw; (try dsimp only at hSw); go_simp; (try (with_reducible rfl)))
  change wpAnyH _ _ _ _ _ _ _ (Act.put _ (some 71) _) _
  simp only [Act.put, List.setIfInBounds_toArray, List.set_cons_succ, List.set_cons_zero]
  refine wpAnyH_take (i := 7) (v := ?_) rfl (by kernel_rfl) (by kernel_rfl) (by kernel_rfl) (fun c a w h => hP c a _ _ w h) (Or.inl ⟨by rfl, ?_⟩) HZ ?_
  rotate_left
  · (intro w hSw; (try dsimp only at hSw); go_simp; (try (with_reducible rfl)))
  change wpAnyH _ _ _ _ _ _ _ (Act.put _ (some 78) _) _
  simp only [Act.put, List.setIfInBounds_toArray, List.set_cons_succ, List.set_cons_zero]
  refine wpAnyH_take (i := 8) (v := ?_) rfl (by kernel_rfl) (by kernel_rfl) (by kernel_rfl) (fun c a w h => hP c a _ _ w h) (Or.inl ⟨by rfl, ?_⟩) HZ ?_
  rotate_left
  · (intro w hSw; (try dsimp only at hSw); go_simp; (try (with_reducible rfl)))
  change wpAnyH _ _ _ _ _ _ _ (Act.put _ (some 79) _) _
  simp only [Act.put, List.setIfInBounds_toArray, List.set_cons_succ, List.set_cons_zero]
  refine wpAnyH_take (i := 9) (v := ?_) rfl (by kernel_rfl) (by kernel_rfl) (by kernel_rfl) (fun c a w h => hP c a _ _ w h) (Or.inl ⟨by rfl, ?_⟩) HZ ?_
  rotate_left
  · (intro w hSw; (try dsimp only at hSw); go_simp; (try (with_reducible rfl)))
  change wpAnyH _ _ _ _ _ _ _ (Act.put _ (some 16) _) _
  simp only [Act.put, List.setIfInBounds_toArray, List.set_cons_succ, List.set_cons_zero]
  refine wpAnyH_take (i := 10) (v := ?_) rfl (by kernel_rfl) (by kernel_rfl) (by kernel_rfl) (fun c a w h => hP c a _ _ w h) (Or.inl ⟨by rfl, ?_⟩) HZ ?_
  rotate_left
  · (intro w hSw; (try dsimp only at hSw); go_simp; (try (with_reducible rfl)))
  change wpAnyH _ _ _ _ _ _ _ (Act.put _ (some 17) _) _
  simp only [Act.put, List.setIfInBounds_toArray, List.set_cons_succ, List.set_cons_zero]
  refine wpAnyH_done (by kernel_rfl) ?_ _
  exact hQ _ _ _ hP7 _ _ _ _ _ _ _ _ _
end Go.Proofs.YteabcpmpcbjicaaGreat

namespace Go.Proofs.YteabcpmpcbjicaaGreat
set_option linter.unusedVariables false
open Go Go.Proofs Go.RowKit
attribute [local go_sem ↓] Go.wp_at_zero Go.wp_at_succ

set_option maxRecDepth 100000 in
set_option maxHeartbeats 4000000 in
/-- meet, of what is refused. -/
theorem meet_no {w wr : World} {x ab s kb n : Nat} {F : List Nat} {xs : List Int} {L M : List Ord} {k : Nat} (h : Exc w wr x ab s kb n F xs L M k) (hk : k < 1000000) (c : Int) (b : Bool) (p q : Int) (hp : U p) (hq : U q) (hc : I c) (e0 : Int) (hE : mtE n xs c b p q = e0) (hne : e0 ≠ 0) :
    Calls Tryz.prog 195 #[.pointer (some ⟨x, 0, none⟩), .int .i64 c, .bool b, .int .u64 p, .int .u64 q] wr fun e w' => e = .returned (.tuple #[ov Ord.zero, .slice none 0 0, .int .i64 e0]) ∧ Exc w w' x ab s kb n F xs L M k ∧ Chg [s] wr w' := by
  have B0 : Blk (wr.alloc (.cells #[.int .i64 0, .int .i64 0, .bool false, .int .u64 0, .int .u64 0] 73)) wr.heap.size 73 (oc Ord.zero) := Blk.new wr (oc Ord.zero) 73
  have c0 : Chg [] wr (wr.alloc (.cells #[.int .i64 0, .int .i64 0, .bool false, .int .u64 0, .int .u64 0] 73)) := (Chg.refl _ _).alloc _
  have h0 := h.to c0
  obtain ⟨l1, l2, l3, l4, l5⟩ := h.lt
  have HC := Lib.hid c0
  have hce := h.e
  have a0 := B0.at (i := 0) rfl
  have a1 := B0.at (i := 1) rfl
  have a2 := B0.at (i := 2) rfl
  have a3 := B0.at (i := 3) rfl
  have a4 := B0.at (i := 4) rfl
  have f0 := B0.free 0
  have f1 := B0.free 1
  have f2 := B0.free 2
  have f3 := B0.free 3
  have f4 := B0.free 4
  have x0 := h0.e.hd.at (i := 0) rfl
  clear h c0 hce
  by_cases hh : aHas n c = true
  · by_cases hw : (wIn p && wIn q) = true
    · have hE4 : e0 = 4 ∧ aTakeE n xs c (lockA ⟨0, c, b, p, q⟩) (lockN ⟨0, c, b, p, q⟩) ≠ 0 := by
        unfold mtE at hE
        rw [if_pos hh, if_pos hw] at hE
        split at hE
        · omega
        · rename_i h9; exact ⟨hE.symm, h9⟩
      obtain ⟨rfl, hT⟩ := hE4
      obtain ⟨hin, p1, q1⟩ := wIn_o hw ((k : Int) + 1) c b
      have hw1 : wIn p = true ∧ wIn q = true := by simpa using hw
      have HW := Lib.hid hw1
      have HH := Lib.hid hh
      have hlk := hin.lock
      obtain ⟨te, hte⟩ : ∃ te, aTakeE n xs c (lockA ⟨(k : Int) + 1, c, b, p, q⟩) (lockN ⟨(k : Int) + 1, c, b, p, q⟩) = te := ⟨_, rfl⟩
      have hte0 : te ≠ 0 := by rw [← hte]; exact hT
      have HTE := Lib.hid hte
      have HIN := Lib.hid hin
      have hxs : aTake n xs c (lockA ⟨(k : Int) + 1, c, b, p, q⟩) (lockN ⟨(k : Int) + 1, c, b, p, q⟩) = xs := by unfold aTake; rw [hte, if_neg hte0]
      have HXS := Lib.hid hxs
      have dte : (te != 0) = true := by simp; exact hte0
      have dte2 : decide (te = 0) = false := by simp; exact hte0
      clear hE hne hh hw hw1 hT hin hte hxs hte0
      have x2 := h0.e.hd.at (i := 2) rfl
      have wk : IntKind.i64.wrap ((k : Int) + 1) = (k : Int) + 1 := IntWalk.i64_in _ (by omega)
      go_enter Tryz.func195, Tryz.ntmps195
      go_wp2_with fail
      refine (has_is h0.a c true HH.out).mono ?_
      rintro e w3 ⟨rfl, rfl⟩
      go_wp2_with fail
      refine (within_is p true _ HW.out.1).mono ?_
      rintro e w3 ⟨rfl, rfl⟩
      go_wp2_with fail
      refine (within_is q true _ HW.out.2).mono ?_
      rintro e w3 ⟨rfl, rfl⟩
      generalize hgg : wr.heap.size = g at *
      have HG := Lib.hid hgg
      clear hgg
      generalize wr.alloc _ = W at *
      have hbo : Blk (W.alloc (.cells #[.int .i64 ((k : Int) + 1), .int .i64 c, .bool b, .int .u64 p, .int .u64 q] 73)) W.heap.size 73 (oc ⟨(k : Int) + 1, c, b, p, q⟩) := Blk.new W (oc ⟨(k : Int) + 1, c, b, p, q⟩) 73
      have hc1 : Chg [] W (W.alloc (.cells #[.int .i64 ((k : Int) + 1), .int .i64 c, .bool b, .int .u64 p, .int .u64 q] 73)) := (Chg.refl _ _).alloc _
      have h1 := h0.to hc1
      have B1 := B0.chg hc1 (by simp)
      have HC1 := Lib.hid (HC.out.trans hc1)
      clear h0 B0 hc1 HC a0 a1 a2 a3 a4 f0 f1 f2 f3 f4
      go_upto_region 6 with (fail)
      clear x0 x2
      generalize W.heap.size = go at *
      generalize W.alloc _ = W1 at *
      have y0 := hbo.at (i := 0) rfl
      have y1 := hbo.at (i := 1) rfl
      have y2 := hbo.at (i := 2) rfl
      have y3 := hbo.at (i := 3) rfl
      have y4 := hbo.at (i := 4) rfl
      go_wp2_with fail
      refine (locks_any ⟨(k : Int) + 1, c, b, p, q⟩ HIN.out W1).mono ?_
      rintro e w4 ⟨rfl, c4⟩
      have h2 := h1.to c4
      have B2 := B1.chg c4 (by simp)
      have HC2 := Lib.hid (HC1.out.trans c4)
      clear h1 B1 HC1 c4 y0 y1 y2 y3 y4 hbo
      have x0 := h2.e.hd.at (i := 0) rfl
      generalize lockA ⟨(k : Int) + 1, c, b, p, q⟩ = lA at *
      generalize lockN ⟨(k : Int) + 1, c, b, p, q⟩ = lN at *
      go_wp2_with fail
      refine (take_is h2.a c lA lN te xs ⟨by omega, by omega⟩ HTE.out HXS.out).mono ?_
      rintro e w5 ⟨rfl, ha5, c5⟩
      have h3 := h2.acct ha5 c5
      have B3 := B2.chg c5 (by simp; omega)
      have HC3 : Hid (Chg [s] wr w5) := (HC2.out.mono (by simp)).trans c5
      clear h2 B2 HC2 c5 x0 ha5
      have a0 := B3.at (i := 0) rfl
      have a1 := B3.at (i := 1) rfl
      have a2 := B3.at (i := 2) rfl
      have a3 := B3.at (i := 3) rfl
      have a4 := B3.at (i := 4) rfl
      have f0 := B3.free 0
      have f1 := B3.free 1
      have f2 := B3.free 2
      have f3 := B3.free 3
      have f4 := B3.free 4
      have hz : Exc w (sto w5 g 0 Ord.zero) x ab s kb n F xs L M k := h3.fresh (sto_chg (Chg.refl [g] _) _ _ _ (by simp)) ⟨by omega, by omega, by omega, fun hm => by have := l5 _ hm; omega⟩ (by omega)
      have hcz : Chg [s] wr (sto w5 g 0 Ord.zero) := sto_chg HC3.out _ _ _ (by right; rw [HG.out]; exact Nat.le_refl _)
      go_wp2_with fail
      exact bodyPost_ret (v := .tuple #[ov Ord.zero, .slice none 0 0, .int .i64 4]) (by simp [results, Tryz.results195, go_sem, a0, a1, a2, a3, a4]) rfl ⟨rfl, hz, hcz⟩
    · have hE6 : e0 = 6 := by
        unfold mtE at hE
        rw [if_pos hh, if_neg hw] at hE
        exact hE.symm
      subst hE6
      have HH := Lib.hid hh
      have hw1 : wIn p = false ∨ (wIn p = true ∧ wIn q = false) := by
        cases h1 : wIn p <;> cases h2 : wIn q <;> simp [h1, h2] at hw ⊢
      clear hE hne hh hw
      rcases hw1 with hw | ⟨hw, hw2⟩
      · have HW := Lib.hid hw
        clear hw
        go_enter Tryz.func195, Tryz.ntmps195
        go_wp2_with fail
        refine (has_is h0.a c true HH.out).mono ?_
        rintro e w3 ⟨rfl, rfl⟩
        go_wp2_with fail
        refine (within_is p false _ HW.out).mono ?_
        rintro e w3 ⟨rfl, rfl⟩
        generalize hgg : wr.heap.size = g at *
        have HG := Lib.hid hgg
        clear hgg
        generalize wr.alloc _ = W at *
        have hz : Exc w (sto W g 0 Ord.zero) x ab s kb n F xs L M k := h0.fresh (sto_chg (Chg.refl [g] _) _ _ _ (by simp)) ⟨by omega, by omega, by omega, fun hm => by have := l5 _ hm; omega⟩ (by omega)
        have hcz : Chg [s] wr (sto W g 0 Ord.zero) := sto_chg (HC.out.mono (by simp)) _ _ _ (by right; rw [HG.out]; exact Nat.le_refl _)
        go_wp2_with fail
        exact bodyPost_ret (v := .tuple #[ov Ord.zero, .slice none 0 0, .int .i64 6]) (by simp [results, Tryz.results195, go_sem, a0, a1, a2, a3, a4]) rfl ⟨rfl, hz, hcz⟩
      · have HW := Lib.hid hw
        have HW2 := Lib.hid hw2
        clear hw hw2
        go_enter Tryz.func195, Tryz.ntmps195
        go_wp2_with fail
        refine (has_is h0.a c true HH.out).mono ?_
        rintro e w3 ⟨rfl, rfl⟩
        go_wp2_with fail
        refine (within_is p true _ HW.out).mono ?_
        rintro e w3 ⟨rfl, rfl⟩
        go_wp2_with fail
        refine (within_is q false _ HW2.out).mono ?_
        rintro e w3 ⟨rfl, rfl⟩
        generalize hgg : wr.heap.size = g at *
        have HG := Lib.hid hgg
        clear hgg
        generalize wr.alloc _ = W at *
        have hz : Exc w (sto W g 0 Ord.zero) x ab s kb n F xs L M k := h0.fresh (sto_chg (Chg.refl [g] _) _ _ _ (by simp)) ⟨by omega, by omega, by omega, fun hm => by have := l5 _ hm; omega⟩ (by omega)
        have hcz : Chg [s] wr (sto W g 0 Ord.zero) := sto_chg (HC.out.mono (by simp)) _ _ _ (by right; rw [HG.out]; exact Nat.le_refl _)
        go_wp2_with fail
        exact bodyPost_ret (v := .tuple #[ov Ord.zero, .slice none 0 0, .int .i64 6]) (by simp [results, Tryz.results195, go_sem, a0, a1, a2, a3, a4]) rfl ⟨rfl, hz, hcz⟩
  · have hE2 : e0 = 2 := by
      unfold mtE at hE
      rw [if_neg hh] at hE
      exact hE.symm
    subst hE2
    have hh2 : aHas n c = false := by cases h1 : aHas n c <;> simp [h1] at hh ⊢
    have HH := Lib.hid hh2
    clear hE hne hh hh2
    go_enter Tryz.func195, Tryz.ntmps195
    go_wp2_with fail
    refine (has_is h0.a c false HH.out).mono ?_
    rintro e w3 ⟨rfl, rfl⟩
    generalize hgg : wr.heap.size = g at *
    have HG := Lib.hid hgg
    clear hgg
    generalize wr.alloc _ = W at *
    have hz : Exc w (sto W g 0 Ord.zero) x ab s kb n F xs L M k := h0.fresh (sto_chg (Chg.refl [g] _) _ _ _ (by simp)) ⟨by omega, by omega, by omega, fun hm => by have := l5 _ hm; omega⟩ (by omega)
    have hcz : Chg [s] wr (sto W g 0 Ord.zero) := sto_chg (HC.out.mono (by simp)) _ _ _ (by right; rw [HG.out]; exact Nat.le_refl _)
    go_wp2_with fail
    exact bodyPost_ret (v := .tuple #[ov Ord.zero, .slice none 0 0, .int .i64 2]) (by simp [results, Tryz.results195, go_sem, a0, a1, a2, a3, a4]) rfl ⟨rfl, hz, hcz⟩

set_option maxRecDepth 100000 in
set_option maxHeartbeats 8000000 in
/-- meet, of what is taken. -/
theorem meet_yes {w wr : World} {x ab s kb n : Nat} {F : List Nat} {xs : List Int} {L M : List Ord} {k : Nat} (h : Exc w wr x ab s kb n F xs L M k) (hk : k < 1000000) (c : Int) (b : Bool) (p q : Int) (hp : U p) (hq : U q) (hc : I c) (hE : mtE n xs c b p q = 0)
    (xs1 xs2 : List Int) (T : List Trd) (lft : Int) (L' M' : List Ord) (hx1 : aTake n xs c (lockA ⟨(k : Int) + 1, c, b, p, q⟩) (lockN ⟨(k : Int) + 1, c, b, p, q⟩) = xs1) (hT : (mres ⟨(k : Int) + 1, c, b, p, q⟩ L M).1 = T ∧ (mres ⟨(k : Int) + 1, c, b, p, q⟩ L M).2.1 = lft) (hx2 : T.foldl (payL n ⟨(k : Int) + 1, c, b, p, q⟩) xs1 = xs2)
    (hL : mL ⟨(k : Int) + 1, c, b, p, q⟩ L M = L') (hM : mM ⟨(k : Int) + 1, c, b, p, q⟩ L M = M') :
    Calls Tryz.prog 195 #[.pointer (some ⟨x, 0, none⟩), .int .i64 c, .bool b, .int .u64 p, .int .u64 q] wr fun e w' => ∃ a cap, e = .returned (.tuple #[ov ⟨(k : Int) + 1, c, b, p, lft⟩, .slice a T.length cap, .int .i64 0]) ∧ NewF tc w' wr.heap.size 99 a T ∧ Exc w w' x ab s kb n F xs2 L' M' (k + 1) ∧ Chg (x :: s :: F) wr w' := by
  obtain ⟨hh, hw, hT0⟩ : aHas n c = true ∧ (wIn p && wIn q) = true ∧ aTakeE n xs c (lockA ⟨(k : Int) + 1, c, b, p, q⟩) (lockN ⟨(k : Int) + 1, c, b, p, q⟩) = 0 := by
    unfold mtE at hE
    split at hE
    · rename_i h1
      split at hE
      · rename_i h2
        split at hE
        · rename_i h3; exact ⟨h1, h2, h3⟩
        · omega
      · omega
    · omega
  obtain ⟨hin, p1, q1⟩ := wIn_o hw ((k : Int) + 1) c b
  have hw1 : wIn p = true ∧ wIn q = true := by simpa using hw
  have HW := Lib.hid hw1
  have HH := Lib.hid hh
  have hlk := hin.lock
  have HTE := Lib.hid hT0
  have HIN := Lib.hid hin
  have HX1 := Lib.hid hx1
  have HX2 := Lib.hid hx2
  have HT := Lib.hid hT
  have HTI := Lib.hid (h.ok.trades hin)
  have hlf := mres_left h.ok hin
  rw [hT.2] at hlf
  have HLF := Lib.hid hlf
  have hok := h.ok.met ⟨(k : Int) + 1, c, b, p, q⟩
  rw [hL, hM] at hok
  have HOK := Lib.hid (hok.mono (Nat.le_succ k))
  have HLM := Lib.hid (And.intro hL hM)
  have hlen := h.ok.len
  have hTl := mres_len ⟨(k : Int) + 1, c, b, p, q⟩ L M
  rw [hT.1] at hTl
  obtain ⟨nT, hnT⟩ : ∃ m, T.length = m := ⟨_, rfl⟩
  rw [hnT] at hTl ⊢
  have HNT := Lib.hid hnT
  have HOO : Hid ((⟨(k : Int) + 1, c, b, p, q⟩ : Ord).Ok) := ordOk _ _ _ _ _ ⟨by omega, by omega⟩ hc ⟨hp.1, hp.2⟩ ⟨hq.1, hq.2⟩
  have B0 : Blk (wr.alloc (.cells #[.int .i64 0, .int .i64 0, .bool false, .int .u64 0, .int .u64 0] 73)) wr.heap.size 73 (oc Ord.zero) := Blk.new wr (oc Ord.zero) 73
  have c0 : Chg [] wr (wr.alloc (.cells #[.int .i64 0, .int .i64 0, .bool false, .int .u64 0, .int .u64 0] 73)) := (Chg.refl _ _).alloc _
  have h0 := h.to c0
  obtain ⟨l1, l2, l3, l4, l5⟩ := h.lt
  have HC := Lib.hid c0
  have x0 := h0.e.hd.at (i := 0) rfl
  have x2 := h0.e.hd.at (i := 2) rfl
  have wk : IntKind.i64.wrap ((k : Int) + 1) = (k : Int) + 1 := IntWalk.i64_in _ (by omega)
  clear h c0 hE hh hw hT0 hin hw1 hx1 hx2 hT hlf hok hL hM hnT
  go_enter Tryz.func195, Tryz.ntmps195
  go_wp2_with fail
  refine (has_is h0.a c true HH.out).mono ?_
  rintro e w3 ⟨rfl, rfl⟩
  go_wp2_with fail
  refine (within_is p true _ HW.out.1).mono ?_
  rintro e w3 ⟨rfl, rfl⟩
  go_wp2_with fail
  refine (within_is q true _ HW.out.2).mono ?_
  rintro e w3 ⟨rfl, rfl⟩
  obtain ⟨g, hgg⟩ : ∃ g, wr.heap.size = g := ⟨_, rfl⟩
  rw [hgg] at B0 l1 l2 l3 l4 l5 ⊢
  have HG := Lib.hid hgg
  clear hgg
  generalize wr.alloc _ = W at *
  have hbo : Blk (W.alloc (.cells #[.int .i64 ((k : Int) + 1), .int .i64 c, .bool b, .int .u64 p, .int .u64 q] 73)) W.heap.size 73 (oc ⟨(k : Int) + 1, c, b, p, q⟩) := Blk.new W (oc ⟨(k : Int) + 1, c, b, p, q⟩) 73
  have hc1 : Chg [] W (W.alloc (.cells #[.int .i64 ((k : Int) + 1), .int .i64 c, .bool b, .int .u64 p, .int .u64 q] 73)) := (Chg.refl _ _).alloc _
  have h1 := h0.to hc1
  have hgo : g < W.heap.size := B0.lt
  have B1 := B0.chg hc1 (by simp)
  have HC1 := Lib.hid (HC.out.trans hc1)
  obtain ⟨m1, m2, m3, m4, m5⟩ := h0.lt
  clear h0 B0 hc1 HC
  go_upto_region 6 with (fail)
  clear x0 x2
  generalize W.heap.size = go at *
  generalize W.alloc _ = W1 at *
  have y0 := hbo.at (i := 0) rfl
  have y1 := hbo.at (i := 1) rfl
  have y2 := hbo.at (i := 2) rfl
  have y3 := hbo.at (i := 3) rfl
  have y4 := hbo.at (i := 4) rfl
  go_wp2_with fail
  refine (locks_any ⟨(k : Int) + 1, c, b, p, q⟩ HIN.out W1).mono ?_
  rintro e w4 ⟨rfl, c4⟩
  have h2 := h1.to c4
  have B2 := B1.chg c4 (by simp)
  have hb2 := hbo.chg c4 (by simp)
  have HC2 := Lib.hid (HC1.out.trans c4)
  clear h1 B1 HC1 c4 y0 y1 y2 y3 y4 hbo
  have x0 := h2.e.hd.at (i := 0) rfl
  obtain ⟨lA, hlA⟩ : ∃ l, lockA ⟨(k : Int) + 1, c, b, p, q⟩ = l := ⟨_, rfl⟩
  obtain ⟨lN, hlN⟩ : ∃ l, lockN ⟨(k : Int) + 1, c, b, p, q⟩ = l := ⟨_, rfl⟩
  rw [hlA, hlN] at HTE HX1
  rw [hlN] at hlk
  rw [hlA, hlN]
  clear hlA hlN
  go_wp2_with fail
  refine (take_is h2.a c lA lN 0 xs1 ⟨by omega, by omega⟩ HTE.out HX1.out).mono ?_
  rintro e w5 ⟨rfl, ha5, c5⟩
  have h3 := h2.acct ha5 c5
  have B3 := B2.chg c5 (by simp; omega)
  have hb3 := hb2.chg c5 (by simp; omega)
  have HC3 : Hid (Chg [x, s] wr w5) := (HC2.out.mono (by simp)).trans (c5.mono (by simp))
  clear h2 B2 hb2 HC2 c5 x0 ha5
  have x2 := h3.e.hd.at (i := 2) rfl
  have fx2 := h3.e.hd.free 2
  have h4 := h3.last
  have c4 : Chg [x] w5 (w5.setCell ⟨x, 2, none⟩ (.int .i64 ((k : Int) + 1))) := (Chg.refl _ _).setCell _ _ (by simp)
  have B4 := B3.chg c4 (by simp; omega)
  have hb4 := hb3.chg c4 (by simp; omega)
  have HC4 : Hid (Chg [x, s] wr (w5.setCell ⟨x, 2, none⟩ (.int .i64 ((k : Int) + 1)))) := HC3.out.trans (c4.mono (by simp))
  clear h3 B3 hb3 HC3 c4
  go_upto_region 10 with (fail)
  clear x2 fx2
  generalize w5.setCell _ _ = W6 at *
  have x1 := h4.e.hd.at (i := 1) rfl
  have y0 := hb4.at (i := 0) rfl
  have y1 := hb4.at (i := 1) rfl
  have y2 := hb4.at (i := 2) rfl
  have y3 := hb4.at (i := 3) rfl
  have y4 := hb4.at (i := 4) rfl
  have hFg : g ∉ F := fun hm => by have := l5 _ hm; omega
  have hFo : go ∉ F := fun hm => by have := m5 _ hm; omega
  have hVl : go < W6.drew.heap.size := hb4.lt
  have hM := bMatch_is (h4.to (Chg.refl [] W6).drew).b ⟨(k : Int) + 1, c, b, p, q⟩ T lft L' M' ⟨HT.out.1, HT.out.2, HLM.out.1, HLM.out.2⟩ HOO.out (by omega) (by omega)
  rw [HNT.out] at hM
  have hxF := h4.ne.2.1
  refine meet_reg (by intro c a d v w h; cases d <;> exact h) hM (fun w' a d h => ⟨h.2.2.cell x1 hxF, h.2.2.cell y0 hFo, h.2.2.cell y1 hFo, h.2.2.cell y2 hFo, h.2.2.cell y3 hFo, h.2.2.cell y4 hFo⟩) x1 y0 y1 y2 y3 y4 ?_
  rintro w7 a7 d7 ⟨hN7, hB7, c7⟩
  intros
  clear hM
  -- neg
  have h5 := h4.to (Chg.refl [] W6).drew
  have B5 := B4.drew
  have hb5 := hb4.drew
  have HC5 := Lib.hid HC4.out.drew
  clear x1 y0 y1 y2 y3 y4 h4 B4 hb4 HC4
  generalize W6.drew = V at *
  have h7 := h5.book hB7 c7 (Grw.refl _ _) rfl HOK.out
  have B7 := B5.chg c7 hFg
  have hb7 := hb5.chg c7 hFo
  have HC7 : Hid (Chg (x :: s :: F) wr w7) := (HC5.out.mono (by simp +contextual)).trans (c7.mono (by simp +contextual))
  clear h5 B5 hb5 HC5 hB7 c7
  obtain ⟨n1, n2, n3, n4, n5⟩ := h7.ne
  have hsV : s < V.heap.size := by omega
  go_wp2_with fail
  go_loopw [82] (fun i wx => ∃ j : Nat, j ≤ nT ∧ i = .int .i64 j ∧ Acc wx ab s n ((T.take j).foldl (payL n ⟨(k : Int) + 1, c, b, p, q⟩) xs1) ∧ Chg [s] w7 wx) (fun i _ => nT - (intOf i).toNat)
  case atStart => exact ⟨0, by omega, rfl, h7.a, Chg.refl _ _⟩
  case round =>
    obtain ⟨j, hj, rfl, hA, hch⟩ := hrel
    by_cases hjt : j < nT
    · have hjl : j < T.length := by rw [HNT.out]; exact hjt
      obtain ⟨gt, rfl, hgt, -, tat⟩ := tr_at (hN7.chg hch (by simp; exact hsV)) hjl
      have hti := HTI.out (T.getD j Trd.zero) (by rw [HT.out.1]; simp [List.getD, hjl])
      have htk : (T.take (j + 1)).foldl (payL n ⟨(k : Int) + 1, c, b, p, q⟩) xs1 = payL n ⟨(k : Int) + 1, c, b, p, q⟩ ((T.take j).foldl (payL n ⟨(k : Int) + 1, c, b, p, q⟩) xs1) (T.getD j Trd.zero) := by
        rw [List.take_succ_eq_append_getElem hjl, List.foldl_append]
        simp [List.getD, hjl]
      generalize T.getD j Trd.zero = t at *
      obtain ⟨ys, hys⟩ : ∃ ys, (T.take j).foldl (payL n ⟨(k : Int) + 1, c, b, p, q⟩) xs1 = ys := ⟨_, rfl⟩
      rw [hys] at hA htk
      have HTK := Lib.hid htk
      have HTIN := Lib.hid hti
      obtain ⟨t0, t1, t2, t3, t4, t5⟩ := tat
      have j1 : (0 : Int) ≤ (j : Int) := by omega
      have j2 : (j : Int) < (nT : Int) := by omega
      have hX1 := (h7.e.chg hch (by simp; exact n1)).chg ((Chg.refl [] wr).alloc (.cells #[.int .i64 t.maker, .int .i64 t.taker, .int .i64 t.buyer, .int .i64 t.seller, .int .u64 t.price, .int .u64 t.qty] 99)) (by simp)
      have hb1 := (hb7.chg hch (by simp; omega)).alloc (.cells #[.int .i64 t.maker, .int .i64 t.taker, .int .i64 t.buyer, .int .i64 t.seller, .int .u64 t.price, .int .u64 t.qty] 99)
      have hA1 := hA.alloc (.cells #[.int .i64 t.maker, .int .i64 t.taker, .int .i64 t.buyer, .int .i64 t.seller, .int .u64 t.price, .int .u64 t.qty] 99)
      have hch1 := hch.alloc (.cells #[.int .i64 t.maker, .int .i64 t.taker, .int .i64 t.buyer, .int .i64 t.seller, .int .u64 t.price, .int .u64 t.qty] 99)
      have hbt : Blk (wr.alloc (.cells #[.int .i64 t.maker, .int .i64 t.taker, .int .i64 t.buyer, .int .i64 t.seller, .int .u64 t.price, .int .u64 t.qty] 99)) wr.heap.size 99 (tc t) := Blk.new wr (tc t) _
      clear htk hjl hys hA hch hti
      go_upto_region 14 with (fail)
      clear t0 t1 t2 t3 t4 t5
      generalize wr.heap.size = g9 at *
      generalize wr.alloc _ = W9 at *
      have y0 := hb1.at (i := 0) rfl
      have y1 := hb1.at (i := 1) rfl
      have y2 := hb1.at (i := 2) rfl
      have y3 := hb1.at (i := 3) rfl
      have y4 := hb1.at (i := 4) rfl
      have z0 := hbt.at (i := 0) rfl
      have z1 := hbt.at (i := 1) rfl
      have z2 := hbt.at (i := 2) rfl
      have z3 := hbt.at (i := 3) rfl
      have z4 := hbt.at (i := 4) rfl
      have z5 := hbt.at (i := 5) rfl
      go_wp2_with fail
      refine (pay_any hX1 hA1 n1 ⟨(k : Int) + 1, c, b, p, q⟩ t HIN.out HTIN.out).mono ?_
      rintro e w9 ⟨rfl, -, hA9, c9⟩
      rw [← HTK.out] at hA9
      have hch9 := hch1.trans c9
      clear hX1 hb1 hA1 hch1 hbt c9 y0 y1 y2 y3 y4 z0 z1 z2 z3 z4 z5
      go_wp2_with fail
      go_roundw
      case rel => exact ⟨j + 1, by omega, by go_num, hA9, hch9⟩
      case measure => simp [intOf]; omega
    · obtain rfl : j = nT := by omega
      have hA9 : Acc wr ab s n xs2 := by have := hA; rwa [List.take_of_length_le (by rw [HNT.out]; exact Nat.le_refl _), HX2.out] at this
      have h9 := h7.acct hA9 hch
      have hN9 := hN7.chg hch (by simp; exact hsV)
      have B9 := B7.chg hch (by simp; omega)
      have hb9 := hb7.chg hch (by simp; omega)
      have HC9 := Lib.hid (HC7.out.trans (hch.mono (by simp)))
      clear hA hA9 h7 hN7 B7 hb7 HC7 hch
      have v4 := hb9.at (i := 4) rfl
      have fv := hb9.free 4
      have c10 : Chg [go] wr (wr.setCell ⟨go, 4, none⟩ (.int .u64 lft)) := (Chg.refl _ _).setCell _ _ (by simp)
      have h10 := h9.fresh c10 ⟨by omega, by omega, by omega, hFo⟩ (by omega)
      have hN10 := hN9.chg c10 (by simp; exact hVl)
      have B10 := B9.chg c10 (by simp; omega)
      have hb10 : Blk (wr.setCell ⟨go, 4, none⟩ (.int .u64 lft)) go 73 (oc ⟨(k : Int) + 1, c, b, p, lft⟩) := hb9.set 4 _
      have HC10 : Hid (Chg (x :: s :: F) _ (wr.setCell ⟨go, 4, none⟩ (.int .u64 lft))) := HC9.out.setCell _ _ (.inr (by rw [HG.out]; show g ≤ go; omega))
      clear h9 hN9 B9 hb9 HC9 c10
      go_upto_region 17 with (fail)
      clear v4 fv
      generalize wr.setCell _ _ = W10 at *
      have y0 := hb10.at (i := 0) rfl
      have a0 := B10.at (i := 0) rfl
      have f0 := B10.free 0
      have y1 := hb10.at (i := 1) rfl
      have a1 := B10.at (i := 1) rfl
      have f1 := B10.free 1
      have y2 := hb10.at (i := 2) rfl
      have a2 := B10.at (i := 2) rfl
      have f2 := B10.free 2
      have y3 := hb10.at (i := 3) rfl
      have a3 := B10.at (i := 3) rfl
      have f3 := B10.free 3
      have y4 := hb10.at (i := 4) rfl
      have a4 := B10.at (i := 4) rfl
      have f4 := B10.free 4
      have hz := h10.fresh (sto_chg (Chg.refl [g] _) g 0 ⟨(k : Int) + 1, c, b, p, lft⟩ (by simp)) ⟨by omega, by omega, by omega, hFg⟩ (by omega)
      have hNz := (hN10.chg (sto_chg (Chg.refl [g] _) g 0 ⟨(k : Int) + 1, c, b, p, lft⟩ (by simp)) (by simp; omega)).mono (show g ≤ _ by omega)
      have hcz := sto_chg HC10.out g 0 ⟨(k : Int) + 1, c, b, p, lft⟩ (.inr (by rw [HG.out]; exact Nat.le_refl _))
      clear h10 hN10 HC10 hb10 B10
      go_wp2_with fail
      exact bodyPost_ret (v := .tuple #[ov ⟨(k : Int) + 1, c, b, p, lft⟩,   .slice a7 j d7, .int .i64 0]) (by simp [results, Tryz.results195, go_sem, a0, a1, a2, a3, a4]) rfl (by first | exact ⟨a7, d7, rfl, by rw [HG.out]; exact hNz, hz, hcz⟩ | exact ⟨a7, ⟨d7, rfl⟩, by rw [HG.out]; exact hNz, hz, hcz⟩)
end Go.Proofs.YteabcpmpcbjicaaGreat

namespace Go.Proofs.YteabcpmpcbjicaaGreat
set_option linter.unusedVariables false
open Go Go.Proofs Go.RowKit
attribute [local go_sem ↓] Go.wp_at_zero Go.wp_at_succ

/-- New, over accounts that were made since the world w. -/
theorem exNew {w wr : World} {ab s n : Nat} {xs : List Int} (ha : Acc wr ab s n xs) (c : Chg [] w wr) (l1 : w.heap.size ≤ ab) (l2 : w.heap.size ≤ s) :
    Calls Tryz.prog 72 #[.pointer (some ⟨ab, 0, none⟩)] wr fun e w' => ∃ x kb F, e = .returned (.pointer (some ⟨x, 0, none⟩)) ∧ Exc w w' x ab s kb n F xs [] [] 0 := by
  obtain ⟨m1, m2⟩ := ha.lt
  go_enter Tryz.func72, Tryz.ntmps72
  go_wp2_with fail
  refine (bNewS w wr c).mono ?_
  rintro e w1 ⟨kb, F, rfl, hB, c1, lo⟩
  have hb : Blk (w1.alloc (.cells #[.pointer (some ⟨ab, 0, none⟩), .pointer (some ⟨kb, 0, none⟩), .int .i64 0] 207)) w1.heap.size 207 [.pointer (some ⟨ab, 0, none⟩), .pointer (some ⟨kb, 0, none⟩), .int .i64 0] := Blk.new w1 _ _
  have hc : Chg [] w1 (w1.alloc (.cells #[.pointer (some ⟨ab, 0, none⟩), .pointer (some ⟨kb, 0, none⟩), .int .i64 0] 207)) := (Chg.refl _ _).alloc _
  have ha1 := (ha.chg c1 (by simp) (by simp)).chg hc (by simp) (by simp)
  have hB1 := hB.to hc
  have z1 := c1.size
  have z0 := c.size
  have hnew := hB.new
  clear ha hB hc
  go_wp2_with fail
  go_ret
  exact ⟨w1.heap.size, kb, F, rfl, ⟨⟨hb⟩, ha1, hB1, ⟨by omega, fun hm => by have := hnew _ hm; omega, fun hm => by have := lo _ hm; omega, fun hm => by have := lo _ hm; omega, by omega⟩, ⟨by omega, l1, l2⟩, EOk.start n⟩⟩
/-- Book. -/
theorem exBook {w wr : World} {x ab s kb n : Nat} {F : List Nat} {xs : List Int} {L M : List Ord} {k : Nat} (h : Exc w wr x ab s kb n F xs L M k) :
    Calls Tryz.prog 96 #[.pointer (some ⟨x, 0, none⟩)] wr fun e w' => e = .returned (.pointer (some ⟨kb, 0, none⟩)) ∧ wr = w' := by
  have x1 := h.e.hd.at (i := 1) rfl
  go_enter Tryz.func96, Tryz.ntmps96
  go_wp2_with fail
  go_ret
  exact ⟨rfl, rfl⟩

set_option maxRecDepth 100000 in
/-- Limit, of what is refused. -/
theorem limit_no {w wr : World} {x ab s kb n : Nat} {F : List Nat} {xs : List Int} {L M : List Ord} {k : Nat} (h : Exc w wr x ab s kb n F xs L M k) (hk : k < 1000000) (c : Int) (b : Bool) (p q : Int) (hp : U p) (hq : U q) (hc : I c) (e0 : Int) (hE : mtE n xs c b p q = e0) (hne : e0 ≠ 0) :
    Calls Tryz.prog 182 #[.pointer (some ⟨x, 0, none⟩), .int .i64 c, .bool b, .int .u64 p, .int .u64 q] wr fun e w' => e = .returned (.tuple #[.int .i64 0, .slice none 0 0, .int .i64 e0]) ∧ Exc w w' x ab s kb n F xs L M k ∧ Chg [s] wr w' := by
  have d1 : decide (e0 = 0) = false := by simp; exact hne
  have d2 : (e0 == 0) = false := by simp; exact hne
  have HE := Lib.hid hE
  have HNE := Lib.hid hne
  clear hE hne
  go_enter Tryz.func182, Tryz.ntmps182
  go_wp2_with fail
  refine (meet_no h hk c b p q hp hq hc e0 HE.out HNE.out).mono ?_
  rintro e w1 ⟨rfl, h1, c1⟩
  have h2 := h1.to ((Chg.refl [] w1).alloc (.cells #[.int .i64 0, .int .i64 0, .bool false, .int .u64 0, .int .u64 0] 73))
  have c2 := c1.alloc (.cells #[.int .i64 0, .int .i64 0, .bool false, .int .u64 0, .int .u64 0] 73)
  have B : Blk (w1.alloc (.cells #[.int .i64 0, .int .i64 0, .bool false, .int .u64 0, .int .u64 0] 73)) w1.heap.size 73 (oc Ord.zero) := Blk.new w1 (oc Ord.zero) 73
  have y0 := B.at (i := 0) rfl
  clear h h1 c1 B
  go_upto_region 2 with (fail)
  generalize w1.heap.size = g at *
  generalize w1.alloc _ = W at *
  go_wp2_with fail
  go_ret3
  exact ⟨rfl, h2, c2⟩

set_option maxRecDepth 100000 in
/-- Now, of what is refused. -/
theorem now_no {w wr : World} {x ab s kb n : Nat} {F : List Nat} {xs : List Int} {L M : List Ord} {k : Nat} (h : Exc w wr x ab s kb n F xs L M k) (hk : k < 1000000) (c : Int) (b : Bool) (p q : Int) (hp : U p) (hq : U q) (hc : I c) (e0 : Int) (hE : mtE n xs c b p q = e0) (hne : e0 ≠ 0) :
    Calls Tryz.prog 184 #[.pointer (some ⟨x, 0, none⟩), .int .i64 c, .bool b, .int .u64 p, .int .u64 q] wr fun e w' => e = .returned (.tuple #[.slice none 0 0, .int .i64 e0]) ∧ Exc w w' x ab s kb n F xs L M k ∧ Chg [s] wr w' := by
  have d1 : decide (e0 = 0) = false := by simp; exact hne
  have d2 : (e0 == 0) = false := by simp; exact hne
  have HE := Lib.hid hE
  have HNE := Lib.hid hne
  clear hE hne
  go_enter Tryz.func184, Tryz.ntmps184
  go_wp2_with fail
  refine (meet_no h hk c b p q hp hq hc e0 HE.out HNE.out).mono ?_
  rintro e w1 ⟨rfl, h1, c1⟩
  have h2 := h1.to ((Chg.refl [] w1).alloc (.cells #[.int .i64 0, .int .i64 0, .bool false, .int .u64 0, .int .u64 0] 73))
  have c2 := c1.alloc (.cells #[.int .i64 0, .int .i64 0, .bool false, .int .u64 0, .int .u64 0] 73)
  have B : Blk (w1.alloc (.cells #[.int .i64 0, .int .i64 0, .bool false, .int .u64 0, .int .u64 0] 73)) w1.heap.size 73 (oc Ord.zero) := Blk.new w1 (oc Ord.zero) 73
  have y0 := B.at (i := 0) rfl
  clear h h1 c1 B
  go_upto_region 2 with (fail)
  generalize w1.heap.size = g at *
  generalize w1.alloc _ = W at *
  go_wp2_with fail
  go_ret2
  exact ⟨rfl, h2, c2⟩

set_option maxRecDepth 100000 in
/-- Limit, of what is taken. -/
theorem limit_yes {w wr : World} {x ab s kb n : Nat} {F : List Nat} {xs : List Int} {L M : List Ord} {k : Nat} (h : Exc w wr x ab s kb n F xs L M k) (hk : k < 1000000) (c : Int) (b : Bool) (p q : Int) (hp : U p) (hq : U q) (hc : I c) (hE : mtE n xs c b p q = 0)
    (xs1 xs2 : List Int) (T : List Trd) (lft : Int) (L' M' : List Ord) (hx1 : aTake n xs c (lockA ⟨(k : Int) + 1, c, b, p, q⟩) (lockN ⟨(k : Int) + 1, c, b, p, q⟩) = xs1) (hT : (mres ⟨(k : Int) + 1, c, b, p, q⟩ L M).1 = T ∧ (mres ⟨(k : Int) + 1, c, b, p, q⟩ L M).2.1 = lft) (hx2 : T.foldl (payL n ⟨(k : Int) + 1, c, b, p, q⟩) xs1 = xs2)
    (hL : mL ⟨(k : Int) + 1, c, b, p, q⟩ L M = L') (hM : mM ⟨(k : Int) + 1, c, b, p, q⟩ L M = M') :
    Calls Tryz.prog 182 #[.pointer (some ⟨x, 0, none⟩), .int .i64 c, .bool b, .int .u64 p, .int .u64 q] wr fun e w' => ∃ a cap, e = .returned (.tuple #[.int .i64 ((k : Int) + 1), .slice a T.length cap, .int .i64 0]) ∧ NewF tc w' wr.heap.size 99 a T ∧ ∃ F', Exc w w' x ab s kb n F' xs2 (restL ⟨(k : Int) + 1, c, b, p, lft⟩ L') (restM ⟨(k : Int) + 1, c, b, p, lft⟩ M') (k + 1) ∧ Chg (x :: s :: F) wr w' ∧ Grw wr.heap.size F F' ∧ ∀ gt, a = some ⟨gt, 0, none⟩ → T ≠ [] → gt ∉ F' := by
  have hlf := hT.2 ▸ mres_left h.ok (o := ⟨(k : Int) + 1, c, b, p, q⟩)
  obtain ⟨hh, hw⟩ : aHas n c = true ∧ (wIn p && wIn q) = true := by
    unfold mtE at hE
    split at hE
    · rename_i h1
      split at hE
      · rename_i h2; exact ⟨h1, h2⟩
      · omega
    · omega
  obtain ⟨hin, p1, q1⟩ := wIn_o hw ((k : Int) + 1) c b
  have hlf2 := hlf hin
  obtain ⟨v1, v2⟩ := hlf2
  have HIN2 : Hid (OIn ⟨(k : Int) + 1, c, b, p, lft⟩) := hin.lt lft ⟨v1, v2⟩
  have HHAS := Lib.hid hh
  have hqq := hin.q
  have HOO : Hid ((⟨(k : Int) + 1, c, b, p, lft⟩ : Ord).Ok) := ordOk _ _ _ _ _ ⟨by omega, by omega⟩ hc ⟨hp.1, hp.2⟩ ⟨v1, by dsimp only at v2 hqq; omega⟩
  have HFR : Hid ((∀ y ∈ L', y.id ≠ (k : Int) + 1) ∧ (∀ y ∈ M', y.id ≠ (k : Int) + 1)) := by
    have := (h.ok.fr.mch ⟨(k : Int) + 1, c, b, p, q⟩).new (i := (k : Int) + 1) (by omega)
    rwa [hL, hM] at this
  have hlen : L'.length + M'.length ≤ k := by
    have := (h.ok.met ⟨(k : Int) + 1, c, b, p, q⟩).len
    rwa [hL, hM] at this
  have HOKK := Lib.hid (h.ok.met ⟨(k : Int) + 1, c, b, p, q⟩)
  have HFB : Hid (∀ z ∈ F, z < wr.heap.size) := h.b.new
  have HEE := Lib.hid hE
  have HX1 := Lib.hid hx1
  have HX2 := Lib.hid hx2
  have HT := Lib.hid hT
  have HL := Lib.hid hL
  have HM := Lib.hid hM
  obtain ⟨nT, hnT⟩ : ∃ m, T.length = m := ⟨_, rfl⟩
  rw [hnT]
  have HNT := Lib.hid hnT
  obtain ⟨l1, l2, l3, l4, l5⟩ := h.lt
  clear hlf hh hw hin hqq hnT hE hx1 hx2 hT hL hM v2
  go_enter Tryz.func182, Tryz.ntmps182
  go_wp2_with fail
  refine (meet_yes h hk c b p q hp hq hc HEE.out xs1 xs2 T lft L' M' HX1.out HT.out HX2.out HL.out HM.out).mono ?_
  rw [HNT.out]
  rintro e w1 ⟨a1, d1, rfl, hN1, h1, c1⟩
  have h2 := h1.to ((Chg.refl [] w1).alloc (.cells #[.int .i64 ((k : Int) + 1), .int .i64 c, .bool b, .int .u64 p, .int .u64 lft] 73))
  have c2 := c1.alloc (.cells #[.int .i64 ((k : Int) + 1), .int .i64 c, .bool b, .int .u64 p, .int .u64 lft] 73)
  have hN2 := hN1.chg0 ((Chg.refl [] w1).alloc (.cells #[.int .i64 ((k : Int) + 1), .int .i64 c, .bool b, .int .u64 p, .int .u64 lft] 73))
  have B : Blk (w1.alloc (.cells #[.int .i64 ((k : Int) + 1), .int .i64 c, .bool b, .int .u64 p, .int .u64 lft] 73)) w1.heap.size 73 (oc ⟨(k : Int) + 1, c, b, p, lft⟩) := Blk.new w1 (oc ⟨(k : Int) + 1, c, b, p, lft⟩) 73
  have hgF : w1.heap.size ∉ F := fun hm => by have := h1.b.new _ hm; omega
  have hz1 := c1.size
  have y0 := B.at (i := 0) rfl
  have y1 := B.at (i := 1) rfl
  have y2 := B.at (i := 2) rfl
  have y3 := B.at (i := 3) rfl
  have y4 := B.at (i := 4) rfl
  clear h h1 c1 hN1
  go_upto_region 3 with (fail)
  generalize w1.heap.size = g at *
  generalize w1.alloc _ = W at *
  have x1 := h2.e.hd.at (i := 1) rfl
  go_still_tail 5, (by kernel_rfl)
  change wpList _ _ _ _ _ W.drew
  have h3 := h2.to (Chg.refl [] W).drew
  have hN3 := hN2.chg0 (Chg.refl [] W).drew
  have B3 := B.drew
  have c3 := Lib.hid c2.drew
  clear x1 y0 y1 y2 y3 y4 h2 hN2 B c2
  generalize W.drew = V at *
  go_wp2_with fail
  refine (bRest_is h3.b ⟨(k : Int) + 1, c, b, p, lft⟩ _ _ rfl HOO.out HFR.out.1 HFR.out.2 (by omega) (by omega)).mono ?_
  rintro e w4 ⟨rfl, F', hB4, c4, g4⟩
  have hlV := h3.lt.2.2.2.1
  have hok : EOk n (restL ⟨(k : Int) + 1, c, b, p, lft⟩ L') (restM ⟨(k : Int) + 1, c, b, p, lft⟩ M') (k + 1) := by
    have h8 := (HL.out ▸ HM.out ▸ HOKK.out : EOk n L' M' k)
    exact h8.rest rfl HIN2.out HHAS.out
  have h5 := h3.book hB4 c4 g4 rfl hok
  have hN5 := hN3.chg c4 HFB.out
  have y0 := (B3.chg c4 hgF).at (i := 0) rfl
  have hc5 : Chg (x :: s :: F) wr w4 := c3.out.trans (c4.mono (by simp +contextual))
  have hg5 : Grw wr.heap.size F F' := fun z hz => (g4 z hz).imp (fun e => e) fun e => Nat.le_trans c3.out.size e
  have hnF : ∀ gt, a1 = some ⟨gt, 0, none⟩ → T ≠ [] → gt ∉ F' := by
    intro gt e hT hm
    rcases hN3 with rfl | ⟨g2, e2, l2, hb2⟩
    · exact hT rfl
    · rw [e] at e2
      obtain rfl : gt = g2 := by simpa using e2
      rcases g4 _ hm with h8 | h8
      · have := HFB.out _ h8; omega
      · have := Beg.lt hb2; omega
  have HNF := Lib.hid hnF
  clear h3 hN3 B3 c3 hB4 c4 g4 hok hnF
  go_wp2_with fail
  go_ret3
  first | exact ⟨a1, d1, rfl, hN5, F', h5, hc5, hg5, HNF.out⟩ | exact ⟨a1, ⟨d1, rfl⟩, hN5, F', h5, hc5, hg5, HNF.out⟩

set_option maxRecDepth 100000 in
/-- Now, of what is taken. -/
theorem now_yes {w wr : World} {x ab s kb n : Nat} {F : List Nat} {xs : List Int} {L M : List Ord} {k : Nat} (h : Exc w wr x ab s kb n F xs L M k) (hk : k < 1000000) (c : Int) (b : Bool) (p q : Int) (hp : U p) (hq : U q) (hc : I c) (hE : mtE n xs c b p q = 0)
    (xs1 xs2 : List Int) (T : List Trd) (lft : Int) (L' M' : List Ord) (hx1 : aTake n xs c (lockA ⟨(k : Int) + 1, c, b, p, q⟩) (lockN ⟨(k : Int) + 1, c, b, p, q⟩) = xs1) (hT : (mres ⟨(k : Int) + 1, c, b, p, q⟩ L M).1 = T ∧ (mres ⟨(k : Int) + 1, c, b, p, q⟩ L M).2.1 = lft) (hx2 : T.foldl (payL n ⟨(k : Int) + 1, c, b, p, q⟩) xs1 = xs2)
    (hL : mL ⟨(k : Int) + 1, c, b, p, q⟩ L M = L') (hM : mM ⟨(k : Int) + 1, c, b, p, q⟩ L M = M') :
    Calls Tryz.prog 184 #[.pointer (some ⟨x, 0, none⟩), .int .i64 c, .bool b, .int .u64 p, .int .u64 q] wr fun e w' => ∃ a cap, e = .returned (.tuple #[.slice a T.length cap, .int .i64 0]) ∧ NewF tc w' wr.heap.size 99 a T ∧ Exc w w' x ab s kb n F (aPut n xs2 c (lockA ⟨(k : Int) + 1, c, b, p, lft⟩) (lockN ⟨(k : Int) + 1, c, b, p, lft⟩)) L' M' (k + 1) ∧ Chg (x :: s :: F) wr w' := by
  have hlf := hT.2 ▸ mres_left h.ok (o := ⟨(k : Int) + 1, c, b, p, q⟩)
  obtain ⟨hh, hw⟩ : aHas n c = true ∧ (wIn p && wIn q) = true := by
    unfold mtE at hE
    split at hE
    · rename_i h1
      split at hE
      · rename_i h2; exact ⟨h1, h2⟩
      · omega
    · omega
  obtain ⟨hin, p1, q1⟩ := wIn_o hw ((k : Int) + 1) c b
  have hlf2 := hlf hin
  obtain ⟨v1, v2⟩ := hlf2
  have HIN2 : Hid (OIn ⟨(k : Int) + 1, c, b, p, lft⟩) := hin.lt lft ⟨v1, v2⟩
  have HHAS := Lib.hid hh
  have hqq := hin.q
  have HOO : Hid ((⟨(k : Int) + 1, c, b, p, lft⟩ : Ord).Ok) := ordOk _ _ _ _ _ ⟨by omega, by omega⟩ hc ⟨hp.1, hp.2⟩ ⟨v1, by dsimp only at v2 hqq; omega⟩
  have HFR : Hid ((∀ y ∈ L', y.id ≠ (k : Int) + 1) ∧ (∀ y ∈ M', y.id ≠ (k : Int) + 1)) := by
    have := (h.ok.fr.mch ⟨(k : Int) + 1, c, b, p, q⟩).new (i := (k : Int) + 1) (by omega)
    rwa [hL, hM] at this
  have hlen : L'.length + M'.length ≤ k := by
    have := (h.ok.met ⟨(k : Int) + 1, c, b, p, q⟩).len
    rwa [hL, hM] at this
  have HEE := Lib.hid hE
  have HX1 := Lib.hid hx1
  have HX2 := Lib.hid hx2
  have HT := Lib.hid hT
  have HL := Lib.hid hL
  have HM := Lib.hid hM
  obtain ⟨nT, hnT⟩ : ∃ m, T.length = m := ⟨_, rfl⟩
  rw [hnT]
  have HNT := Lib.hid hnT
  obtain ⟨l1, l2, l3, l4, l5⟩ := h.lt
  clear hlf hh hw hin hqq hnT hE hx1 hx2 hT hL hM v2
  go_enter Tryz.func184, Tryz.ntmps184
  go_wp2_with fail
  refine (meet_yes h hk c b p q hp hq hc HEE.out xs1 xs2 T lft L' M' HX1.out HT.out HX2.out HL.out HM.out).mono ?_
  rw [HNT.out]
  rintro e w1 ⟨a1, d1, rfl, hN1, h1, c1⟩
  have h2 := h1.to ((Chg.refl [] w1).alloc (.cells #[.int .i64 ((k : Int) + 1), .int .i64 c, .bool b, .int .u64 p, .int .u64 lft] 73))
  have c2 := c1.alloc (.cells #[.int .i64 ((k : Int) + 1), .int .i64 c, .bool b, .int .u64 p, .int .u64 lft] 73)
  have hN2 := hN1.chg0 ((Chg.refl [] w1).alloc (.cells #[.int .i64 ((k : Int) + 1), .int .i64 c, .bool b, .int .u64 p, .int .u64 lft] 73))
  have B : Blk (w1.alloc (.cells #[.int .i64 ((k : Int) + 1), .int .i64 c, .bool b, .int .u64 p, .int .u64 lft] 73)) w1.heap.size 73 (oc ⟨(k : Int) + 1, c, b, p, lft⟩) := Blk.new w1 (oc ⟨(k : Int) + 1, c, b, p, lft⟩) 73
  have hgF : w1.heap.size ∉ F := fun hm => by have := h1.b.new _ hm; omega
  have hz1 := c1.size
  have y0 := B.at (i := 0) rfl
  have y1 := B.at (i := 1) rfl
  have y2 := B.at (i := 2) rfl
  have y3 := B.at (i := 3) rfl
  have y4 := B.at (i := 4) rfl
  clear h h1 c1 hN1
  go_upto_region 3 with (fail)
  generalize w1.heap.size = g at *
  generalize w1.alloc _ = W at *
  go_wp2_with fail
  refine (exfree_any h2.e h2.a h2.ne.1 ⟨(k : Int) + 1, c, b, p, lft⟩ HIN2.out).mono ?_
  rintro e w4 ⟨rfl, -, hA4, c4⟩
  have h5 := h2.acct hA4 c4
  have hN5 := hN2.chg c4 (by simp; omega)
  have hc5 : Chg (x :: s :: F) wr w4 := c2.trans (c4.mono (by simp))
  clear h2 hN2 B c2 y0 y1 y2 y3 y4 hA4 c4
  go_wp2_with fail
  go_ret2
  first | exact ⟨a1, d1, rfl, hN5, h5, hc5⟩ | exact ⟨a1, ⟨d1, rfl⟩, hN5, h5, hc5⟩

set_option maxRecDepth 100000 in
/-- Cancel, of what can not be. -/
theorem cancel_no {w wr : World} {x ab s kb n : Nat} {F : List Nat} {xs : List Int} {L M : List Ord} {k : Nat} (h : Exc w wr x ab s kb n F xs L M k) (hk : k ≤ 1000000) (i : Int) (o : Ord) (ok : Bool) (hP : pickB i L M = (o, ok)) (c : Int) (hne : ok = false ∨ o.client ≠ c) :
    Calls Tryz.prog 185 #[.pointer (some ⟨x, 0, none⟩), .int .i64 c, .int .i64 i] wr fun e w' => e = .returned (.int .i64 7) ∧ Exc w w' x ab s kb n F xs L M k ∧ Chg [] wr w' := by
  have HNE := Lib.hid hne
  clear hne
  have HP := Lib.hid hP
  have hlen := h.ok.len
  clear hP
  go_enter Tryz.func185, Tryz.ntmps185
  have x1 := h.e.hd.at (i := 1) rfl
  go_wp2_with fail
  refine (bFind_is h.b.bk i o ok HP.out).mono ?_
  rintro e w1 ⟨rfl, c1⟩
  have h1 := h.to c1
  have h2 := h1.to ((Chg.refl [] w1).alloc (.cells #[.int .i64 o.id, .int .i64 o.client, .bool o.buy, .int .u64 o.price, .int .u64 o.qty] 73))
  have c2 := c1.alloc (.cells #[.int .i64 o.id, .int .i64 o.client, .bool o.buy, .int .u64 o.price, .int .u64 o.qty] 73)
  have B : Blk (w1.alloc (.cells #[.int .i64 o.id, .int .i64 o.client, .bool o.buy, .int .u64 o.price, .int .u64 o.qty] 73)) w1.heap.size 73 (oc o) := Blk.new w1 (oc o) 73
  have hgF : w1.heap.size ∉ F := fun hm => by have := h1.b.new _ hm; omega
  have y0 := B.at (i := 0) rfl
  have y1 := B.at (i := 1) rfl
  have y2 := B.at (i := 2) rfl
  have y3 := B.at (i := 3) rfl
  have y4 := B.at (i := 4) rfl
  have hz1 := c1.size
  clear h h1 c1 x1
  go_upto_region 2 with (fail)
  generalize w1.heap.size = g at *
  generalize w1.alloc _ = W at *
  cases ok
  · go_wp2_with fail
    go_ret
    exact ⟨rfl, h2, c2⟩
  · have hnc : o.client ≠ c := HNE.out.resolve_left (by simp)
    have d1 : (o.client != c) = true := by simp; exact hnc
    have d2 : decide (o.client = c) = false := by simp; exact hnc
    clear hnc
    go_wp2_with fail
    go_ret
    exact ⟨rfl, h2, c2⟩

set_option maxRecDepth 100000 in
/-- Cancel, of what stands. -/
theorem cancel_yes {w wr : World} {x ab s kb n : Nat} {F : List Nat} {xs : List Int} {L M : List Ord} {k : Nat} (h : Exc w wr x ab s kb n F xs L M k) (hk : k ≤ 1000000) (i : Int) (o : Ord) (hP : pickB i L M = (o, true)) (c : Int) (hcc : o.client = c) :
    Calls Tryz.prog 185 #[.pointer (some ⟨x, 0, none⟩), .int .i64 c, .int .i64 i] wr fun e w' => e = .returned (.int .i64 0) ∧ Exc w w' x ab s kb n F (aPut n xs c (lockA o) (lockN o)) (sans i L) (remM i L M) k ∧ Chg (s :: F) wr w' := by
  have hin : OIn o := by
    have hm : o ∈ L ++ M := by
      unfold pickB at hP
      rcases pickQ_spec i L with ⟨e1, e2, -⟩ | ⟨e1, e2⟩
      · rw [if_pos e1] at hP; rw [hP] at e2; simp [e2]
      · rw [e1] at hP; simp at hP
        rcases pickQ_spec i M with ⟨e3, e4, -⟩ | ⟨e3, e4⟩
        · rw [hP] at e4; simp [e4]
        · rw [hP] at e3; simp at e3
    exact (h.ok.oin o hm).1
  have HIN := Lib.hid hin
  have hrok := h.ok.remove i
  have HRK := Lib.hid hrok
  subst hcc
  clear hin hrok
  have HP := Lib.hid hP
  have hlen := h.ok.len
  clear hP
  go_enter Tryz.func185, Tryz.ntmps185
  have x1 := h.e.hd.at (i := 1) rfl
  go_wp2_with fail
  refine (bFind_is h.b.bk i o true HP.out).mono ?_
  rintro e w1 ⟨rfl, c1⟩
  have h1 := h.to c1
  have h2 := h1.to ((Chg.refl [] w1).alloc (.cells #[.int .i64 o.id, .int .i64 o.client, .bool o.buy, .int .u64 o.price, .int .u64 o.qty] 73))
  have c2 := c1.alloc (.cells #[.int .i64 o.id, .int .i64 o.client, .bool o.buy, .int .u64 o.price, .int .u64 o.qty] 73)
  have B : Blk (w1.alloc (.cells #[.int .i64 o.id, .int .i64 o.client, .bool o.buy, .int .u64 o.price, .int .u64 o.qty] 73)) w1.heap.size 73 (oc o) := Blk.new w1 (oc o) 73
  have hgF : w1.heap.size ∉ F := fun hm => by have := h1.b.new _ hm; omega
  have y0 := B.at (i := 0) rfl
  have y1 := B.at (i := 1) rfl
  have y2 := B.at (i := 2) rfl
  have y3 := B.at (i := 3) rfl
  have y4 := B.at (i := 4) rfl
  have hz1 := c1.size
  clear h h1 c1 x1
  go_upto_region 2 with (fail)
  generalize w1.heap.size = g at *
  generalize w1.alloc _ = W at *
  have d1 : (o.client != o.client) = false := by simp
  have x1 := h2.e.hd.at (i := 1) rfl
  go_wp2_with fail
  refine (bRemove_is h2.b i o true _ _ (by rw [HP.out]) (by omega) (by omega)).mono ?_
  rintro e w4 ⟨rfl, hB4, c4⟩
  have h4 := h2.book hB4 c4 (Grw.refl _ _) rfl HRK.out
  have B4 := B.chg c4 hgF
  have hc4 := Lib.hid ((c2.mono (R := s :: F) (by simp)).trans (c4.mono (by simp +contextual)))
  clear h2 hB4 B c2 c4 x1 y0 y1 y2 y3 y4
  have y0 := B4.at (i := 0) rfl
  have y1 := B4.at (i := 1) rfl
  have y2 := B4.at (i := 2) rfl
  have y3 := B4.at (i := 3) rfl
  have y4 := B4.at (i := 4) rfl
  go_wp2_with fail
  refine (exfree_any h4.e h4.a h4.ne.1 o HIN.out).mono ?_
  rintro e w5 ⟨rfl, -, hA5, c5⟩
  have h5 := h4.acct hA5 c5
  have hc5 : Chg (s :: F) wr w5 := hc4.out.trans (c5.mono (by simp))
  clear h4 B4 hc4 hA5 c5 y0 y1 y2 y3 y4
  go_wp2_with fail
  go_ret
  exact ⟨rfl, h5, hc5⟩
end Go.Proofs.YteabcpmpcbjicaaGreat
