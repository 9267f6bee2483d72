
import Derived.Test.YteabcpmpcbjicaaEx5
namespace Go.Proofs.Yteabcpmpcbjicaa
set_option linter.unusedVariables false
set_option linter.unusedSimpArgs false
open Go Go.Proofs Go.RowKit

/-! Four clients: what is free, of each asset. -/
def col4 (a : Int) (xs : List Int) : Int := aGet xs 0 a + aGet xs 1 a + aGet xs 2 a + aGet xs 3 a
theorem aGet_set {xs : List Int} {i : Nat} {v : Int} (hi : i < xs.length) (c a : Int) : aGet (xs.set i v) c a = if aAt c a = i then v else aGet xs c a := by
  unfold aGet
  by_cases h : aAt c a = i
  · rw [if_pos h, h]; simp [List.getD, hi]
  · rw [if_neg h]; simp [List.getD, List.getElem?_set, Ne.symm h]
theorem col4_set {xs : List Int} (hl : xs.length = 8) {c b : Int} (hc : aHas 4 c = true) (hb : aAsset b = true) (v : Int) (a : Int) (ha : aAsset a = true) : col4 a (xs.set (aAt c b) v) = col4 a xs + (if a = b then v - aGet xs c b else 0) := by
  obtain ⟨k, rfl, hk⟩ := aHas_nat hc
  obtain ⟨j, rfl, hj⟩ := aAsset_nat hb
  obtain ⟨i, rfl, hi⟩ := aAsset_nat ha
  have h1 : aAt (k : Int) (j : Int) < xs.length := by unfold aAt; omega
  unfold col4
  rw [aGet_set h1, aGet_set h1, aGet_set h1, aGet_set h1]
  rcases (by omega : k = 0 ∨ k = 1 ∨ k = 2 ∨ k = 3) with rfl | rfl | rfl | rfl <;> rcases (by omega : j = 0 ∨ j = 1) with rfl | rfl <;> rcases (by omega : i = 0 ∨ i = 1) with rfl | rfl <;> simp [aAt] <;> omega
theorem aErr_ok {n : Nat} {c a : Int} (hc : aHas n c = true) (ha : aAsset a = true) : aErr n c a = 0 := by unfold aErr; rw [if_pos hc, if_pos ha]
theorem col4_put {xs : List Int} (hl : xs.length = 8) {c b v : Int} (hc : aHas 4 c = true) (hb : aAsset b = true) (hv : aGet xs c b + v < 18446744073709551616) (a : Int) (ha : aAsset a = true) : col4 a (aPut 4 xs c b v) = col4 a xs + (if a = b then v else 0) ∧ (aPut 4 xs c b v).length = 8 := by
  have e : aPutE 4 xs c b v = 0 := by unfold aPutE; rw [if_pos (aErr_ok hc hb)]; unfold cAddB; rw [if_pos (by simp; exact hv)]
  unfold aPut
  rw [if_pos e]
  refine ⟨?_, by simp [hl]⟩
  rw [col4_set hl hc hb _ a ha]
  unfold cAddN
  rw [if_pos hv]
  split <;> omega
theorem col4_take {xs : List Int} (hl : xs.length = 8) {c b v : Int} (hc : aHas 4 c = true) (hb : aAsset b = true) (hE : aTakeE 4 xs c b v = 0) (a : Int) (ha : aAsset a = true) : col4 a (aTake 4 xs c b v) = col4 a xs - (if a = b then v else 0) ∧ (aTake 4 xs c b v).length = 8 := by
  have hv : v ≤ aGet xs c b := by
    unfold aTakeE at hE
    rw [if_pos (aErr_ok hc hb)] at hE
    split at hE
    · rename_i h; exact of_decide_eq_true h
    · omega
  unfold aTake
  rw [if_pos hE]
  refine ⟨?_, by simp [hl]⟩
  rw [col4_set hl hc hb _ a ha]
  unfold cSubN
  rw [if_pos hv]
  split <;> omega
theorem col4_get {xs : List Int} (h : AOk 4 xs) {c a : Int} (hc : aHas 4 c = true) (ha : aAsset a = true) : 0 ≤ aGet xs c a ∧ aGet xs c a ≤ col4 a xs := by
  obtain ⟨k, rfl, hk⟩ := aHas_nat hc
  have h0 := (h.get 0 a).1
  have h1 := (h.get 1 a).1
  have h2 := (h.get 2 a).1
  have h3 := (h.get 3 a).1
  unfold col4
  rcases (by omega : k = 0 ∨ k = 1 ∨ k = 2 ∨ k = 3) with rfl | rfl | rfl | rfl
  · exact ⟨h0, by show aGet xs 0 a ≤ _; omega⟩
  · exact ⟨h1, by show aGet xs 1 a ≤ _; omega⟩
  · exact ⟨h2, by show aGet xs 2 a ≤ _; omega⟩
  · exact ⟨h3, by show aGet xs 3 a ≤ _; omega⟩
/-- What stands locks, of an asset. -/
def lks (a : Int) (Q : List Ord) : Int := isum (Q.map fun o => if lockA o = a then lockN o else 0)
theorem lkd_four {a : Int} {Q : List Ord} (h : ∀ o ∈ Q, aHas 4 o.client = true) : lkd 0 a Q + lkd 1 a Q + lkd 2 a Q + lkd 3 a Q = lks a Q := by
  induction Q with
  | nil => simp [lkd, lks, isum]
  | cons o Q ih =>
    have ih := ih fun y hy => h y (by simp [hy])
    obtain ⟨k, hk, hk4⟩ := aHas_nat (h o (by simp))
    simp only [lkd, lks, List.map_cons, isum] at ih ⊢
    have e : ∀ c, lk1 c a o = if o.client = c ∧ lockA o = a then lockN o else 0 := fun _ => rfl
    rw [e 0, e 1, e 2, e 3, hk]
    rcases (by omega : k = 0 ∨ k = 1 ∨ k = 2 ∨ k = 3) with rfl | rfl | rfl | rfl <;> simp <;> split <;> omega
theorem lks_perm {a : Int} {Q R : List Ord} (h : Q.Perm R) : lks a Q = lks a R := by
  induction h with
  | nil => rfl
  | cons x _ ih => simp [lks, isum] at ih ⊢; omega
  | swap x y l => simp [lks, isum]; omega
  | trans _ _ h1 h2 => exact h1.trans h2
theorem lks_append (a : Int) (Q R : List Ord) : lks a (Q ++ R) = lks a Q + lks a R := by simp [lks, isum_append]
theorem lks_nonneg {a : Int} {Q : List Ord} (h : ∀ o ∈ Q, OIn o) : 0 ≤ lks a Q := by
  apply isum_nonneg
  intro x hx
  obtain ⟨o, ho, rfl⟩ := List.mem_map.1 hx
  have := (h o ho).lock
  split <;> omega
/-- What trades of one order come to: of the other side's locks. -/
def tsum (T : List Trd) : Int := isum (T.map Trd.qty)
def tval (T : List Trd) : Int := isum (T.map fun t => t.price * t.qty)
theorem lks_mch {o : Ord} {b : Bool} {Q : List Ord} (hQ : ∀ x ∈ Q, x.buy = b) : ∀ q, lks 0 Q = lks 0 (mch o q Q).2.2 + (if b = true then 0 else tsum (mch o q Q).1) ∧ lks 1 Q = lks 1 (mch o q Q).2.2 + (if b = true then tval (mch o q Q).1 else 0) := by
  induction Q with
  | nil => intro q; simp [mch, lks, isum, tsum, tval]
  | cons x Q ih =>
    intro q
    have ih := ih fun y hy => hQ y (by simp [hy])
    have hx := hQ x (by simp)
    have tq : ∀ m, (trd o x m).qty = m := fun m => by unfold trd; split <;> rfl
    have tp : ∀ m, (trd o x m).price = x.price := fun m => by unfold trd; split <;> rfl
    by_cases h : 0 < q ∧ meet o x = true
    · by_cases k : q < x.qty
      · rw [mch_part h.1 h.2 k]
        simp only [lks, List.map_cons, isum, tsum, tval, List.map_nil, tq, tp]
        unfold lockA lockN
        cases b <;> simp [hx] <;> first | omega | (rw [Int.mul_sub]; omega)
      · rw [mch_all h.1 h.2 (by omega)]
        have := ih (q - x.qty)
        simp only [lks, List.map_cons, isum, tsum, tval, tq, tp] at this ⊢
        unfold lockA lockN at this ⊢
        cases b <;> simp [hx] at this ⊢ <;> omega
    · rw [mch_no h]; simp [tsum, tval, isum]

/-- Trades of an order, all of clients that are there. -/
def TCl (T : List Trd) : Prop := ∀ t ∈ T, aHas 4 t.buyer = true ∧ aHas 4 t.seller = true
theorem pay_buy {o : Ord} {xs : List Int} {t : Trd} (h : AOk 4 xs) (hb : o.buy = true) (ho : OIn o) (ht : TIn o t) (hc : aHas 4 t.buyer = true ∧ aHas 4 t.seller = true) (l0 : col4 0 xs ≤ 1000000000) (l1 : col4 1 xs ≤ 1000000000000000) :
    AOk 4 (payL 4 o xs t) ∧ col4 0 (payL 4 o xs t) = col4 0 xs + t.qty ∧ col4 1 (payL 4 o xs t) = col4 1 xs + o.price * t.qty := by
  have hl := h.len
  have tp := ht.p
  have tq := ht.q
  have tl := ht.le hb
  have op := ho.p
  have m1 := mul_lt tp tq
  have m2 := mul_lt (a := o.price - t.price) ⟨by omega, by omega⟩ tq
  have m3 : o.price * t.qty = t.price * t.qty + (o.price - t.price) * t.qty := by rw [← Int.add_mul]; congr 1; omega
  have e : payL 4 o xs t = aPut 4 (aPut 4 (aPut 4 xs t.seller 1 (t.price * t.qty)) t.buyer 0 t.qty) t.buyer 1 ((o.price - t.price) * t.qty) := by unfold payL; rw [if_pos hb]
  rw [e]
  have g1 := col4_get h hc.2 (a := 1) rfl
  have A1 := h.put t.seller 1 (v := t.price * t.qty) ⟨by omega, by omega⟩
  have p0 := col4_put (by omega) hc.2 (b := 1) rfl (v := t.price * t.qty) (by omega) 0 rfl
  have p1 := col4_put (by omega) hc.2 (b := 1) rfl (v := t.price * t.qty) (by omega) 1 rfl
  clear e
  generalize aPut 4 xs t.seller 1 (t.price * t.qty) = ys at *
  simp only [if_true, show ((0 : Int) = 1) = False by simp, if_false] at p0 p1
  have g2 := col4_get A1 hc.1 (a := 0) rfl
  have A2 := A1.put t.buyer 0 (v := t.qty) ⟨by omega, by omega⟩
  have q0 := col4_put p0.2 hc.1 (b := 0) rfl (v := t.qty) (by omega) 0 rfl
  have q1 := col4_put p0.2 hc.1 (b := 0) rfl (v := t.qty) (by omega) 1 rfl
  generalize aPut 4 ys t.buyer 0 t.qty = zs at *
  simp only [if_true, show ((1 : Int) = 0) = False by simp, if_false] at q0 q1
  have g3 := col4_get A2 hc.1 (a := 1) rfl
  have A3 := A2.put t.buyer 1 (v := (o.price - t.price) * t.qty) ⟨by omega, by omega⟩
  have r0 := col4_put q0.2 hc.1 (b := 1) rfl (v := (o.price - t.price) * t.qty) (by omega) 0 rfl
  have r1 := col4_put q0.2 hc.1 (b := 1) rfl (v := (o.price - t.price) * t.qty) (by omega) 1 rfl
  simp only [if_true, show ((0 : Int) = 1) = False by simp, if_false] at r0 r1
  exact ⟨A3, by omega, by omega⟩
theorem pay_sell {o : Ord} {xs : List Int} {t : Trd} (h : AOk 4 xs) (hb : o.buy = false) (ht : TIn o t) (hc : aHas 4 t.buyer = true ∧ aHas 4 t.seller = true) (l0 : col4 0 xs ≤ 1000000000) (l1 : col4 1 xs ≤ 1000000000000000) :
    AOk 4 (payL 4 o xs t) ∧ col4 0 (payL 4 o xs t) = col4 0 xs + t.qty ∧ col4 1 (payL 4 o xs t) = col4 1 xs + t.price * t.qty := by
  have hl := h.len
  have tp := ht.p
  have tq := ht.q
  have m1 := mul_lt tp tq
  have e : payL 4 o xs t = aPut 4 (aPut 4 xs t.seller 1 (t.price * t.qty)) t.buyer 0 t.qty := by unfold payL; rw [if_neg (by simp [hb])]
  rw [e]
  have g1 := col4_get h hc.2 (a := 1) rfl
  have A1 := h.put t.seller 1 (v := t.price * t.qty) ⟨by omega, by omega⟩
  have p0 := col4_put (by omega) hc.2 (b := 1) rfl (v := t.price * t.qty) (by omega) 0 rfl
  have p1 := col4_put (by omega) hc.2 (b := 1) rfl (v := t.price * t.qty) (by omega) 1 rfl
  clear e
  generalize aPut 4 xs t.seller 1 (t.price * t.qty) = ys at *
  simp only [if_true, show ((0 : Int) = 1) = False by simp, if_false] at p0 p1
  have g2 := col4_get A1 hc.1 (a := 0) rfl
  have A2 := A1.put t.buyer 0 (v := t.qty) ⟨by omega, by omega⟩
  have q0 := col4_put p0.2 hc.1 (b := 0) rfl (v := t.qty) (by omega) 0 rfl
  have q1 := col4_put p0.2 hc.1 (b := 0) rfl (v := t.qty) (by omega) 1 rfl
  simp only [if_true, show ((1 : Int) = 0) = False by simp, if_false] at q0 q1
  exact ⟨A2, by omega, by omega⟩
/-- What all trades of an order pay. -/
theorem pays_all {o : Ord} (ho : OIn o) (T : List Trd) : ∀ xs, AOk 4 xs → (∀ t ∈ T, TIn o t) → TCl T → col4 0 xs + tsum T ≤ 1000000000 → col4 1 xs + (if o.buy = true then o.price * tsum T else tval T) ≤ 1000000000000000 →
    AOk 4 (T.foldl (payL 4 o) xs) ∧ col4 0 (T.foldl (payL 4 o) xs) = col4 0 xs + tsum T ∧ col4 1 (T.foldl (payL 4 o) xs) = col4 1 xs + (if o.buy = true then o.price * tsum T else tval T) := by
  induction T with
  | nil => intro xs h _ _ _ _; refine ⟨h, by simp [tsum, isum], by simp [tsum, tval, isum]⟩
  | cons t T ih =>
    intro xs h hT hC b0 b1
    have ht := hT t (by simp)
    have hc := hC t (by simp)
    have hT' : ∀ t ∈ T, TIn o t := fun y hy => hT y (by simp [hy])
    have hC' : TCl T := fun y hy => hC y (by simp [hy])
    have ts : 0 ≤ tsum T := isum_nonneg _ fun x hx => by obtain ⟨y, hy, rfl⟩ := List.mem_map.1 hx; exact (hT' y hy).q.1
    have tv : 0 ≤ tval T := isum_nonneg _ fun x hx => by obtain ⟨y, hy, rfl⟩ := List.mem_map.1 hx; exact (mul_lt (hT' y hy).p (hT' y hy).q).1
    have e0 : tsum (t :: T) = t.qty + tsum T := rfl
    have e1 : tval (t :: T) = t.price * t.qty + tval T := rfl
    have e2 : o.price * tsum (t :: T) = o.price * t.qty + o.price * tsum T := by rw [e0, Int.mul_add]
    have tq := ht.q
    have s1 := mul_lt ho.p tq
    have s2 := mul_lt ht.p tq
    have s3 : 0 ≤ o.price * tsum T := Int.mul_nonneg ho.p.1 ts
    rw [List.foldl_cons]
    cases hb : o.buy
    · simp only [hb, Bool.false_eq_true, if_false] at b1 ih ⊢
      obtain ⟨a1, a2, a3⟩ := pay_sell h hb ht hc (by omega) (by omega)
      obtain ⟨c1, c2, c3⟩ := ih _ a1 hT' hC' (by omega) (by omega)
      exact ⟨c1, by omega, by omega⟩
    · simp only [hb, if_true] at b1 ih ⊢
      obtain ⟨a1, a2, a3⟩ := pay_buy h hb ho ht hc (by omega) (by omega)
      obtain ⟨c1, c2, c3⟩ := ih _ a1 hT' hC' (by omega) (by omega)
      exact ⟨c1, by omega, by omega⟩
end Go.Proofs.Yteabcpmpcbjicaa
