
import Derived.Test.YteabcpmpcbjicaaGreatExB
import Derived.Test.YteabcpmpcbjicaaGreatRbook
import Derived.Test.YteabcpmpcbjicaaGreatShell
import Derived.BigQuiet
import Derived.Deep.CutBlock
namespace Go.Proofs.YteabcpmpcbjicaaGreat
set_option linter.unusedVariables false
set_option linter.unusedSimpArgs false
open Go Go.Proofs Go.RowKit

/-! Four clients: what is free, of each asset. -/
def col4 (a : Int) (xs : List Int) : Int := aGet xs 0 a + aGet xs 1 a + aGet xs 2 a + aGet xs 3 a
theorem aGet_set {xs : List Int} {i : Nat} {v : Int} (hi : i < xs.length) (c a : Int) : aGet (xs.set i v) c a = if aAt c a = i then v else aGet xs c a := by
  unfold aGet
  by_cases h : aAt c a = i
  · rw [if_pos h, h]; simp [List.getD, hi]
  · rw [if_neg h]; simp [List.getD, List.getElem?_set, Ne.symm h]
theorem col4_set {xs : List Int} (hl : xs.length = 8) {c b : Int} (hc : aHas 4 c = true) (hb : aAsset b = true) (v : Int) (a : Int) (ha : aAsset a = true) : col4 a (xs.set (aAt c b) v) = col4 a xs + (if a = b then v - aGet xs c b else 0) := by
  obtain ⟨k, rfl, hk⟩ := aHas_nat hc
  obtain ⟨j, rfl, hj⟩ := aAsset_nat hb
  obtain ⟨i, rfl, hi⟩ := aAsset_nat ha
  have h1 : aAt (k : Int) (j : Int) < xs.length := by unfold aAt; omega
  unfold col4
  rw [aGet_set h1, aGet_set h1, aGet_set h1, aGet_set h1]
  rcases (by omega : k = 0 ∨ k = 1 ∨ k = 2 ∨ k = 3) with rfl | rfl | rfl | rfl <;> rcases (by omega : j = 0 ∨ j = 1) with rfl | rfl <;> rcases (by omega : i = 0 ∨ i = 1) with rfl | rfl <;> simp [aAt] <;> omega
theorem aErr_ok {n : Nat} {c a : Int} (hc : aHas n c = true) (ha : aAsset a = true) : aErr n c a = 0 := by unfold aErr; rw [if_pos hc, if_pos ha]
theorem col4_put {xs : List Int} (hl : xs.length = 8) {c b v : Int} (hc : aHas 4 c = true) (hb : aAsset b = true) (hv : aGet xs c b + v < 18446744073709551616) (a : Int) (ha : aAsset a = true) : col4 a (aPut 4 xs c b v) = col4 a xs + (if a = b then v else 0) ∧ (aPut 4 xs c b v).length = 8 := by
  have e : aPutE 4 xs c b v = 0 := by unfold aPutE; rw [if_pos (aErr_ok hc hb)]; unfold cAddB; rw [if_pos (by simp; exact hv)]
  unfold aPut
  rw [if_pos e]
  refine ⟨?_, by simp [hl]⟩
  rw [col4_set hl hc hb _ a ha]
  unfold cAddN
  rw [if_pos hv]
  split <;> omega
theorem col4_take {xs : List Int} (hl : xs.length = 8) {c b v : Int} (hc : aHas 4 c = true) (hb : aAsset b = true) (hE : aTakeE 4 xs c b v = 0) (a : Int) (ha : aAsset a = true) : col4 a (aTake 4 xs c b v) = col4 a xs - (if a = b then v else 0) ∧ (aTake 4 xs c b v).length = 8 := by
  have hv : v ≤ aGet xs c b := by
    unfold aTakeE at hE
    rw [if_pos (aErr_ok hc hb)] at hE
    split at hE
    · rename_i h; exact of_decide_eq_true h
    · omega
  unfold aTake
  rw [if_pos hE]
  refine ⟨?_, by simp [hl]⟩
  rw [col4_set hl hc hb _ a ha]
  unfold cSubN
  rw [if_pos hv]
  split <;> omega
theorem col4_get {xs : List Int} (h : AOk 4 xs) {c a : Int} (hc : aHas 4 c = true) (ha : aAsset a = true) : 0 ≤ aGet xs c a ∧ aGet xs c a ≤ col4 a xs := by
  obtain ⟨k, rfl, hk⟩ := aHas_nat hc
  have h0 := (h.get 0 a).1
  have h1 := (h.get 1 a).1
  have h2 := (h.get 2 a).1
  have h3 := (h.get 3 a).1
  unfold col4
  rcases (by omega : k = 0 ∨ k = 1 ∨ k = 2 ∨ k = 3) with rfl | rfl | rfl | rfl
  · exact ⟨h0, by show aGet xs 0 a ≤ _; omega⟩
  · exact ⟨h1, by show aGet xs 1 a ≤ _; omega⟩
  · exact ⟨h2, by show aGet xs 2 a ≤ _; omega⟩
  · exact ⟨h3, by show aGet xs 3 a ≤ _; omega⟩
/-- What stands locks, of an asset. -/
def lks (a : Int) (Q : List Ord) : Int := isum (Q.map fun o => if lockA o = a then lockN o else 0)
theorem lkd_four {a : Int} {Q : List Ord} (h : ∀ o ∈ Q, aHas 4 o.client = true) : lkd 0 a Q + lkd 1 a Q + lkd 2 a Q + lkd 3 a Q = lks a Q := by
  induction Q with
  | nil => simp [lkd, lks, isum]
  | cons o Q ih =>
    have ih := ih fun y hy => h y (by simp [hy])
    obtain ⟨k, hk, hk4⟩ := aHas_nat (h o (by simp))
    simp only [lkd, lks, List.map_cons, isum] at ih ⊢
    have e : ∀ c, lk1 c a o = if o.client = c ∧ lockA o = a then lockN o else 0 := fun _ => rfl
    rw [e 0, e 1, e 2, e 3, hk]
    rcases (by omega : k = 0 ∨ k = 1 ∨ k = 2 ∨ k = 3) with rfl | rfl | rfl | rfl <;> simp <;> split <;> omega
theorem lks_perm {a : Int} {Q R : List Ord} (h : Q.Perm R) : lks a Q = lks a R := by
  induction h with
  | nil => rfl
  | cons x _ ih => simp [lks, isum] at ih ⊢; omega
  | swap x y l => simp [lks, isum]; omega
  | trans _ _ h1 h2 => exact h1.trans h2
theorem lks_append (a : Int) (Q R : List Ord) : lks a (Q ++ R) = lks a Q + lks a R := by simp [lks, isum_append]
theorem lks_nonneg {a : Int} {Q : List Ord} (h : ∀ o ∈ Q, OIn o) : 0 ≤ lks a Q := by
  apply isum_nonneg
  intro x hx
  obtain ⟨o, ho, rfl⟩ := List.mem_map.1 hx
  have := (h o ho).lock
  split <;> omega
/-- What trades of one order come to: of the other side's locks. -/
def tsum (T : List Trd) : Int := isum (T.map Trd.qty)
def tval (T : List Trd) : Int := isum (T.map fun t => t.price * t.qty)
theorem lks_mch {o : Ord} {b : Bool} {Q : List Ord} (hQ : ∀ x ∈ Q, x.buy = b) : ∀ q, lks 0 Q = lks 0 (mch o q Q).2.2 + (if b = true then 0 else tsum (mch o q Q).1) ∧ lks 1 Q = lks 1 (mch o q Q).2.2 + (if b = true then tval (mch o q Q).1 else 0) := by
  induction Q with
  | nil => intro q; simp [mch, lks, isum, tsum, tval]
  | cons x Q ih =>
    intro q
    have ih := ih fun y hy => hQ y (by simp [hy])
    have hx := hQ x (by simp)
    have tq : ∀ m, (trd o x m).qty = m := fun m => by unfold trd; split <;> rfl
    have tp : ∀ m, (trd o x m).price = x.price := fun m => by unfold trd; split <;> rfl
    by_cases h : 0 < q ∧ meet o x = true
    · by_cases k : q < x.qty
      · rw [mch_part h.1 h.2 k]
        simp only [lks, List.map_cons, isum, tsum, tval, List.map_nil, tq, tp]
        unfold lockA lockN
        cases b <;> simp [hx] <;> first | omega | (rw [Int.mul_sub]; omega)
      · rw [mch_all h.1 h.2 (by omega)]
        have := ih (q - x.qty)
        simp only [lks, List.map_cons, isum, tsum, tval, tq, tp] at this ⊢
        unfold lockA lockN at this ⊢
        cases b <;> simp [hx] at this ⊢ <;> omega
    · rw [mch_no h]; simp [tsum, tval, isum]

/-- Trades of an order, all of clients that are there. -/
def TCl (T : List Trd) : Prop := ∀ t ∈ T, aHas 4 t.buyer = true ∧ aHas 4 t.seller = true
theorem pay_buy {o : Ord} {xs : List Int} {t : Trd} (h : AOk 4 xs) (hb : o.buy = true) (ho : OIn o) (ht : TIn o t) (hc : aHas 4 t.buyer = true ∧ aHas 4 t.seller = true) (l0 : col4 0 xs ≤ 1000000000) (l1 : col4 1 xs ≤ 1000000000000000) :
    AOk 4 (payL 4 o xs t) ∧ col4 0 (payL 4 o xs t) = col4 0 xs + t.qty ∧ col4 1 (payL 4 o xs t) = col4 1 xs + o.price * t.qty := by
  have hl := h.len
  have tp := ht.p
  have tq := ht.q
  have tl := ht.le hb
  have op := ho.p
  have m1 := mul_lt tp tq
  have m2 := mul_lt (a := o.price - t.price) ⟨by omega, by omega⟩ tq
  have m3 : o.price * t.qty = t.price * t.qty + (o.price - t.price) * t.qty := by rw [← Int.add_mul]; congr 1; omega
  have e : payL 4 o xs t = aPut 4 (aPut 4 (aPut 4 xs t.seller 1 (t.price * t.qty)) t.buyer 0 t.qty) t.buyer 1 ((o.price - t.price) * t.qty) := by unfold payL; rw [if_pos hb]
  rw [e]
  have g1 := col4_get h hc.2 (a := 1) rfl
  have A1 := h.put t.seller 1 (v := t.price * t.qty) ⟨by omega, by omega⟩
  have p0 := col4_put (by omega) hc.2 (b := 1) rfl (v := t.price * t.qty) (by omega) 0 rfl
  have p1 := col4_put (by omega) hc.2 (b := 1) rfl (v := t.price * t.qty) (by omega) 1 rfl
  clear e
  generalize aPut 4 xs t.seller 1 (t.price * t.qty) = ys at *
  simp only [if_true, show ((0 : Int) = 1) = False by simp, if_false] at p0 p1
  have g2 := col4_get A1 hc.1 (a := 0) rfl
  have A2 := A1.put t.buyer 0 (v := t.qty) ⟨by omega, by omega⟩
  have q0 := col4_put p0.2 hc.1 (b := 0) rfl (v := t.qty) (by omega) 0 rfl
  have q1 := col4_put p0.2 hc.1 (b := 0) rfl (v := t.qty) (by omega) 1 rfl
  generalize aPut 4 ys t.buyer 0 t.qty = zs at *
  simp only [if_true, show ((1 : Int) = 0) = False by simp, if_false] at q0 q1
  have g3 := col4_get A2 hc.1 (a := 1) rfl
  have A3 := A2.put t.buyer 1 (v := (o.price - t.price) * t.qty) ⟨by omega, by omega⟩
  have r0 := col4_put q0.2 hc.1 (b := 1) rfl (v := (o.price - t.price) * t.qty) (by omega) 0 rfl
  have r1 := col4_put q0.2 hc.1 (b := 1) rfl (v := (o.price - t.price) * t.qty) (by omega) 1 rfl
  simp only [if_true, show ((0 : Int) = 1) = False by simp, if_false] at r0 r1
  exact ⟨A3, by omega, by omega⟩
theorem pay_sell {o : Ord} {xs : List Int} {t : Trd} (h : AOk 4 xs) (hb : o.buy = false) (ht : TIn o t) (hc : aHas 4 t.buyer = true ∧ aHas 4 t.seller = true) (l0 : col4 0 xs ≤ 1000000000) (l1 : col4 1 xs ≤ 1000000000000000) :
    AOk 4 (payL 4 o xs t) ∧ col4 0 (payL 4 o xs t) = col4 0 xs + t.qty ∧ col4 1 (payL 4 o xs t) = col4 1 xs + t.price * t.qty := by
  have hl := h.len
  have tp := ht.p
  have tq := ht.q
  have m1 := mul_lt tp tq
  have e : payL 4 o xs t = aPut 4 (aPut 4 xs t.seller 1 (t.price * t.qty)) t.buyer 0 t.qty := by unfold payL; rw [if_neg (by simp [hb])]
  rw [e]
  have g1 := col4_get h hc.2 (a := 1) rfl
  have A1 := h.put t.seller 1 (v := t.price * t.qty) ⟨by omega, by omega⟩
  have p0 := col4_put (by omega) hc.2 (b := 1) rfl (v := t.price * t.qty) (by omega) 0 rfl
  have p1 := col4_put (by omega) hc.2 (b := 1) rfl (v := t.price * t.qty) (by omega) 1 rfl
  clear e
  generalize aPut 4 xs t.seller 1 (t.price * t.qty) = ys at *
  simp only [if_true, show ((0 : Int) = 1) = False by simp, if_false] at p0 p1
  have g2 := col4_get A1 hc.1 (a := 0) rfl
  have A2 := A1.put t.buyer 0 (v := t.qty) ⟨by omega, by omega⟩
  have q0 := col4_put p0.2 hc.1 (b := 0) rfl (v := t.qty) (by omega) 0 rfl
  have q1 := col4_put p0.2 hc.1 (b := 0) rfl (v := t.qty) (by omega) 1 rfl
  simp only [if_true, show ((1 : Int) = 0) = False by simp, if_false] at q0 q1
  exact ⟨A2, by omega, by omega⟩
/-- What all trades of an order pay. -/
theorem pays_all {o : Ord} (ho : OIn o) (T : List Trd) : ∀ xs, AOk 4 xs → (∀ t ∈ T, TIn o t) → TCl T → col4 0 xs + tsum T ≤ 1000000000 → col4 1 xs + (if o.buy = true then o.price * tsum T else tval T) ≤ 1000000000000000 →
    AOk 4 (T.foldl (payL 4 o) xs) ∧ col4 0 (T.foldl (payL 4 o) xs) = col4 0 xs + tsum T ∧ col4 1 (T.foldl (payL 4 o) xs) = col4 1 xs + (if o.buy = true then o.price * tsum T else tval T) := by
  induction T with
  | nil => intro xs h _ _ _ _; refine ⟨h, by simp [tsum, isum], by simp [tsum, tval, isum]⟩
  | cons t T ih =>
    intro xs h hT hC b0 b1
    have ht := hT t (by simp)
    have hc := hC t (by simp)
    have hT' : ∀ t ∈ T, TIn o t := fun y hy => hT y (by simp [hy])
    have hC' : TCl T := fun y hy => hC y (by simp [hy])
    have ts : 0 ≤ tsum T := isum_nonneg _ fun x hx => by obtain ⟨y, hy, rfl⟩ := List.mem_map.1 hx; exact (hT' y hy).q.1
    have tv : 0 ≤ tval T := isum_nonneg _ fun x hx => by obtain ⟨y, hy, rfl⟩ := List.mem_map.1 hx; exact (mul_lt (hT' y hy).p (hT' y hy).q).1
    have e0 : tsum (t :: T) = t.qty + tsum T := rfl
    have e1 : tval (t :: T) = t.price * t.qty + tval T := rfl
    have e2 : o.price * tsum (t :: T) = o.price * t.qty + o.price * tsum T := by rw [e0, Int.mul_add]
    have tq := ht.q
    have s1 := mul_lt ho.p tq
    have s2 := mul_lt ht.p tq
    have s3 : 0 ≤ o.price * tsum T := Int.mul_nonneg ho.p.1 ts
    rw [List.foldl_cons]
    cases hb : o.buy
    · simp only [hb, Bool.false_eq_true, if_false] at b1 ih ⊢
      obtain ⟨a1, a2, a3⟩ := pay_sell h hb ht hc (by omega) (by omega)
      obtain ⟨c1, c2, c3⟩ := ih _ a1 hT' hC' (by omega) (by omega)
      exact ⟨c1, by omega, by omega⟩
    · simp only [hb, if_true] at b1 ih ⊢
      obtain ⟨a1, a2, a3⟩ := pay_buy h hb ho ht hc (by omega) (by omega)
      obtain ⟨c1, c2, c3⟩ := ih _ a1 hT' hC' (by omega) (by omega)
      exact ⟨c1, by omega, by omega⟩
end Go.Proofs.YteabcpmpcbjicaaGreat

namespace Go.Proofs.YteabcpmpcbjicaaGreat
set_option linter.unusedVariables false
set_option linter.unusedSimpArgs false
open Go Go.Proofs Go.RowKit

/-- All four clients' sums are what they were. -/
structure Sok (xs : List Int) (L M : List Ord) : Prop where
  a : AOk 4 xs
  s0 : col4 0 xs + lks 0 (L ++ M) = 400
  s1 : col4 1 xs + lks 1 (L ++ M) = 400
theorem EOk.tcl {L M : List Ord} {k : Nat} (h : EOk 4 L M k) {o : Ord} (ho : aHas 4 o.client = true) : TCl (mres o L M).1 := by
  intro t ht
  have hq : ∀ Q : List Ord, (∀ x ∈ Q, x ∈ L ++ M) → t ∈ (mch o o.qty Q).1 → aHas 4 t.buyer = true ∧ aHas 4 t.seller = true := fun Q hQ ht => by
    obtain ⟨x, hx, m, h1, h2, rfl, h4⟩ := mch_trades (fun x hx => (h.oin x (hQ x hx)).2.1) _ t ht
    have := (h.oin x (hQ x hx)).2.2
    unfold trd
    split
    · exact ⟨ho, this⟩
    · exact ⟨this, ho⟩
  unfold mres at ht
  split at ht
  · exact hq M (by simp +contextual) ht
  · exact hq L (by simp +contextual) ht
theorem Sok.met {xs : List Int} {L M : List Ord} {k : Nat} (h : Sok xs L M) (ok : EOk 4 L M k) {o : Ord} (ho : OIn o) (hp : o.price ≤ 1000) (hc : aHas 4 o.client = true) (hE : aTakeE 4 xs o.client (lockA o) (lockN o) = 0) :
    AOk 4 ((mres o L M).1.foldl (payL 4 o) (aTake 4 xs o.client (lockA o) (lockN o))) ∧
    col4 0 ((mres o L M).1.foldl (payL 4 o) (aTake 4 xs o.client (lockA o) (lockN o))) + lks 0 (mL o L M ++ mM o L M) + (if o.buy = true then 0 else (mres o L M).2.1) = 400 ∧
    col4 1 ((mres o L M).1.foldl (payL 4 o) (aTake 4 xs o.client (lockA o) (lockN o))) + lks 1 (mL o L M ++ mM o L M) + (if o.buy = true then o.price * (mres o L M).2.1 else 0) = 400 := by
  have hl := h.a.len
  have lk := ho.lock
  have hTI := ok.trades ho
  have hTC := ok.tcl hc
  have hlf := mres_left ok ho
  have h0 := h.s0
  have h1 := h.s1
  have hA : aAsset (lockA o) = true := by unfold lockA; split <;> rfl
  have A1 := h.a.take o.client (lockA o) (v := lockN o) ⟨by omega, by omega⟩
  have t0 := col4_take (by omega) hc hA hE 0 rfl
  have t1 := col4_take (by omega) hc hA hE 1 rfl
  generalize aTake 4 xs o.client (lockA o) (lockN o) = ys at *
  rw [lks_append] at h0 h1 ⊢
  rw [lks_append]
  have ts : 0 ≤ tsum (mres o L M).1 := isum_nonneg _ fun x hx => by obtain ⟨y, hy, rfl⟩ := List.mem_map.1 hx; exact (hTI y hy).q.1
  have hoi : ∀ Q : List Ord, (∀ x ∈ Q, x ∈ L ++ M) → ∀ x ∈ Q, OIn x := fun Q hQ x hx => (ok.oin x (hQ x hx)).1
  have n0 := lks_nonneg (a := 0) (hoi L (by simp +contextual))
  have n1 := lks_nonneg (a := 0) (hoi M (by simp +contextual))
  have n2 := lks_nonneg (a := 1) (hoi L (by simp +contextual))
  have n3 := lks_nonneg (a := 1) (hoi M (by simp +contextual))
  have hq := ho.q
  have op := ho.p
  cases hb : o.buy
  · have e1 : mres o L M = mch o o.qty L := by unfold mres; rw [hb]; rfl
    have e2 : mL o L M = (mch o o.qty L).2.2 := by unfold mL; rw [hb, e1]; rfl
    have e3 : mM o L M = M := by unfold mM; rw [hb]; rfl
    have hs := mch_sum o L o.qty
    obtain ⟨u0, u1⟩ := lks_mch (o := o) ok.fl o.qty
    rw [e2, e3]
    rw [e1] at hTI hTC ts hlf ⊢
    have hs' : tsum (mch o o.qty L).1 + (mch o o.qty L).2.1 = o.qty := hs
    have eA : lockA o = 0 := by unfold lockA; rw [hb]; rfl
    have eN : lockN o = o.qty := by unfold lockN; rw [hb]; rfl
    rw [eA, eN] at t0 t1
    simp only [if_true, show ((1 : Int) = 0) = False by simp, if_false, Bool.false_eq_true] at t0 t1 u0 u1 ⊢
    have tv : 0 ≤ lks 1 (mch o o.qty L).2.2 := by
      refine lks_nonneg fun y hy => ?_
      have hm : y ∈ mL o L M ++ mM o L M := by rw [e2]; simp [hy]
      exact ((ok.met o).oin y hm).1
    have hpa := pays_all ho (mch o o.qty L).1 ys A1 hTI hTC (by omega) (by rw [hb]; simp only [Bool.false_eq_true, if_false]; omega)
    rw [hb] at hpa
    simp only [Bool.false_eq_true, if_false] at hpa
    obtain ⟨p1, p2, p3⟩ := hpa
    exact ⟨p1, by omega, by omega⟩
  · have e1 : mres o L M = mch o o.qty M := by unfold mres; rw [hb]; rfl
    have e2 : mL o L M = L := by unfold mL; rw [hb]; rfl
    have e3 : mM o L M = (mch o o.qty M).2.2 := by unfold mM; rw [hb, e1]; rfl
    have hs := mch_sum o M o.qty
    obtain ⟨u0, u1⟩ := lks_mch (o := o) ok.fm o.qty
    rw [e2, e3]
    rw [e1] at hTI hTC ts hlf ⊢
    have hs' : tsum (mch o o.qty M).1 + (mch o o.qty M).2.1 = o.qty := hs
    have eA : lockA o = 1 := by unfold lockA; rw [hb]; rfl
    have eN : lockN o = o.price * o.qty := by unfold lockN; rw [hb]; rfl
    rw [eA, eN] at t0 t1
    rw [eN] at lk
    simp only [if_true, show ((0 : Int) = 1) = False by simp, if_false, Bool.false_eq_true] at t0 t1 u0 u1 ⊢
    have m1 : o.price * o.qty = o.price * tsum (mch o o.qty M).1 + o.price * (mch o o.qty M).2.1 := by rw [← Int.mul_add, hs']
    have m2 : 0 ≤ o.price * (mch o o.qty M).2.1 := Int.mul_nonneg op.1 hlf.1
    have hpa := pays_all ho (mch o o.qty M).1 ys A1 hTI hTC (by omega) (by rw [hb]; simp only [if_true]; omega)
    rw [hb] at hpa
    simp only [if_true] at hpa
    obtain ⟨p1, p2, p3⟩ := hpa
    exact ⟨p1, by omega, by omega⟩
theorem lks_rest (a : Int) (o : Ord) (L M : List Ord) : lks a (restL o L ++ restM o M) = lks a (L ++ M) + (if lockA o = a then lockN o else 0) := by
  rw [lks_perm (rest_perm o L M)]
  by_cases hq : o.qty = 0
  · rw [if_neg (by simp [hq])]
    have : lockN o = 0 := by unfold lockN; rw [hq]; split <;> simp
    rw [this]; split <;> omega
  · rw [if_pos hq]
    simp [lks, isum]; omega
/-- An order's rest stays. -/
theorem Sok.limit {xs : List Int} {L M : List Ord} {k : Nat} (h : Sok xs L M) (ok : EOk 4 L M k) {o : Ord} (ho : OIn o) (hp : o.price ≤ 1000) (hc : aHas 4 o.client = true) (hE : aTakeE 4 xs o.client (lockA o) (lockN o) = 0) :
    Sok ((mres o L M).1.foldl (payL 4 o) (aTake 4 xs o.client (lockA o) (lockN o))) (restL { o with qty := (mres o L M).2.1 } (mL o L M)) (restM { o with qty := (mres o L M).2.1 } (mM o L M)) := by
  obtain ⟨m1, m2, m3⟩ := h.met ok ho hp hc hE
  generalize ((mres o L M).1.foldl (payL 4 o) (aTake 4 xs o.client (lockA o) (lockN o))) = zs at *
  refine ⟨m1, ?_, ?_⟩
  · rw [lks_rest]
    unfold lockA lockN
    cases hb : o.buy <;> simp [hb] at m2 ⊢ <;> omega
  · rw [lks_rest]
    unfold lockA lockN
    cases hb : o.buy <;> simp [hb] at m3 ⊢ <;> omega
/-- An order's rest goes. -/
theorem Sok.now {xs : List Int} {L M : List Ord} {k : Nat} (h : Sok xs L M) (ok : EOk 4 L M k) {o : Ord} (ho : OIn o) (hp : o.price ≤ 1000) (hc : aHas 4 o.client = true) (hE : aTakeE 4 xs o.client (lockA o) (lockN o) = 0) :
    Sok (aPut 4 ((mres o L M).1.foldl (payL 4 o) (aTake 4 xs o.client (lockA o) (lockN o))) o.client (lockA { o with qty := (mres o L M).2.1 }) (lockN { o with qty := (mres o L M).2.1 })) (mL o L M) (mM o L M) := by
  obtain ⟨m1, m2, m3⟩ := h.met ok ho hp hc hE
  have hlf := mres_left ok ho
  have op := ho.p
  have l2 : OIn { o with qty := (mres o L M).2.1 } := ho.lt _ hlf
  have lk := l2.lock
  have hoi : ∀ x ∈ mL o L M ++ mM o L M, OIn x := fun x hx => ((ok.met o).oin x hx).1
  have n0 := lks_nonneg (a := 0) hoi
  have n1 := lks_nonneg (a := 1) hoi
  have hA : aAsset (lockA { o with qty := (mres o L M).2.1 }) = true := by unfold lockA; split <;> rfl
  have g := col4_get m1 hc hA
  generalize ((mres o L M).1.foldl (payL 4 o) (aTake 4 xs o.client (lockA o) (lockN o))) = zs at *
  have hz := m1.len
  have hle : aGet zs o.client (lockA { o with qty := (mres o L M).2.1 }) ≤ 400 := by
    have m4 : 0 ≤ o.price * (mres o L M).2.1 := Int.mul_nonneg op.1 hlf.1
    have hlf1 := hlf.1
    unfold lockA at g ⊢
    cases hb : o.buy <;> simp [hb] at g m2 m3 ⊢ <;> omega
  have p0 := col4_put (by omega) hc hA (v := lockN { o with qty := (mres o L M).2.1 }) (by omega) 0 rfl
  have p1 := col4_put (by omega) hc hA (v := lockN { o with qty := (mres o L M).2.1 }) (by omega) 1 rfl
  refine ⟨m1.put _ _ ⟨by omega, by omega⟩, ?_, ?_⟩
  · rw [p0.1]
    unfold lockA lockN
    cases hb : o.buy <;> simp [hb] at m2 ⊢ <;> omega
  · rw [p1.1]
    unfold lockA lockN
    cases hb : o.buy <;> simp [hb] at m3 ⊢ <;> omega
theorem erase_perm {Q : List Ord} : ∀ {j : Nat}, j < Q.length → Q.Perm (Q.getD j Ord.zero :: Q.eraseIdx j) := by
  induction Q with
  | nil => intro j hj; simp at hj
  | cons x Q ih =>
    intro j hj
    cases j with
    | zero => exact List.Perm.refl _
    | succ j =>
      have := ih (j := j) (by simp at hj; omega)
      exact (this.cons x).trans (List.Perm.swap _ _ _)
theorem pick_perm {i : Int} {L M : List Ord} {k : Nat} {o : Ord} (hf : Fresh k L M) (h : pickB i L M = (o, true)) : (L ++ M).Perm (o :: (sans i L ++ remM i L M)) ∧ o ∈ L ++ M := by
  have one : ∀ Q : List Ord, Ids Q → pickQ i Q = (o, true) → Q.Perm (o :: sans i Q) ∧ o ∈ Q := fun Q hi hp => by
    rcases atQ_pick (k := i) hi with ⟨j, hj, -, e⟩ | ⟨-, e⟩
    · rw [hp] at e
      have e2 : o = Q.getD j Ord.zero := by injection e
      have e3 : (Q.getD j Ord.zero).id = i := by
        rcases pickQ_spec i Q with ⟨-, -, h3⟩ | ⟨h3, -⟩
        · rw [hp] at h3; rw [← e2]; exact h3
        · rw [hp] at h3; simp at h3
      rw [sans_erase hi hj e3, e2]
      refine ⟨?_, getD_mem hj⟩
      exact erase_perm hj
    · rw [hp] at e; simp at e
  obtain ⟨iL, iM⟩ := hf.two
  unfold pickB at h
  unfold remM
  cases hp : (pickQ i L).2
  · rw [hp] at h
    simp only [Bool.false_eq_true, if_false] at h ⊢
    obtain ⟨p1, p2⟩ := one M iM h
    have hs : sans i L = L := by
      rcases pickQ_spec i L with ⟨h1, -, -⟩ | ⟨-, h1⟩
      · rw [hp] at h1; simp at h1
      · exact sans_none h1
    rw [hs]
    exact ⟨((List.Perm.refl L).append p1).trans List.perm_middle, by simp [p2]⟩
  · rw [hp] at h
    simp only [if_true] at h ⊢
    obtain ⟨p1, p2⟩ := one L iL h
    exact ⟨p1.append_right M, by simp [p2]⟩
/-- An order is canceled. -/
theorem Sok.cancel {xs : List Int} {L M : List Ord} {k : Nat} (h : Sok xs L M) (ok : EOk 4 L M k) {i : Int} {o : Ord} (hp : pickB i L M = (o, true)) : Sok (aPut 4 xs o.client (lockA o) (lockN o)) (sans i L) (remM i L M) := by
  obtain ⟨pp, hm⟩ := pick_perm ok.fr hp
  obtain ⟨hi, hq, hc⟩ := ok.oin o hm
  have lk := hi.lock
  have hA : aAsset (lockA o) = true := by unfold lockA; split <;> rfl
  have hz := h.a.len
  have hoi : ∀ x ∈ L ++ M, OIn x := fun x hx => (ok.oin x hx).1
  have n0 := lks_nonneg (a := 0) hoi
  have n1 := lks_nonneg (a := 1) hoi
  have h0 := h.s0
  have h1 := h.s1
  have g := col4_get h.a hc hA
  have hle : aGet xs o.client (lockA o) ≤ 400 := by
    rcases (by unfold lockA; split <;> simp : lockA o = 0 ∨ lockA o = 1) with e | e <;> rw [e] at g ⊢ <;> omega
  have p0 := col4_put (by omega) hc hA (v := lockN o) (by omega) 0 rfl
  have p1 := col4_put (by omega) hc hA (v := lockN o) (by omega) 1 rfl
  have e0 : lks 0 (L ++ M) = (if lockA o = 0 then lockN o else 0) + lks 0 (sans i L ++ remM i L M) := by rw [lks_perm pp]; rfl
  have e1 : lks 1 (L ++ M) = (if lockA o = 1 then lockN o else 0) + lks 1 (sans i L ++ remM i L M) := by rw [lks_perm pp]; rfl
  refine ⟨h.a.put _ _ ⟨by omega, by omega⟩, ?_, ?_⟩
  · rw [p0.1]
    rcases (by unfold lockA; split <;> simp : lockA o = 0 ∨ lockA o = 1) with e | e <;> rw [e] at e0 ⊢ <;> simp at e0 ⊢ <;> omega
  · rw [p1.1]
    rcases (by unfold lockA; split <;> simp : lockA o = 0 ∨ lockA o = 1) with e | e <;> rw [e] at e1 ⊢ <;> simp at e1 ⊢ <;> omega
end Go.Proofs.YteabcpmpcbjicaaGreat

namespace Go.Proofs.YteabcpmpcbjicaaGreat
set_option linter.unusedVariables false
open Go Go.Proofs Go.RowKit
attribute [local go_sem ↓] Go.wp_at_zero Go.wp_at_succ

/-- A step's six cells, in this and later worlds. -/
structure Step10 (w : World) (b o : Nat) (kd cl id : Int) (by' : Bool) (p q : Int) : Prop where
  c : ∀ wr, Below w.heap.size w wr → wr.cell? ⟨b, o, none⟩ = some (.int .i64 kd) ∧ wr.cell? ⟨b, o + 1, none⟩ = some (.int .i64 cl) ∧ wr.cell? ⟨b, o + 2, none⟩ = some (.int .i64 id) ∧
    wr.cell? ⟨b, o + 3, none⟩ = some (.bool by') ∧ wr.cell? ⟨b, o + 4, none⟩ = some (.int .u64 p) ∧ wr.cell? ⟨b, o + 5, none⟩ = some (.int .u64 q)
theorem SRec.step10 {w : World} {a : Option Addr} {len cap : Nat} (h : SRec [some .i64, some .i64, some .i64, none, some .u64, some .u64] w a len cap) {i : Nat} (hi : i < len) :
    ∃ b off kd cl id by' p q, a = some ⟨b, off, none⟩ ∧ I kd ∧ I cl ∧ I id ∧ U p ∧ U q ∧ Step10 w b (off + i * 6) kd cl id by' p q := by
  obtain ⟨b, off, ha, hc⟩ := h.at hi
  obtain ⟨v0, c0, f0⟩ := hc 0 _ rfl
  obtain ⟨v1, c1, f1⟩ := hc 1 _ rfl
  obtain ⟨v2, c2, f2⟩ := hc 2 _ rfl
  obtain ⟨v3, c3, f3⟩ := hc 3 _ rfl
  obtain ⟨v4, c4, f4⟩ := hc 4 _ rfl
  obtain ⟨v5, c5, f5⟩ := hc 5 _ rfl
  obtain ⟨x0, rfl, h0⟩ := fits_i64 f0
  obtain ⟨x1, rfl, h1⟩ := fits_i64 f1
  obtain ⟨x2, rfl, h2⟩ := fits_i64 f2
  obtain ⟨x3, rfl⟩ := f3
  obtain ⟨x4, rfl, h4⟩ := fits_u64 f4
  obtain ⟨x5, rfl, h5⟩ := fits_u64 f5
  exact ⟨b, off, x0, x1, x2, x3, x4, x5, ha, h0, h1, h2, h4, h5, ⟨fun wr hb => ⟨below_cell hb c0, below_cell hb c1, below_cell hb c2, below_cell hb c3, below_cell hb c4, below_cell hb c5⟩⟩⟩
/-- Four clients with a hundred of each, after so many puts. -/
def pre4 : Nat → List Int
  | 0 => [0, 0, 0, 0, 0, 0, 0, 0]
  | j + 1 => aPut 4 (pre4 j) ((j % 4 : Nat) : Int) ((j / 4 : Nat) : Int) 100
theorem pre4_all : pre4 8 = [100, 100, 100, 100, 100, 100, 100, 100] := by decide
theorem Sok.start : Sok [100, 100, 100, 100, 100, 100, 100, 100] [] [] :=
  ⟨⟨rfl, by omega, by simp [U]⟩, by decide, by decide⟩
/-- What trades may be: of the price that was named, of who asked. -/
def TFair (b : Bool) (p c : Int) (T : List Trd) : Prop := ∀ t ∈ T, (b = true → t.price ≤ p ∧ t.buyer = c) ∧ (b = false → p ≤ t.price ∧ t.seller = c)
theorem EOk.fair {n : Nat} {L M : List Ord} {k : Nat} (h : EOk n L M k) (o : Ord) : TFair o.buy o.price o.client (mres o L M).1 := by
  intro t ht
  have hq : ∀ Q : List Ord, (∀ x ∈ Q, x ∈ L ++ M) → t ∈ (mch o o.qty Q).1 → (o.buy = true → t.price ≤ o.price ∧ t.buyer = o.client) ∧ (o.buy = false → o.price ≤ t.price ∧ t.seller = o.client) := fun Q hQ ht => by
    obtain ⟨x, hx, m, h1, h2, rfl, h4⟩ := mch_trades (fun x hx => (h.oin x (hQ x hx)).2.1) _ t ht
    unfold meet at h4
    unfold trd
    cases hb : o.buy
    · rw [hb] at h4
      simp only [Bool.false_eq_true, if_false] at h4 ⊢
      exact ⟨by simp, fun _ => ⟨of_decide_eq_true h4, by trivial⟩⟩
    · rw [hb] at h4
      simp only [if_true] at h4 ⊢
      exact ⟨fun _ => ⟨of_decide_eq_true h4, by trivial⟩, by simp⟩
  unfold mres at ht
  split at ht
  · exact hq M (by simp +contextual) ht
  · exact hq L (by simp +contextual) ht
theorem mtE_zero {n : Nat} {xs : List Int} {c : Int} {b : Bool} {p q : Int} (hE : mtE n xs c b p q = 0) (i : Int) : aHas n c = true ∧ (wIn p && wIn q) = true ∧ aTakeE n xs c (lockA ⟨i, c, b, p, q⟩) (lockN ⟨i, c, b, p, q⟩) = 0 := by
  unfold mtE at hE
  split at hE
  · rename_i h1
    split at hE
    · rename_i h2
      split at hE
      · rename_i h3; exact ⟨h1, h2, h3⟩
      · omega
    · omega
  · omega
/-- What the first clients have, free and locked, of an asset. -/
def psum (k : Int) (xs : List Int) (L M : List Ord) : Nat → Int
  | 0 => 0
  | j + 1 => psum k xs L M j + aFree 4 xs (j : Int) k + (lkd (j : Int) k L + lkd (j : Int) k M)
theorem aFree_get {xs : List Int} {j : Nat} {k : Int} (hj : j < 4) (hk : aAsset k = true) : aFree 4 xs (j : Int) k = aGet xs (j : Int) k := by
  unfold aFree; rw [if_pos (aErr_ok (by unfold aHas; simp; omega) hk)]
theorem psum_four {k : Int} (hk : k = 0 ∨ k = 1) {xs : List Int} {L M : List Ord} {kk : Nat} (h : Sok xs L M) (ok : EOk 4 L M kk) : psum k xs L M 4 = 400 := by
  have hA : aAsset k = true := by rcases hk with rfl | rfl <;> rfl
  have hL : lkd ((0 : Nat) : Int) k L + lkd ((1 : Nat) : Int) k L + lkd ((2 : Nat) : Int) k L + lkd ((3 : Nat) : Int) k L = lks k L := lkd_four fun o ho => (ok.oin o (by simp [ho])).2.2
  have hM : lkd ((0 : Nat) : Int) k M + lkd ((1 : Nat) : Int) k M + lkd ((2 : Nat) : Int) k M + lkd ((3 : Nat) : Int) k M = lks k M := lkd_four fun o ho => (ok.oin o (by simp [ho])).2.2
  have f0 := aFree_get (xs := xs) (j := 0) (by omega) hA
  have f1 := aFree_get (xs := xs) (j := 1) (by omega) hA
  have f2 := aFree_get (xs := xs) (j := 2) (by omega) hA
  have f3 := aFree_get (xs := xs) (j := 3) (by omega) hA
  have hs : col4 k xs + (lks k L + lks k M) = 400 := by
    rw [← lks_append]
    rcases hk with rfl | rfl
    · exact h.s0
    · exact h.s1
  have hs' : aGet xs ((0 : Nat) : Int) k + aGet xs ((1 : Nat) : Int) k + aGet xs ((2 : Nat) : Int) k + aGet xs ((3 : Nat) : Int) k + (lks k L + lks k M) = 400 := hs
  simp only [psum]
  rw [f0, f1, f2, f3]
  omega
theorem psum_in {k : Int} (hk : k = 0 ∨ k = 1) {xs : List Int} {L M : List Ord} {kk : Nat} (h : Sok xs L M) (ok : EOk 4 L M kk) : ∀ j : Nat, j < 4 → 0 ≤ psum k xs L M j ∧ 0 ≤ aFree 4 xs (j : Int) k ∧ 0 ≤ lkd (j : Int) k L + lkd (j : Int) k M ∧ psum k xs L M j + aFree 4 xs (j : Int) k + (lkd (j : Int) k L + lkd (j : Int) k M) ≤ 400 := by
  have h4 := psum_four hk h ok
  have hA : aAsset k = true := by rcases hk with rfl | rfl <;> rfl
  have fr : ∀ j : Nat, j < 4 → 0 ≤ aFree 4 xs (j : Int) k := fun j hj => by rw [aFree_get hj hA]; exact (h.a.get _ _).1
  have lk : ∀ j : Nat, 0 ≤ lkd (j : Int) k L + lkd (j : Int) k M := fun j => by
    have h1 := (lkd_in (c := (j : Int)) (a := k) (Q := L) fun o ho => (ok.oin o (by simp [ho])).1).1
    have h2 := (lkd_in (c := (j : Int)) (a := k) (Q := M) fun o ho => (ok.oin o (by simp [ho])).1).1
    omega
  have a0 := fr 0 (by omega)
  have a1 := fr 1 (by omega)
  have a2 := fr 2 (by omega)
  have a3 := fr 3 (by omega)
  have b0 := lk 0
  have b1 := lk 1
  have b2 := lk 2
  have b3 := lk 3
  simp only [psum] at h4
  intro j hj
  rcases (by omega : j = 0 ∨ j = 1 ∨ j = 2 ∨ j = 3) with rfl | rfl | rfl | rfl <;> simp only [psum] <;> refine ⟨?_, ?_, ?_, ?_⟩ <;> omega

end Go.Proofs.YteabcpmpcbjicaaGreat
