
import Derived.Test.YteabcpmpcbjicaaAwake10
import Derived.BigQuiet
namespace Go.Proofs.Yteabcpmpcbjicaa
set_option linter.unusedVariables false
set_option linter.unusedSimpArgs false
open Go Go.Proofs Go.RowKit
attribute [local go_sem ↓] Go.wp_at_zero Go.wp_at_succ

theorem put01 {x0 x1 x2 x3 v : Int} (h : x1 + v < 18446744073709551616) : aPut 2 [x0, x1, x2, x3] 0 1 v = [x0, x1 + v, x2, x3] := by
  simp [aPut, aHas, aPutE, aErr, aAsset, aGet, aAt, cAddB, cAddN, h]
theorem put10 {x0 x1 x2 x3 v : Int} (h : x2 + v < 18446744073709551616) : aPut 2 [x0, x1, x2, x3] 1 0 v = [x0, x1, x2 + v, x3] := by
  simp [aPut, aHas, aPutE, aErr, aAsset, aGet, aAt, cAddB, cAddN, h]
theorem put11 {x0 x1 x2 x3 v : Int} (h : x3 + v < 18446744073709551616) : aPut 2 [x0, x1, x2, x3] 1 1 v = [x0, x1, x2, x3 + v] := by
  simp [aPut, aHas, aPutE, aErr, aAsset, aGet, aAt, cAddB, cAddN, h]
theorem exn_lim {p h : Int} (hp : 11 ≤ p ∧ p ≤ 74) (hh : 1 ≤ h ∧ h ≤ 32) : mtE 2 [100, 0, 0, 10000] 0 false p h = 0 ∧ aTake 2 [100, 0, 0, 10000] 0 (lockA ⟨((0 : Nat) : Int) + 1, 0, false, p, h⟩) (lockN ⟨((0 : Nat) : Int) + 1, 0, false, p, h⟩) = [100 - h, 0, 0, 10000] := by
  have h1 : wIn p = true := by simp [wIn]; omega
  have h2 : wIn h = true := by simp [wIn]; omega
  have h4 : h ≤ 100 := by omega
  refine ⟨?_, ?_⟩
  · unfold mtE
    rw [h1, h2]
    simp [aHas, aTakeE, aErr, aAsset, aGet, aAt, cSubB, lockA, lockN] <;> omega
  · simp [aTake, aHas, aTakeE, aErr, aAsset, aGet, aAt, cSubB, cSubN, lockA, lockN, h4] <;> omega
theorem exn_rest {p h : Int} (hh : 1 ≤ h ∧ h ≤ 32) : (restL ⟨((0 : Nat) : Int) + 1, 0, false, p, h⟩ [], restM ⟨((0 : Nat) : Int) + 1, 0, false, p, h⟩ []) = (([] : List Ord), [(⟨1, 0, false, p, h⟩ : Ord)]) := by
  have h0 : h ≠ 0 := by omega
  simp [restL, restM, ins, h0]
theorem exn_now {a q h : Int} (ha : 1 ≤ a ∧ a ≤ 79) (hq : 1 ≤ q ∧ q ≤ 32) (hm : 0 ≤ a * q ∧ a * q ≤ 2528) : mtE 2 [100 - h, 0, 0, 10000] 1 true a q = 0 ∧ aTake 2 [100 - h, 0, 0, 10000] 1 (lockA ⟨((0 + 1 : Nat) : Int) + 1, 1, true, a, q⟩) (lockN ⟨((0 + 1 : Nat) : Int) + 1, 1, true, a, q⟩) = [100 - h, 0, 0, 10000 - a * q] := by
  have h1 : wIn a = true := by simp [wIn]; omega
  have h2 : wIn q = true := by simp [wIn]; omega
  have h4 : a * q ≤ 10000 := by omega
  refine ⟨?_, ?_⟩
  · unfold mtE
    rw [h1, h2]
    simp [aHas, aTakeE, aErr, aAsset, aGet, aAt, cSubB, lockA, lockN] <;> omega
  · simp [aTake, aHas, aTakeE, aErr, aAsset, aGet, aAt, cSubB, cSubN, lockA, lockN, h4] <;> omega
theorem exn_part {p a h q : Int} (hh : 1 ≤ h ∧ h ≤ 32) (hq : 1 ≤ q ∧ q ≤ 32) (hc : p ≤ a) (hd : q < h) : ((mres ⟨((0 + 1 : Nat) : Int) + 1, 1, true, a, q⟩ [] [(⟨1, 0, false, p, h⟩ : Ord)]).1 = [(⟨1, ((0 + 1 : Nat) : Int) + 1, 1, 0, p, q⟩ : Trd)] ∧ (mres ⟨((0 + 1 : Nat) : Int) + 1, 1, true, a, q⟩ [] [(⟨1, 0, false, p, h⟩ : Ord)]).2.1 = 0) ∧ mL ⟨((0 + 1 : Nat) : Int) + 1, 1, true, a, q⟩ [] [(⟨1, 0, false, p, h⟩ : Ord)] = [] ∧ mM ⟨((0 + 1 : Nat) : Int) + 1, 1, true, a, q⟩ [] [(⟨1, 0, false, p, h⟩ : Ord)] = [(⟨1, 0, false, p, h - q⟩ : Ord)] := by
  have hmt : meet ⟨((0 + 1 : Nat) : Int) + 1, 1, true, a, q⟩ (⟨1, 0, false, p, h⟩ : Ord) = true := by show decide (p ≤ a) = _; simp; omega
  have e : (mch ⟨((0 + 1 : Nat) : Int) + 1, 1, true, a, q⟩ q [(⟨1, 0, false, p, h⟩ : Ord)]).1 = [(⟨1, ((0 + 1 : Nat) : Int) + 1, 1, 0, p, q⟩ : Trd)] ∧ (mch ⟨((0 + 1 : Nat) : Int) + 1, 1, true, a, q⟩ q [(⟨1, 0, false, p, h⟩ : Ord)]).2.1 = 0 ∧ (mch ⟨((0 + 1 : Nat) : Int) + 1, 1, true, a, q⟩ q [(⟨1, 0, false, p, h⟩ : Ord)]).2.2 = [(⟨1, 0, false, p, h - q⟩ : Ord)] := by
    rw [mch_part (by show (0 : Int) < q; omega) hmt (by show q < h; exact hd)]; exact ⟨rfl, rfl, rfl⟩
  exact ⟨⟨e.1, e.2.1⟩, rfl, e.2.2⟩
theorem exn_pay_part {p a h q : Int} (hp : 11 ≤ p ∧ p ≤ 74) (ha : 1 ≤ a ∧ a ≤ 79) (hh : 1 ≤ h ∧ h ≤ 32) (hq : 1 ≤ q ∧ q ≤ 32) (hc : p ≤ a) (hd : q < h) (m1 : 0 ≤ p * q ∧ p * q ≤ 2528) (m2 : 0 ≤ (a - p) * q ∧ (a - p) * q ≤ 2528) (m3 : 0 ≤ a * q ∧ a * q ≤ 2528) (m4 : 0 ≤ a * 0 ∧ a * 0 ≤ 2528) (m5 : a * q = p * q + (a - p) * q + a * 0) :
    [(⟨1, ((0 + 1 : Nat) : Int) + 1, 1, 0, p, q⟩ : Trd)].foldl (payL 2 ⟨((0 + 1 : Nat) : Int) + 1, 1, true, a, q⟩) [100 - h, 0, 0, 10000 - a * q] = [100 - h, p * q, q, 10000 - a * q + (a - p) * q] ∧ aPut 2 [100 - h, p * q, q, 10000 - a * q + (a - p) * q] 1 (lockA ⟨((0 + 1 : Nat) : Int) + 1, 1, true, a, 0⟩) (lockN ⟨((0 + 1 : Nat) : Int) + 1, 1, true, a, 0⟩) = [100 - h, p * q, q, 10000 - p * q] := by
  refine ⟨?_, ?_⟩
  · show aPut 2 (aPut 2 (aPut 2 [100 - h, 0, 0, 10000 - a * q] 0 1 (p * q)) 1 0 q) 1 1 ((a - p) * q) = _
    rw [put01 (by omega), put10 (by omega), put11 (by omega), Int.zero_add, Int.zero_add]
  · show aPut 2 [100 - h, p * q, q, 10000 - a * q + (a - p) * q] 1 1 (a * 0) = _
    rw [put11 (by omega), show 10000 - a * q + (a - p) * q + a * 0 = 10000 - p * q by omega]
theorem exn_end_part {p h q : Int} : lkd 0 0 ([] : List Ord) + lkd 0 0 [(⟨1, 0, false, p, h - q⟩ : Ord)] = h - q ∧ lkd 1 1 ([] : List Ord) + lkd 1 1 [(⟨1, 0, false, p, h - q⟩ : Ord)] = 0 := by
  simp [lkd, lk1, lockA, lockN, isum]
theorem exn_eq {p a h q : Int} (hh : 1 ≤ h ∧ h ≤ 32) (hq : 1 ≤ q ∧ q ≤ 32) (hc : p ≤ a) (hd : q = h) : ((mres ⟨((0 + 1 : Nat) : Int) + 1, 1, true, a, q⟩ [] [(⟨1, 0, false, p, h⟩ : Ord)]).1 = [(⟨1, ((0 + 1 : Nat) : Int) + 1, 1, 0, p, q⟩ : Trd)] ∧ (mres ⟨((0 + 1 : Nat) : Int) + 1, 1, true, a, q⟩ [] [(⟨1, 0, false, p, h⟩ : Ord)]).2.1 = 0) ∧ mL ⟨((0 + 1 : Nat) : Int) + 1, 1, true, a, q⟩ [] [(⟨1, 0, false, p, h⟩ : Ord)] = [] ∧ mM ⟨((0 + 1 : Nat) : Int) + 1, 1, true, a, q⟩ [] [(⟨1, 0, false, p, h⟩ : Ord)] = ([] : List Ord) := by
  have hmt : meet ⟨((0 + 1 : Nat) : Int) + 1, 1, true, a, q⟩ (⟨1, 0, false, p, h⟩ : Ord) = true := by show decide (p ≤ a) = _; simp; omega
  have e : (mch ⟨((0 + 1 : Nat) : Int) + 1, 1, true, a, q⟩ q [(⟨1, 0, false, p, h⟩ : Ord)]).1 = [(⟨1, ((0 + 1 : Nat) : Int) + 1, 1, 0, p, q⟩ : Trd)] ∧ (mch ⟨((0 + 1 : Nat) : Int) + 1, 1, true, a, q⟩ q [(⟨1, 0, false, p, h⟩ : Ord)]).2.1 = 0 ∧ (mch ⟨((0 + 1 : Nat) : Int) + 1, 1, true, a, q⟩ q [(⟨1, 0, false, p, h⟩ : Ord)]).2.2 = ([] : List Ord) := by
    subst hd; rw [mch_all (by show (0 : Int) < q; omega) hmt (by show q ≤ q; omega)]; refine ⟨rfl, ?_, rfl⟩; show q - q = 0; omega
  exact ⟨⟨e.1, e.2.1⟩, rfl, e.2.2⟩
theorem exn_pay_eq {p a h q : Int} (hp : 11 ≤ p ∧ p ≤ 74) (ha : 1 ≤ a ∧ a ≤ 79) (hh : 1 ≤ h ∧ h ≤ 32) (hq : 1 ≤ q ∧ q ≤ 32) (hc : p ≤ a) (hd : q = h) (m1 : 0 ≤ p * q ∧ p * q ≤ 2528) (m2 : 0 ≤ (a - p) * q ∧ (a - p) * q ≤ 2528) (m3 : 0 ≤ a * q ∧ a * q ≤ 2528) (m4 : 0 ≤ a * 0 ∧ a * 0 ≤ 2528) (m5 : a * q = p * q + (a - p) * q + a * 0) :
    [(⟨1, ((0 + 1 : Nat) : Int) + 1, 1, 0, p, q⟩ : Trd)].foldl (payL 2 ⟨((0 + 1 : Nat) : Int) + 1, 1, true, a, q⟩) [100 - h, 0, 0, 10000 - a * q] = [100 - h, p * q, q, 10000 - a * q + (a - p) * q] ∧ aPut 2 [100 - h, p * q, q, 10000 - a * q + (a - p) * q] 1 (lockA ⟨((0 + 1 : Nat) : Int) + 1, 1, true, a, 0⟩) (lockN ⟨((0 + 1 : Nat) : Int) + 1, 1, true, a, 0⟩) = [100 - h, p * q, q, 10000 - p * q] := by
  refine ⟨?_, ?_⟩
  · show aPut 2 (aPut 2 (aPut 2 [100 - h, 0, 0, 10000 - a * q] 0 1 (p * q)) 1 0 q) 1 1 ((a - p) * q) = _
    rw [put01 (by omega), put10 (by omega), put11 (by omega), Int.zero_add, Int.zero_add]
  · show aPut 2 [100 - h, p * q, q, 10000 - a * q + (a - p) * q] 1 1 (a * 0) = _
    rw [put11 (by omega), show 10000 - a * q + (a - p) * q + a * 0 = 10000 - p * q by omega]
theorem exn_end_eq {p h q : Int} : lkd 0 0 ([] : List Ord) + lkd 0 0 ([] : List Ord) = 0 ∧ lkd 1 1 ([] : List Ord) + lkd 1 1 ([] : List Ord) = 0 := by
  simp [lkd, lk1, lockA, lockN, isum]
theorem exn_all {p a h q : Int} (hh : 1 ≤ h ∧ h ≤ 32) (hq : 1 ≤ q ∧ q ≤ 32) (hc : p ≤ a) (hd : h < q) : ((mres ⟨((0 + 1 : Nat) : Int) + 1, 1, true, a, q⟩ [] [(⟨1, 0, false, p, h⟩ : Ord)]).1 = [(⟨1, ((0 + 1 : Nat) : Int) + 1, 1, 0, p, h⟩ : Trd)] ∧ (mres ⟨((0 + 1 : Nat) : Int) + 1, 1, true, a, q⟩ [] [(⟨1, 0, false, p, h⟩ : Ord)]).2.1 = (q - h)) ∧ mL ⟨((0 + 1 : Nat) : Int) + 1, 1, true, a, q⟩ [] [(⟨1, 0, false, p, h⟩ : Ord)] = [] ∧ mM ⟨((0 + 1 : Nat) : Int) + 1, 1, true, a, q⟩ [] [(⟨1, 0, false, p, h⟩ : Ord)] = ([] : List Ord) := by
  have hmt : meet ⟨((0 + 1 : Nat) : Int) + 1, 1, true, a, q⟩ (⟨1, 0, false, p, h⟩ : Ord) = true := by show decide (p ≤ a) = _; simp; omega
  have e : (mch ⟨((0 + 1 : Nat) : Int) + 1, 1, true, a, q⟩ q [(⟨1, 0, false, p, h⟩ : Ord)]).1 = [(⟨1, ((0 + 1 : Nat) : Int) + 1, 1, 0, p, h⟩ : Trd)] ∧ (mch ⟨((0 + 1 : Nat) : Int) + 1, 1, true, a, q⟩ q [(⟨1, 0, false, p, h⟩ : Ord)]).2.1 = (q - h) ∧ (mch ⟨((0 + 1 : Nat) : Int) + 1, 1, true, a, q⟩ q [(⟨1, 0, false, p, h⟩ : Ord)]).2.2 = ([] : List Ord) := by
    rw [mch_all (by show (0 : Int) < q; omega) hmt (by show h ≤ q; omega)]; exact ⟨rfl, rfl, rfl⟩
  exact ⟨⟨e.1, e.2.1⟩, rfl, e.2.2⟩
theorem exn_pay_all {p a h q : Int} (hp : 11 ≤ p ∧ p ≤ 74) (ha : 1 ≤ a ∧ a ≤ 79) (hh : 1 ≤ h ∧ h ≤ 32) (hq : 1 ≤ q ∧ q ≤ 32) (hc : p ≤ a) (hd : h < q) (m1 : 0 ≤ p * h ∧ p * h ≤ 2528) (m2 : 0 ≤ (a - p) * h ∧ (a - p) * h ≤ 2528) (m3 : 0 ≤ a * q ∧ a * q ≤ 2528) (m4 : 0 ≤ a * (q - h) ∧ a * (q - h) ≤ 2528) (m5 : a * q = p * h + (a - p) * h + a * (q - h)) :
    [(⟨1, ((0 + 1 : Nat) : Int) + 1, 1, 0, p, h⟩ : Trd)].foldl (payL 2 ⟨((0 + 1 : Nat) : Int) + 1, 1, true, a, q⟩) [100 - h, 0, 0, 10000 - a * q] = [100 - h, p * h, h, 10000 - a * q + (a - p) * h] ∧ aPut 2 [100 - h, p * h, h, 10000 - a * q + (a - p) * h] 1 (lockA ⟨((0 + 1 : Nat) : Int) + 1, 1, true, a, (q - h)⟩) (lockN ⟨((0 + 1 : Nat) : Int) + 1, 1, true, a, (q - h)⟩) = [100 - h, p * h, h, 10000 - p * h] := by
  refine ⟨?_, ?_⟩
  · show aPut 2 (aPut 2 (aPut 2 [100 - h, 0, 0, 10000 - a * q] 0 1 (p * h)) 1 0 h) 1 1 ((a - p) * h) = _
    rw [put01 (by omega), put10 (by omega), put11 (by omega), Int.zero_add, Int.zero_add]
  · show aPut 2 [100 - h, p * h, h, 10000 - a * q + (a - p) * h] 1 1 (a * (q - h)) = _
    rw [put11 (by omega), show 10000 - a * q + (a - p) * h + a * (q - h) = 10000 - p * h by omega]
theorem exn_end_all {p h q : Int} : lkd 0 0 ([] : List Ord) + lkd 0 0 ([] : List Ord) = 0 ∧ lkd 1 1 ([] : List Ord) + lkd 1 1 ([] : List Ord) = 0 := by
  simp [lkd, lk1, lockA, lockN, isum]
theorem exn_no {p a h q : Int} (hh : 1 ≤ h ∧ h ≤ 32) (hq : 1 ≤ q ∧ q ≤ 32) (hc : a < p) : ((mres ⟨((0 + 1 : Nat) : Int) + 1, 1, true, a, q⟩ [] [(⟨1, 0, false, p, h⟩ : Ord)]).1 = ([] : List Trd) ∧ (mres ⟨((0 + 1 : Nat) : Int) + 1, 1, true, a, q⟩ [] [(⟨1, 0, false, p, h⟩ : Ord)]).2.1 = q) ∧ mL ⟨((0 + 1 : Nat) : Int) + 1, 1, true, a, q⟩ [] [(⟨1, 0, false, p, h⟩ : Ord)] = [] ∧ mM ⟨((0 + 1 : Nat) : Int) + 1, 1, true, a, q⟩ [] [(⟨1, 0, false, p, h⟩ : Ord)] = [(⟨1, 0, false, p, h⟩ : Ord)] := by
  have hmt : meet ⟨((0 + 1 : Nat) : Int) + 1, 1, true, a, q⟩ (⟨1, 0, false, p, h⟩ : Ord) = false := by show decide (p ≤ a) = _; simp; omega
  have e : (mch ⟨((0 + 1 : Nat) : Int) + 1, 1, true, a, q⟩ q [(⟨1, 0, false, p, h⟩ : Ord)]).1 = ([] : List Trd) ∧ (mch ⟨((0 + 1 : Nat) : Int) + 1, 1, true, a, q⟩ q [(⟨1, 0, false, p, h⟩ : Ord)]).2.1 = q ∧ (mch ⟨((0 + 1 : Nat) : Int) + 1, 1, true, a, q⟩ q [(⟨1, 0, false, p, h⟩ : Ord)]).2.2 = [(⟨1, 0, false, p, h⟩ : Ord)] := by
    rw [mch_no (fun z => by rw [hmt] at z; simp at z)]; exact ⟨rfl, rfl, rfl⟩
  exact ⟨⟨e.1, e.2.1⟩, rfl, e.2.2⟩
theorem exn_pay_no {p a h q : Int} (hq : 1 ≤ q ∧ q ≤ 32) (m3 : 0 ≤ a * q ∧ a * q ≤ 2528) : aPut 2 [100 - h, 0, 0, 10000 - a * q] 1 (lockA ⟨((0 + 1 : Nat) : Int) + 1, 1, true, a, q⟩) (lockN ⟨((0 + 1 : Nat) : Int) + 1, 1, true, a, q⟩) = [100 - h, 0, 0, 10000] := by
  show aPut 2 [100 - h, 0, 0, 10000 - a * q] 1 1 (a * q) = _
  rw [put11 (by omega), show 10000 - a * q + a * q = 10000 by omega]
theorem exn_end_no {p h : Int} : lkd 0 0 ([] : List Ord) + lkd 0 0 [(⟨1, 0, false, p, h⟩ : Ord)] = h ∧ lkd 1 1 ([] : List Ord) + lkd 1 1 [(⟨1, 0, false, p, h⟩ : Ord)] = 0 := by
  simp [lkd, lk1, lockA, lockN, isum]
theorem exn_free {x0 x1 x2 x3 : Int} : aFree 2 [x0, x1, x2, x3] 1 1 = x3 ∧ aFree 2 [x0, x1, x2, x3] 1 0 = x2 ∧ aFree 2 [x0, x1, x2, x3] 0 1 = x1 ∧ aFree 2 [x0, x1, x2, x3] 0 0 = x0 := by
  simp [aFree, aErr, aHas, aAsset, aGet, aAt]

theorem sm {a b : Int} {n m k : Int} (ha : 0 ≤ a ∧ a ≤ n) (hb : 0 ≤ b ∧ b ≤ m) (hk : n * m = k) : 0 ≤ a * b ∧ a * b ≤ k := by
  refine ⟨Int.mul_nonneg ha.1 hb.1, ?_⟩
  calc a * b ≤ n * b := Int.mul_le_mul_of_nonneg_right ha.2 hb.1
    _ ≤ n * m := Int.mul_le_mul_of_nonneg_left hb.2 (by omega)
    _ = k := hk

end Go.Proofs.Yteabcpmpcbjicaa
