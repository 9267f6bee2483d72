
import Derived.Test.YteabcpmpcbjicaaLedK
namespace Go.Proofs.Yteabcpmpcbjicaa
set_option linter.unusedVariables false
open Go Go.Proofs Go.RowKit

theorem LS1_2 : LS1 2 = ⟨[1000, 1000, 1000, 1000], Zf, 0, [], [], 0, [0, 0], 2000, 2000, 0, 0⟩ := by
  unfold LS1
  have : preL 2 1 (preL 2 0 (zeros (2 * 2)) 2) 2 = [1000, 1000, 1000, 1000] := by decide
  rw [this]
  rfl
theorem ok4 {a b c d : Int} (ha : U a) (hb : U b) (hc : U c) (hd : U d) : AOk 2 [a, b, c, d] := ⟨rfl, by omega, by simp [ha, hb, hc, hd]⟩
def meS (p q : Int) : Ent := ⟨0, 0, 0, true, ⟨4, 0, 0, false, p, q, 0⟩⟩
def meB (p q : Int) : Ent := ⟨1, 0, 0, true, ⟨4, 0, 0, true, p, q, 0⟩⟩
def meS1 (p q : Int) : LS := ⟨[1000 - q, 1000, 1000, 1000], Zf, 0, [], [⟨1, 0, false, p, q⟩], 1, [1, 0], 2000, 2000, 0, 0⟩
def meB1 (p q v : Int) : LS := ⟨[1000, 1000, 1000, 1000 - v], Zf, 0, [⟨1, 1, true, p, q⟩], [], 1, [0, 1], 2000, 2000, 0, 0⟩
def meE (q v : Int) : LS := ⟨[1000 - q, 1000 + v, 1000 + q, 1000 - v], Zf, 0, [], [], 2, [1, 1], 2000, 2000, 0, 0⟩
theorem min00 : min (0 : Int) 1000 = 0 := by omega
theorem held0 (n : Nat) (S : LS) (e : Ent) (h : aHas n e.client = true) (hf : S.f = Zf) (hok : AOk n S.xs) (h0 : e.fee = 0) (hl : aAt e.client 1 < S.xs.length) : lHeld n S e = { S with f := upd Zf e.client 0 } := by
  have hg := hok.get e.client 1
  rw [lHeld_some n S e h hf hok (by omega)]
  have : min e.fee (aGet S.xs e.client 1) = 0 := by rw [h0]; have := hg.1; omega
  rw [this]
  have e2 : S.xs.set (aAt e.client 1) (aGet S.xs e.client 1 - 0) = S.xs := by
    unfold aGet
    rw [Int.sub_zero]
    simp [List.getD, hl]
  rw [e2]
theorem end0 (n : Nat) (S : LS) (r : Rcp) (c : Int) (hr : r.code = 0) (hp : r.paid = 0) (hh : aHas n c = true) (hf : S.f = upd Zf c 0) (hok : AOk n S.xs) (hg0 : U S.got) (hl : aAt c 1 < S.xs.length) : lEnd n (S, r) c = ({ S with f := Zf }, r) := by
  have hg := hok.get c 1
  rw [lEnd_ok n S r c 0 hr hh hf hok (by omega) hg0.1 (by have := hg0.2; omega) (by have := hg.2; omega)]
  have e2 : S.xs.set (aAt c 1) (aGet S.xs c 1 + (0 - min 1 0)) = S.xs := by
    have : (0 - min 1 0 : Int) = 0 := by omega
    rw [this, Int.add_zero]
    unfold aGet
    simp [List.getD, hl]
  have e3 : S.got + min 1 0 = S.got := by omega
  rw [e2, e3]
  have e4 : min (1 : Int) 0 = 0 := by omega
  rw [e4, ← hp]
theorem txok4 (b : Bool) (p q : Int) : txOk ⟨4, 0, 0, b, p, q, 0⟩ = true := by simp [txOk, txK, txF, tIn]
theorem win {p : Int} (h : 1 ≤ p ∧ p ≤ 1048576) : wIn p = true := by unfold wIn; simp; exact h
theorem meets_s1 (p q : Int) (hp : 1 ≤ p ∧ p ≤ 24) (hq : 1 ≤ q ∧ q ≤ 20) : lDo 2 (LS1 2) (meS p q) = (meS1 p q, ⟨0, 0, 1, []⟩) := by
  have hD : lDone 2 ⟨[1000, 1000, 1000, 1000], upd Zf 0 0, 0, [], [], 0, [0, 0], 2000, 2000, 0, 0⟩ (meS p q) = (⟨[1000 - q, 1000, 1000, 1000], upd Zf 0 0, 0, [], [⟨1, 0, false, p, q⟩], 1, [1, 0], 2000, 2000, 0, 0⟩, ⟨0, 0, 1, []⟩) := by
    have w1 := win (p := p) (by omega)
    have w2 := win (p := q) (by omega)
    have hc : cSubB 1000 q = true := by unfold cSubB; simp; omega
    have hn : cSubN 1000 q = 1000 - q := by unfold cSubN; split <;> omega
    have hq0 : ¬ q = 0 := by omega
    unfold lDone
    have ht : txOk (meS p q).tx = true := txok4 _ _ _
    rw [ht]
    simp [meS, aHas, lNx, lAct, lLim, mtE, w1, w2, aTakeE, aErr, aAsset, aGet, aAt, lockA, lockN, hc, hn, uW, lPaid, lOrd, lLeft, mres, mch, aTake, restL, restM, mL, mM, ins, hq0]
  unfold lDo
  rw [LS1_2, held0 2 _ (meS p q) rfl rfl (ok4 ⟨by omega, by omega⟩ ⟨by omega, by omega⟩ ⟨by omega, by omega⟩ ⟨by omega, by omega⟩) rfl (by simp [meS, aAt])]
  have hc : (meS p q).client = 0 := rfl
  rw [hc, hD]
  rw [end0 2 _ ⟨0, 0, 1, []⟩ 0 rfl rfl rfl rfl (ok4 ⟨by omega, by omega⟩ ⟨by omega, by omega⟩ ⟨by omega, by omega⟩ ⟨by omega, by omega⟩) ⟨by simp, by simp⟩ (by simp [aAt])]
  rfl
theorem meets_b1 (p q v : Int) (hp : 1 ≤ p ∧ p ≤ 24) (hq : 1 ≤ q ∧ q ≤ 20) (hv : p * q = v) (hvb : 1 ≤ v ∧ v ≤ 480) : lDo 2 (LS1 2) (meB p q) = (meB1 p q v, ⟨0, 0, 1, []⟩) := by
  have hD : lDone 2 ⟨[1000, 1000, 1000, 1000], upd Zf 1 0, 0, [], [], 0, [0, 0], 2000, 2000, 0, 0⟩ (meB p q) = (⟨[1000, 1000, 1000, 1000 - v], upd Zf 1 0, 0, [⟨1, 1, true, p, q⟩], [], 1, [0, 1], 2000, 2000, 0, 0⟩, ⟨0, 0, 1, []⟩) := by
    have w1 := win (p := p) (by omega)
    have w2 := win (p := q) (by omega)
    have hc : cSubB 1000 v = true := by unfold cSubB; simp; omega
    have hn : cSubN 1000 v = 1000 - v := by unfold cSubN; split <;> omega
    have hq0 : ¬ q = 0 := by omega
    unfold lDone
    have ht : txOk (meB p q).tx = true := txok4 _ _ _
    rw [ht]
    simp [meB, aHas, lNx, lAct, lLim, mtE, w1, w2, aTakeE, aErr, aAsset, aGet, aAt, lockA, lockN, hv, hc, hn, uW, lPaid, lOrd, lLeft, mres, mch, aTake, restL, restM, mL, mM, ins, hq0]
  unfold lDo
  rw [LS1_2, held0 2 _ (meB p q) rfl rfl (ok4 ⟨by omega, by omega⟩ ⟨by omega, by omega⟩ ⟨by omega, by omega⟩ ⟨by omega, by omega⟩) rfl (by simp [meB, aAt])]
  have hc : (meB p q).client = 1 := rfl
  rw [hc, hD]
  rw [end0 2 _ ⟨0, 0, 1, []⟩ 1 rfl rfl rfl rfl (ok4 ⟨by omega, by omega⟩ ⟨by omega, by omega⟩ ⟨by omega, by omega⟩ ⟨by omega, by omega⟩) ⟨by simp, by simp⟩ (by simp [aAt])]
  rfl
theorem meets_s2 (p P q v V d : Int) (hp : 1 ≤ p ∧ p ≤ P) (hP : P ≤ 24) (hq : 1 ≤ q ∧ q ≤ 20) (hv : p * q = v) (hV : P * q = V) (hd : (P - p) * q = d) (hvb : 1 ≤ v ∧ v ≤ 480) (hdb : 0 ≤ d ∧ V = v + d ∧ V ≤ 480) :
    lDo 2 (meS1 p q) (meB P q) = (meE q v, ⟨0, 0, 2, [⟨1, 2, 1, 0, p, q⟩]⟩) := by
  have hD : lDone 2 ⟨[1000 - q, 1000, 1000, 1000], upd Zf 1 0, 0, [], [⟨1, 0, false, p, q⟩], 1, [1, 0], 2000, 2000, 0, 0⟩ (meB P q) = (⟨[1000 - q, 1000 + v, 1000 + q, 1000 - v], upd Zf 1 0, 0, [], [], 2, [1, 1], 2000, 2000, 0, 0⟩, ⟨0, 0, 2, [⟨1, 2, 1, 0, p, q⟩]⟩) := by
    have w1 := win (p := P) (by omega)
    have w2 := win (p := q) (by omega)
    have hc : cSubB 1000 V = true := by unfold cSubB; simp; omega
    have hn : cSubN 1000 V = 1000 - V := by unfold cSubN; split <;> omega
    have a1 : cAddB 1000 v = true := by unfold cAddB; simp; omega
    have b1 : cAddN 1000 v = 1000 + v := by unfold cAddN; split <;> omega
    have a2 : cAddB 1000 q = true := by unfold cAddB; simp; omega
    have b2 : cAddN 1000 q = 1000 + q := by unfold cAddN; split <;> omega
    have a3 : cAddB (1000 - V) d = true := by unfold cAddB; simp; omega
    have b3 : cAddN (1000 - V) d = 1000 - v := by unfold cAddN; split <;> omega
    have hq0 : ¬ q = 0 := by omega
    have hq1 : 0 < q := by omega
    have hpP : p ≤ P := hp.2
    unfold lDone
    have ht : txOk (meB P q).tx = true := txok4 _ _ _
    rw [ht]
    simp [meB, aHas, lNx, lAct, lLim, mtE, w1, w2, aTakeE, aErr, aAsset, aGet, aAt, lockA, lockN, hV, hc, hn, uW, lPaid, lOrd, lLeft, mres, mch, meet, trd, hq1, hpP, aTake, restL, restM, mL, mM, payL, aPut, aPutE, hv, hd, a1, b1, a2, b2, a3, b3]
  unfold lDo
  rw [held0 2 (meS1 p q) (meB P q) rfl rfl (ok4 ⟨by omega, by omega⟩ ⟨by omega, by omega⟩ ⟨by omega, by omega⟩ ⟨by omega, by omega⟩) rfl (by simp [meB, meS1, aAt])]
  have hc : (meB P q).client = 1 := rfl
  rw [hc]
  show lEnd 2 (lDone 2 ⟨[1000 - q, 1000, 1000, 1000], upd Zf 1 0, 0, [], [⟨1, 0, false, p, q⟩], 1, [1, 0], 2000, 2000, 0, 0⟩ (meB P q)) 1 = _
  rw [hD]
  rw [end0 2 _ ⟨0, 0, 2, [⟨1, 2, 1, 0, p, q⟩]⟩ 1 rfl rfl rfl rfl (ok4 ⟨by omega, by omega⟩ ⟨by omega, by omega⟩ ⟨by omega, by omega⟩ ⟨by omega, by omega⟩) ⟨by simp, by simp⟩ (by simp [aAt])]
  rfl
theorem meets_b2 (p P q V : Int) (hp : 1 ≤ p ∧ p ≤ P) (hP : P ≤ 24) (hq : 1 ≤ q ∧ q ≤ 20) (hV : P * q = V) (hvb : 1 ≤ V ∧ V ≤ 480) :
    lDo 2 (meB1 P q V) (meS p q) = (meE q V, ⟨0, 0, 2, [⟨1, 2, 1, 0, P, q⟩]⟩) := by
  have hD : lDone 2 ⟨[1000, 1000, 1000, 1000 - V], upd Zf 0 0, 0, [⟨1, 1, true, P, q⟩], [], 1, [0, 1], 2000, 2000, 0, 0⟩ (meS p q) = (⟨[1000 - q, 1000 + V, 1000 + q, 1000 - V], upd Zf 0 0, 0, [], [], 2, [1, 1], 2000, 2000, 0, 0⟩, ⟨0, 0, 2, [⟨1, 2, 1, 0, P, q⟩]⟩) := by
    have w1 := win (p := p) (by omega)
    have w2 := win (p := q) (by omega)
    have hc : cSubB 1000 q = true := by unfold cSubB; simp; omega
    have hn : cSubN 1000 q = 1000 - q := by unfold cSubN; split <;> omega
    have a1 : cAddB 1000 V = true := by unfold cAddB; simp; omega
    have b1 : cAddN 1000 V = 1000 + V := by unfold cAddN; split <;> omega
    have a2 : cAddB 1000 q = true := by unfold cAddB; simp; omega
    have b2 : cAddN 1000 q = 1000 + q := by unfold cAddN; split <;> omega
    have hq0 : ¬ q = 0 := by omega
    have hq1 : 0 < q := by omega
    have hpP : p ≤ P := hp.2
    unfold lDone
    have ht : txOk (meS p q).tx = true := txok4 _ _ _
    rw [ht]
    simp [meS, aHas, lNx, lAct, lLim, mtE, w1, w2, aTakeE, aErr, aAsset, aGet, aAt, lockA, lockN, hV, hc, hn, uW, lPaid, lOrd, lLeft, mres, mch, meet, trd, hq1, hpP, aTake, restL, restM, mL, mM, payL, aPut, aPutE, a1, b1, a2, b2]
  unfold lDo
  rw [held0 2 (meB1 P q V) (meS p q) rfl rfl (ok4 ⟨by omega, by omega⟩ ⟨by omega, by omega⟩ ⟨by omega, by omega⟩ ⟨by omega, by omega⟩) rfl (by simp [meS, meB1, aAt])]
  have hc : (meS p q).client = 0 := rfl
  rw [hc]
  show lEnd 2 (lDone 2 ⟨[1000, 1000, 1000, 1000 - V], upd Zf 0 0, 0, [⟨1, 1, true, P, q⟩], [], 1, [0, 1], 2000, 2000, 0, 0⟩ (meS p q)) 0 = _
  rw [hD]
  rw [end0 2 _ ⟨0, 0, 2, [⟨1, 2, 1, 0, P, q⟩]⟩ 0 rfl rfl rfl rfl (ok4 ⟨by omega, by omega⟩ ⟨by omega, by omega⟩ ⟨by omega, by omega⟩ ⟨by omega, by omega⟩) ⟨by simp, by simp⟩ (by simp [aAt])]
  rfl
end Go.Proofs.Yteabcpmpcbjicaa
