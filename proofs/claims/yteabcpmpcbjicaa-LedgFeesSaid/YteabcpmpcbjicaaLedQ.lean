
import Derived.Test.YteabcpmpcbjicaaLedK
import Derived.Test.YteabcpmpcbjicaaLedI
namespace Go.Proofs.Yteabcpmpcbjicaa
set_option linter.unusedVariables false
open Go Go.Proofs Go.RowKit

def feS (left : Int) : LS := ⟨[1000, left], Zf, 0, [], [], 0, [1], 1000, 1000, 0, 1000 - left⟩
def feE1 (left : Int) : Ent := ⟨0, 0, 0, true, ⟨2, 1, 0, false, 0, 1000 - left, 0⟩⟩
def feE2 (fee : Int) (good : Bool) : Ent := ⟨0, 1, fee, good, ⟨1, 0, 0, false, 0, 7, 0⟩⟩
theorem LS1_1 : LS1 1 = ⟨[1000, 1000], Zf, 0, [], [], 0, [0], 1000, 1000, 0, 0⟩ := by
  unfold LS1
  have : preL 1 1 (preL 1 0 (zeros (1 * 2)) 1) 1 = [1000, 1000] := by decide
  rw [this]
  rfl
theorem ok2 {a b : Int} (ha : U a) (hb : U b) : AOk 1 [a, b] := ⟨rfl, by omega, by simp [ha, hb]⟩
theorem fees_1 (left : Int) (h0 : 0 ≤ left) (h1 : left ≤ 1000) : lDo 1 (LS1 1) (feE1 left) = (feS left, no 0) := by
  have hq : (1000 - (1000 - left) : Int) = left := by omega
  have hH : lHeld 1 (LS1 1) (feE1 left) = ⟨[1000, 1000], upd Zf 0 0, 0, [], [], 0, [0], 1000, 1000, 0, 0⟩ := by
    rw [LS1_1, lHeld_some 1 _ (feE1 left) rfl rfl (ok2 ⟨by omega, by omega⟩ ⟨by omega, by omega⟩) (by simp [feE1])]
    have m0 : min (0 : Int) 1000 = 0 := by omega
    simp [feE1, aAt, aGet, m0]
  have hD : lDone 1 ⟨[1000, 1000], upd Zf 0 0, 0, [], [], 0, [0], 1000, 1000, 0, 0⟩ (feE1 left) = (⟨[1000, left], upd Zf 0 0, 0, [], [], 0, [1], 1000, 1000, 0, 1000 - left⟩, no 0) := by
    have ht : txOk (feE1 left).tx = true := by simp [txOk, feE1, txK, txF, tIn]
    have hE : aTakeE 1 [1000, 1000] 0 1 (1000 - left) = 0 := by
      have : cSubB 1000 (1000 - left) = true := by simp [cSubB]; omega
      simp [aTakeE, aErr, aHas, aAsset, aGet, aAt, this]
    have hX : aTake 1 [1000, 1000] 0 1 (1000 - left) = [1000, left] := by
      unfold aTake
      rw [if_pos hE]
      have : cSubN 1000 (1000 - left) = left := by unfold cSubN; split <;> omega
      simp [aGet, aAt, this]
    unfold lDone
    rw [ht]
    simp [feE1, aHas, lNx, lAct, lWd, hE, hX, uW]
    omega
  unfold lDo
  rw [hH, hD]
  rw [lEnd_ok 1 _ (no 0) (feE1 left).client 0 rfl rfl rfl (ok2 ⟨by omega, by omega⟩ ⟨h0, by omega⟩) (by omega) (by simp) (by simp) (by simp [feE1, aGet, aAt]; omega)]
  have m1 : min (1 : Int) 0 = 0 := by omega
  simp [feE1, aGet, aAt, feS, no, m1]
theorem fees_2 (left fee : Int) (good : Bool) (h0 : 0 ≤ left) (h1 : left ≤ 1000) (hf : U fee) : ∃ S2 r2, lDo 1 (feS left) (feE2 fee good) = (S2, r2) ∧ r2.paid = (if good = true then min (min fee left) 1 else min fee left) ∧ aFree 1 S2.xs 0 1 = left - r2.paid ∧ aFree 1 S2.xs 0 0 = (if good = true then 1007 else 1000) ∧ S2.got = r2.paid ∧ r2.T = [] ∧ r2.id = 0 ∧ r2.code = (if good = true then 0 else 2) := by
  obtain ⟨h, hh⟩ : ∃ h, min fee left = h := ⟨_, rfl⟩
  have hb : 0 ≤ h ∧ h ≤ left := by have := hf.1; omega
  have hH : lHeld 1 (feS left) (feE2 fee good) = ⟨[1000, left - h], upd Zf 0 h, 0, [], [], 0, [1], 1000, 1000, 0, 1000 - left⟩ := by
    rw [lHeld_some 1 (feS left) (feE2 fee good) rfl rfl (ok2 ⟨by omega, by omega⟩ ⟨h0, by omega⟩) hf.1]
    simp [feE2, feS, aAt, aGet, hh]
  cases good
  · have hD : lDone 1 ⟨[1000, left - h], upd Zf 0 h, 0, [], [], 0, [1], 1000, 1000, 0, 1000 - left⟩ (feE2 fee false) = (⟨[1000, left - h], upd Zf 0 h, 0, [], [], 0, [1], 1000, 1000, 0, 1000 - left⟩, no 2) := by
      unfold lDone
      simp [feE2, aHas]
    have hX := lEnd_bad 1 ⟨[1000, left - h], upd Zf 0 h, 0, [], [], 0, [1], 1000, 1000, 0, 1000 - left⟩ (no 2) (feE2 fee false).client h (by simp [no]) rfl hb.1 (by simp) (by simp; omega)
    have hY : lDo 1 (feS left) (feE2 fee false) = lEnd 1 (lDone 1 (lHeld 1 (feS left) (feE2 fee false)) (feE2 fee false)) (feE2 fee false).client := rfl
    rw [hH, hD, hX] at hY
    refine ⟨_, _, hY, ?_⟩
    simp [no, hh, aFree, aErr, aHas, aAsset, aGet, aAt]
  · have hD : lDone 1 ⟨[1000, left - h], upd Zf 0 h, 0, [], [], 0, [1], 1000, 1000, 0, 1000 - left⟩ (feE2 fee true) = (⟨[1007, left - h], upd Zf 0 h, 0, [], [], 0, [2], 1007, 1000, 0, 1000 - left⟩, no 0) := by
      have ht : txOk (feE2 fee true).tx = true := by simp [txOk, feE2, txK, txF, tIn]
      unfold lDone
      rw [ht]
      simp [feE2, aHas, lNx, lAct, lDep, lDepOk, lG, cAddB, cAddN, uW, aPut, aPutE, aErr, aAsset, aGet, aAt]
    have hX := lEnd_ok 1 ⟨[1007, left - h], upd Zf 0 h, 0, [], [], 0, [2], 1007, 1000, 0, 1000 - left⟩ (no 0) (feE2 fee true).client h rfl rfl rfl (ok2 ⟨by omega, by omega⟩ ⟨by omega, by omega⟩) hb.1 (by simp) (by simp; omega) (by simp [feE2, aGet, aAt]; omega)
    have hY : lDo 1 (feS left) (feE2 fee true) = lEnd 1 (lDone 1 (lHeld 1 (feS left) (feE2 fee true)) (feE2 fee true)) (feE2 fee true).client := rfl
    rw [hH, hD, hX] at hY
    refine ⟨_, _, hY, ?_⟩
    have m1 : min 1 h = min h 1 := by omega
    simp [no, hh, aFree, aErr, aHas, aAsset, aGet, aAt, feE2, m1]
    omega
end Go.Proofs.Yteabcpmpcbjicaa
