
import Derived.Test.YteabcpmpcbjicaaGreatAwake14
namespace Go.Proofs.YteabcpmpcbjicaaGreat
set_option linter.unusedVariables false
set_option maxRecDepth 100000
open Go Go.Proofs Go.RowKit Go.Maps

/-! A client's nonces, as many as were done. -/
def entD (i : Nat) : Ent := ⟨0, (i : Int), 0, true, ⟨1, 0, 0, false, 0, 1, 0⟩⟩
def StN : Nat → LS
  | 0 => LS1 1
  | i + 1 => (lDo 1 (StN i) (entD i)).1
def okN (d : Nat) : Bool := decide (lNextV 1 (StN d) 0 = d) && decide (aFree 1 (StN d).xs 0 1 = 1000) && decide ((lDo 1 (StN d) (entD d)).2.code = 0)
theorem okN_all : (List.range 32).all okN = true := by kernel_rfl
theorem okN_at {d : Nat} (h : d < 32) : lNextV 1 (StN d) 0 = d ∧ aFree 1 (StN d).xs 0 1 = 1000 ∧ (lDo 1 (StN d) (entD d)).2.code = 0 := by
  have := List.all_eq_true.1 okN_all d (List.mem_range.2 h)
  unfold okN at this
  simp only [Bool.and_eq_true, decide_eq_true_eq] at this
  exact ⟨this.1.1, this.1.2, this.2⟩
theorem entD_ok {i : Nat} (h : i < 32) : (entD i).Ok := by
  refine ⟨?_, ?_, ?_, ?_, ?_, ?_, ?_, ?_, ?_⟩ <;> unfold entD <;> constructor <;> dsimp only <;> omega
theorem nonce_no {d : Nat} (h : d < 32) {n : Int} (hn : n < d ∨ 15 < n - d) (c : Int) : pAddV 1 (StN d) 5 [] true ⟨0, n, 1, c⟩ = (9, []) := by
  obtain ⟨h1, h2, -⟩ := okN_at h
  unfold pAddV
  rw [if_neg (by decide), if_neg (by simp)]
  dsimp only
  rw [h1, if_pos hn]
theorem nonce_yes {d : Nat} (h : d < 32) {n : Int} (hn : ¬ (n < d ∨ 15 < n - d)) (c : Int) : pAddV 1 (StN d) 5 [] true ⟨0, n, 1, c⟩ = (0, [⟨0, n, 1, c⟩]) := by
  obtain ⟨h1, h2, -⟩ := okN_at h
  unfold pAddV
  rw [if_neg (by decide), if_neg (by simp)]
  dsimp only
  rw [h1, if_neg hn]
  have e : fsE ⟨0, n, 1, c⟩ [] = [1] := rfl
  have e1 : cSumB [1] = true := by kernel_rfl
  have e2 : cSumN [1] = 1 := by kernel_rfl
  rw [e, e1, e2, h2, if_neg (by intro q; rcases q with q | q | q <;> first | omega | cases q), if_neg (by simp)]
  rfl
end Go.Proofs.YteabcpmpcbjicaaGreat
