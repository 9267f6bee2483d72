
import Derived.Test.YteabcpmpcbjicaaChk
namespace Go.Proofs.Yteabcpmpcbjicaa
set_option linter.unusedVariables false
open Go Go.Proofs Go.RowKit

/-- The reference's sum, difference, product: the same as the program's. -/
theorem radd_any (a b : Int) (w : World) (ha : U a) (hb : U b) :
    Calls Try.prog 96 #[.int .u64 a, .int .u64 b] w fun e w' => e = .returned (.tuple #[.int .u64 (cAddN a b), .bool (cAddB a b)]) ∧ w = w' := by
  have hw : IntKind.u64.wrap (18446744073709551615 - b) = 18446744073709551615 - b := by
    obtain ⟨h3, h4⟩ := hb; rw [IntKind.wrap_u64]; omega
  by_cases h : a + b < 18446744073709551616
  · have hv : IntKind.u64.wrap (a + b) = cAddN a b := by
      have := ha.1; have := hb.1; rw [IntKind.wrap_u64]; unfold cAddN; rw [if_pos h]; omega
    have hB : cAddB a b = true := by unfold cAddB; simpa using h
    have ht : ¬ IntKind.u64.wrap (18446744073709551615 - b) < a := by rw [hw]; omega
    have HV := Lib.hid hv
    have HB := Lib.hid hB
    clear hw hv hB h
    go_enter Try.func96, Try.ntmps96
    go_wp2
    go_ret2
    exact ⟨ret_tup HV.out HB.out.symm, rfl⟩
  · have hv : cAddN a b = 0 := by unfold cAddN; rw [if_neg h]
    have hB : cAddB a b = false := by unfold cAddB; simpa using h
    have ht : IntKind.u64.wrap (18446744073709551615 - b) < a := by rw [hw]; omega
    have HV := Lib.hid hv
    have HB := Lib.hid hB
    clear hw hv hB h
    go_enter Try.func96, Try.ntmps96
    go_wp2
    go_ret2
    exact ⟨ret_tup HV.out.symm HB.out.symm, rfl⟩

theorem rsub_any (a b : Int) (w : World) (ha : U a) (hb : U b) :
    Calls Try.prog 131 #[.int .u64 a, .int .u64 b] w fun e w' => e = .returned (.tuple #[.int .u64 (cSubN a b), .bool (cSubB a b)]) ∧ w = w' := by
  obtain ⟨h1, h2⟩ := ha; obtain ⟨h3, h4⟩ := hb
  by_cases h : a < b
  · go_enter Try.func131, Try.ntmps131
    go_wp2
    go_ret2
    exact ⟨ret_tup (by unfold cSubN; rw [if_neg (by omega)]) (by unfold cSubB; symm; simp; omega), rfl⟩
  · go_enter Try.func131, Try.ntmps131
    go_wp2
    go_ret2
    exact ⟨ret_tup (by unfold cSubN; rw [if_pos (by omega)]) (by unfold cSubB; symm; simp; omega), rfl⟩

end Go.Proofs.Yteabcpmpcbjicaa
