import Derived.Test.YtkjkkchpicehoaaLaw1
import Derived.Deep.CutBlock
namespace Go.Proofs.Ytkjkkchpicehoaa
set_option linter.unusedVariables false
open Go Go.Proofs Go.RowKit

theorem tmod11 (a : Int) : (bits BinOp.and IntKind.i64 a 255).tmod 11 = 0 ∨ (bits BinOp.and IntKind.i64 a 255).tmod 11 = 1 ∨ (bits BinOp.and IntKind.i64 a 255).tmod 11 = 2 ∨ (bits BinOp.and IntKind.i64 a 255).tmod 11 = 3 ∨ (bits BinOp.and IntKind.i64 a 255).tmod 11 = 4 ∨ (bits BinOp.and IntKind.i64 a 255).tmod 11 = 5 ∨ (bits BinOp.and IntKind.i64 a 255).tmod 11 = 6 ∨ (bits BinOp.and IntKind.i64 a 255).tmod 11 = 7 ∨ (bits BinOp.and IntKind.i64 a 255).tmod 11 = 8 ∨ (bits BinOp.and IntKind.i64 a 255).tmod 11 = 9 ∨ (bits BinOp.and IntKind.i64 a 255).tmod 11 = 10 := by
  have h0 : 0 ≤ bits BinOp.and IntKind.i64 a 255 := and255_nonneg a
  have h1 := Int.tmod_nonneg 11 h0
  have h2 := Int.tmod_lt_of_pos (bits BinOp.and IntKind.i64 a 255) (show (0 : Int) < 11 by omega)
  omega

set_option maxRecDepth 100000 in
set_option maxHeartbeats 4000000 in
theorem ends_walk (a : Int) (w : World) :
    Calls Try.prog 3 #[.int .i64 a] w fun e w' => e = .returned (.bool true) ∧ Below w.heap.size w w' := by
  have hk := Lib.hid (tmod11 a)
  go_enter Try.func3, Try.ntmps3
  go_upto_region 2 with (fail)
  rcases hk.out with h | h | h | h | h | h | h | h | h | h | h
  all_goals clear hk
  · go_wp2_with fail
    refine (add_is 0 0 0 true _ ⟨by omega, by omega⟩ ⟨by omega, by omega⟩ (by decide) (by decide)).mono ?_
    rintro e w' ⟨rfl, rfl⟩
    go_wp2_with fail
    refine (sub_is 0 0 0 true _ ⟨by omega, by omega⟩ ⟨by omega, by omega⟩ (by decide) (by decide)).mono ?_
    rintro e w' ⟨rfl, rfl⟩
    go_wp2_with fail
    refine (mul_is 0 0 0 true _ ⟨by omega, by omega⟩ ⟨by omega, by omega⟩ (by decide) (by decide)).mono ?_
    rintro e w' ⟨rfl, rfl⟩
    go_wp2_with fail
    refine (awake1 _).mono ?_
    rintro e w' ⟨rfl, hw⟩
    go_wp2_with fail
    go_ret
    exact ⟨rfl, (((Below.refl _ _).alloc (Nat.le_refl _) _).alloc (by simp) _).trans (hw.mono (by simp; omega))⟩
  · go_wp2_with fail
    refine (add_is 18446744073709551615 0 18446744073709551615 true _ ⟨by omega, by omega⟩ ⟨by omega, by omega⟩ (by decide) (by decide)).mono ?_
    rintro e w' ⟨rfl, rfl⟩
    go_wp2_with fail
    refine (sub_is 18446744073709551615 0 18446744073709551615 true _ ⟨by omega, by omega⟩ ⟨by omega, by omega⟩ (by decide) (by decide)).mono ?_
    rintro e w' ⟨rfl, rfl⟩
    go_wp2_with fail
    refine (mul_is 18446744073709551615 0 0 true _ ⟨by omega, by omega⟩ ⟨by omega, by omega⟩ (by decide) (by decide)).mono ?_
    rintro e w' ⟨rfl, rfl⟩
    go_wp2_with fail
    refine (awake1 _).mono ?_
    rintro e w' ⟨rfl, hw⟩
    go_wp2_with fail
    go_ret
    exact ⟨rfl, (((Below.refl _ _).alloc (Nat.le_refl _) _).alloc (by simp) _).trans (hw.mono (by simp; omega))⟩
  · go_wp2_with fail
    refine (add_is 0 18446744073709551615 18446744073709551615 true _ ⟨by omega, by omega⟩ ⟨by omega, by omega⟩ (by decide) (by decide)).mono ?_
    rintro e w' ⟨rfl, rfl⟩
    go_wp2_with fail
    refine (sub_is 0 18446744073709551615 0 false _ ⟨by omega, by omega⟩ ⟨by omega, by omega⟩ (by decide) (by decide)).mono ?_
    rintro e w' ⟨rfl, rfl⟩
    go_wp2_with fail
    refine (mul_is 0 18446744073709551615 0 true _ ⟨by omega, by omega⟩ ⟨by omega, by omega⟩ (by decide) (by decide)).mono ?_
    rintro e w' ⟨rfl, rfl⟩
    go_wp2_with fail
    refine (awake1 _).mono ?_
    rintro e w' ⟨rfl, hw⟩
    go_wp2_with fail
    go_ret
    exact ⟨rfl, (((Below.refl _ _).alloc (Nat.le_refl _) _).alloc (by simp) _).trans (hw.mono (by simp; omega))⟩
  · go_wp2_with fail
    refine (add_is 18446744073709551615 1 0 false _ ⟨by omega, by omega⟩ ⟨by omega, by omega⟩ (by decide) (by decide)).mono ?_
    rintro e w' ⟨rfl, rfl⟩
    go_wp2_with fail
    refine (sub_is 18446744073709551615 1 18446744073709551614 true _ ⟨by omega, by omega⟩ ⟨by omega, by omega⟩ (by decide) (by decide)).mono ?_
    rintro e w' ⟨rfl, rfl⟩
    go_wp2_with fail
    refine (mul_is 18446744073709551615 1 18446744073709551615 true _ ⟨by omega, by omega⟩ ⟨by omega, by omega⟩ (by decide) (by decide)).mono ?_
    rintro e w' ⟨rfl, rfl⟩
    go_wp2_with fail
    refine (awake1 _).mono ?_
    rintro e w' ⟨rfl, hw⟩
    go_wp2_with fail
    go_ret
    exact ⟨rfl, (((Below.refl _ _).alloc (Nat.le_refl _) _).alloc (by simp) _).trans (hw.mono (by simp; omega))⟩
  · go_wp2_with fail
    refine (add_is 18446744073709551615 18446744073709551615 0 false _ ⟨by omega, by omega⟩ ⟨by omega, by omega⟩ (by decide) (by decide)).mono ?_
    rintro e w' ⟨rfl, rfl⟩
    go_wp2_with fail
    refine (sub_is 18446744073709551615 18446744073709551615 0 true _ ⟨by omega, by omega⟩ ⟨by omega, by omega⟩ (by decide) (by decide)).mono ?_
    rintro e w' ⟨rfl, rfl⟩
    go_wp2_with fail
    refine (mul_is 18446744073709551615 18446744073709551615 0 false _ ⟨by omega, by omega⟩ ⟨by omega, by omega⟩ (by decide) (by decide)).mono ?_
    rintro e w' ⟨rfl, rfl⟩
    go_wp2_with fail
    refine (awake1 _).mono ?_
    rintro e w' ⟨rfl, hw⟩
    go_wp2_with fail
    go_ret
    exact ⟨rfl, (((Below.refl _ _).alloc (Nat.le_refl _) _).alloc (by simp) _).trans (hw.mono (by simp; omega))⟩
  · go_wp2_with fail
    refine (add_is 9223372036854775808 9223372036854775808 0 false _ ⟨by omega, by omega⟩ ⟨by omega, by omega⟩ (by decide) (by decide)).mono ?_
    rintro e w' ⟨rfl, rfl⟩
    go_wp2_with fail
    refine (sub_is 9223372036854775808 9223372036854775808 0 true _ ⟨by omega, by omega⟩ ⟨by omega, by omega⟩ (by decide) (by decide)).mono ?_
    rintro e w' ⟨rfl, rfl⟩
    go_wp2_with fail
    refine (mul_is 9223372036854775808 9223372036854775808 0 false _ ⟨by omega, by omega⟩ ⟨by omega, by omega⟩ (by decide) (by decide)).mono ?_
    rintro e w' ⟨rfl, rfl⟩
    go_wp2_with fail
    refine (awake1 _).mono ?_
    rintro e w' ⟨rfl, hw⟩
    go_wp2_with fail
    go_ret
    exact ⟨rfl, (((Below.refl _ _).alloc (Nat.le_refl _) _).alloc (by simp) _).trans (hw.mono (by simp; omega))⟩
  · go_wp2_with fail
    refine (add_is 9223372036854775807 9223372036854775808 18446744073709551615 true _ ⟨by omega, by omega⟩ ⟨by omega, by omega⟩ (by decide) (by decide)).mono ?_
    rintro e w' ⟨rfl, rfl⟩
    go_wp2_with fail
    refine (sub_is 9223372036854775807 9223372036854775808 0 false _ ⟨by omega, by omega⟩ ⟨by omega, by omega⟩ (by decide) (by decide)).mono ?_
    rintro e w' ⟨rfl, rfl⟩
    go_wp2_with fail
    refine (mul_is 9223372036854775807 9223372036854775808 0 false _ ⟨by omega, by omega⟩ ⟨by omega, by omega⟩ (by decide) (by decide)).mono ?_
    rintro e w' ⟨rfl, rfl⟩
    go_wp2_with fail
    refine (awake1 _).mono ?_
    rintro e w' ⟨rfl, hw⟩
    go_wp2_with fail
    go_ret
    exact ⟨rfl, (((Below.refl _ _).alloc (Nat.le_refl _) _).alloc (by simp) _).trans (hw.mono (by simp; omega))⟩
  · go_wp2_with fail
    refine (add_is 4294967296 4294967296 8589934592 true _ ⟨by omega, by omega⟩ ⟨by omega, by omega⟩ (by decide) (by decide)).mono ?_
    rintro e w' ⟨rfl, rfl⟩
    go_wp2_with fail
    refine (sub_is 4294967296 4294967296 0 true _ ⟨by omega, by omega⟩ ⟨by omega, by omega⟩ (by decide) (by decide)).mono ?_
    rintro e w' ⟨rfl, rfl⟩
    go_wp2_with fail
    refine (mul_is 4294967296 4294967296 0 false _ ⟨by omega, by omega⟩ ⟨by omega, by omega⟩ (by decide) (by decide)).mono ?_
    rintro e w' ⟨rfl, rfl⟩
    go_wp2_with fail
    refine (awake1 _).mono ?_
    rintro e w' ⟨rfl, hw⟩
    go_wp2_with fail
    go_ret
    exact ⟨rfl, (((Below.refl _ _).alloc (Nat.le_refl _) _).alloc (by simp) _).trans (hw.mono (by simp; omega))⟩
  · go_wp2_with fail
    refine (add_is 4294967296 4294967295 8589934591 true _ ⟨by omega, by omega⟩ ⟨by omega, by omega⟩ (by decide) (by decide)).mono ?_
    rintro e w' ⟨rfl, rfl⟩
    go_wp2_with fail
    refine (sub_is 4294967296 4294967295 1 true _ ⟨by omega, by omega⟩ ⟨by omega, by omega⟩ (by decide) (by decide)).mono ?_
    rintro e w' ⟨rfl, rfl⟩
    go_wp2_with fail
    refine (mul_is 4294967296 4294967295 18446744069414584320 true _ ⟨by omega, by omega⟩ ⟨by omega, by omega⟩ (by decide) (by decide)).mono ?_
    rintro e w' ⟨rfl, rfl⟩
    go_wp2_with fail
    refine (awake1 _).mono ?_
    rintro e w' ⟨rfl, hw⟩
    go_wp2_with fail
    go_ret
    exact ⟨rfl, (((Below.refl _ _).alloc (Nat.le_refl _) _).alloc (by simp) _).trans (hw.mono (by simp; omega))⟩
  · go_wp2_with fail
    refine (add_is 6148914691236517205 3 6148914691236517208 true _ ⟨by omega, by omega⟩ ⟨by omega, by omega⟩ (by decide) (by decide)).mono ?_
    rintro e w' ⟨rfl, rfl⟩
    go_wp2_with fail
    refine (sub_is 6148914691236517205 3 6148914691236517202 true _ ⟨by omega, by omega⟩ ⟨by omega, by omega⟩ (by decide) (by decide)).mono ?_
    rintro e w' ⟨rfl, rfl⟩
    go_wp2_with fail
    refine (mul_is 6148914691236517205 3 18446744073709551615 true _ ⟨by omega, by omega⟩ ⟨by omega, by omega⟩ (by decide) (by decide)).mono ?_
    rintro e w' ⟨rfl, rfl⟩
    go_wp2_with fail
    refine (awake1 _).mono ?_
    rintro e w' ⟨rfl, hw⟩
    go_wp2_with fail
    go_ret
    exact ⟨rfl, (((Below.refl _ _).alloc (Nat.le_refl _) _).alloc (by simp) _).trans (hw.mono (by simp; omega))⟩
  · go_wp2_with fail
    refine (add_is 6148914691236517206 3 6148914691236517209 true _ ⟨by omega, by omega⟩ ⟨by omega, by omega⟩ (by decide) (by decide)).mono ?_
    rintro e w' ⟨rfl, rfl⟩
    go_wp2_with fail
    refine (sub_is 6148914691236517206 3 6148914691236517203 true _ ⟨by omega, by omega⟩ ⟨by omega, by omega⟩ (by decide) (by decide)).mono ?_
    rintro e w' ⟨rfl, rfl⟩
    go_wp2_with fail
    refine (mul_is 6148914691236517206 3 0 false _ ⟨by omega, by omega⟩ ⟨by omega, by omega⟩ (by decide) (by decide)).mono ?_
    rintro e w' ⟨rfl, rfl⟩
    go_wp2_with fail
    refine (awake1 _).mono ?_
    rintro e w' ⟨rfl, hw⟩
    go_wp2_with fail
    go_ret
    exact ⟨rfl, (((Below.refl _ _).alloc (Nat.le_refl _) _).alloc (by simp) _).trans (hw.mono (by simp; omega))⟩
end Go.Proofs.Ytkjkkchpicehoaa
