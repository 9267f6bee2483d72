
import Derived.Shelf.Bits.Mul64
import Derived.Lib.Mul64
import Derived.Test.YteabcpmpcbjicaaGreatChk
namespace Go.Proofs.YteabcpmpcbjicaaGreat
open Go Go.Proofs Go.RowKit

theorem mul64_any (x y : Nat) (hx : x < 18446744073709551616) (hy : y < 18446744073709551616) (w : World) :
    Calls Tryz.prog 190 #[.int .u64 x, .int .u64 y] w fun e w' => e = .returned (.tuple #[.int .u64 ((x * y / 18446744073709551616 : Nat) : Int), .int .u64 ((x * y % 18446744073709551616 : Nat) : Int)]) ∧ w = w' := by
  obtain ⟨bd, bt, bw, hhi⟩ := Lib.mul64_hi x y hx hy
  have ba := Lib.half_mul_le (a := x / 4294967296) (b := y / 4294967296) (by omega) (by omega)
  have bb := Lib.half_mul_le (a := x / 4294967296) (b := y % 4294967296) (by omega) (by omega)
  have bc := Lib.half_mul_le (a := x % 4294967296) (b := y / 4294967296) (by omega) (by omega)
  have ba' : x / 4294967296 * (y / 4294967296) < 18446744073709551616 := by omega
  have bb' : x / 4294967296 * (y % 4294967296) < 18446744073709551616 := by omega
  have bc' : x % 4294967296 * (y / 4294967296) < 18446744073709551616 := by omega
  have bh1 : x / 4294967296 * (y / 4294967296) + (x / 4294967296 * (y % 4294967296) + x % 4294967296 * (y % 4294967296) / 4294967296) / 4294967296 < 18446744073709551616 := by omega
  have bh : x / 4294967296 * (y / 4294967296) + (x / 4294967296 * (y % 4294967296) + x % 4294967296 * (y % 4294967296) / 4294967296) / 4294967296 + ((x / 4294967296 * (y % 4294967296) + x % 4294967296 * (y % 4294967296) / 4294967296) % 4294967296 + x % 4294967296 * (y / 4294967296)) / 4294967296 < 18446744073709551616 := by omega
  go_enter Tryz.func190, Tryz.ntmps190
  go_wp2
  simp only [Mul64.maskN x hx, Mul64.maskN y hy, Mul64.divN, Mul64.mulN, Mul64.addN, Mul64.wrapN _ bd, Mul64.wrapN _ bb', Mul64.wrapN _ bt, Mul64.maskN _ bt, Mul64.wrapN _ bc', Mul64.wrapN _ bw, Mul64.wrapN _ ba', Mul64.wrapN _ bh1, Mul64.wrapN _ bh, Mul64.wrapM (x * y)]
  rw [hhi]
  go_ret2
  exact ⟨rfl, rfl⟩

theorem mul_ok (a b : Nat) (w : World) (h1 : a < 18446744073709551616) (h2 : b < 18446744073709551616) (hi lo : Int) (H : Hid (((a * b / 18446744073709551616 : Nat) : Int) = hi)) (H2 : Hid (((a * b % 18446744073709551616 : Nat) : Int) = lo)) (hz : ¬ 0 < hi) :
    Calls Tryz.prog 174 #[.int .u64 a, .int .u64 b] w fun e w' => e = .returned (.tuple #[.int .u64 lo, .bool true]) ∧ w = w' := by
  go_enter Tryz.func174, Tryz.ntmps174
  go_wp2_with (go_at_call 190; refine (mul64_any a b h1 h2 _).mono ?_; rw [H.out, H2.out]; rintro e w' ⟨rfl, rfl⟩)
  go_ret2
  exact ⟨rfl, rfl⟩

theorem mul_no (a b : Nat) (w : World) (h1 : a < 18446744073709551616) (h2 : b < 18446744073709551616) (hi lo : Int) (H : Hid (((a * b / 18446744073709551616 : Nat) : Int) = hi)) (H2 : Hid (((a * b % 18446744073709551616 : Nat) : Int) = lo)) (hz : 0 < hi) :
    Calls Tryz.prog 174 #[.int .u64 a, .int .u64 b] w fun e w' => e = .returned (.tuple #[.int .u64 0, .bool false]) ∧ w = w' := by
  go_enter Tryz.func174, Tryz.ntmps174
  go_wp2_with (go_at_call 190; refine (mul64_any a b h1 h2 _).mono ?_; rw [H.out, H2.out]; rintro e w' ⟨rfl, rfl⟩)
  go_ret2
  exact ⟨rfl, rfl⟩

/-- chk.Mul. -/
theorem mul_any (a b : Int) (w : World) (ha : U a) (hb : U b) :
    Calls Tryz.prog 174 #[.int .u64 a, .int .u64 b] w fun e w' => e = .returned (.tuple #[.int .u64 (cMulN a b), .bool (cMulB a b)]) ∧ w = w' := by
  obtain ⟨m, rfl, hm⟩ := ha.nat
  obtain ⟨n, rfl, hn⟩ := hb.nat
  have e : ((m : Int) * (n : Int)) = ((m * n : Nat) : Int) := (Int.natCast_mul m n).symm
  by_cases h : m * n < 18446744073709551616
  · refine (mul_ok m n w hm hn _ _ rfl rfl (by rw [Nat.div_eq_of_lt h]; omega)).mono fun e w' ⟨he, hw⟩ => ⟨?_, hw⟩
    rw [he]
    exact ret_tup (by unfold cMulN; rw [if_pos (by omega)]; omega) (by unfold cMulB; symm; simp; omega)
  · refine (mul_no m n w hm hn _ _ rfl rfl (by omega)).mono fun e w' ⟨he, hw⟩ => ⟨?_, hw⟩
    rw [he]
    exact ret_tup (by unfold cMulN; rw [if_neg (by omega)]) (by unfold cMulB; symm; simp; omega)

theorem mul_is (a b n : Int) (ok : Bool) (w : World) (ha : U a) (hb : U b) (h1 : cMulN a b = n) (h2 : cMulB a b = ok) :
    Calls Tryz.prog 174 #[.int .u64 a, .int .u64 b] w fun e w' => e = .returned (.tuple #[.int .u64 n, .bool ok]) ∧ w = w' := by
  subst h1; subst h2; exact mul_any a b w ha hb
end Go.Proofs.YteabcpmpcbjicaaGreat
