import Derived.WalkKit
import Derived.WalkLawsBesides
import Derived.Shelf.Spec.BitsCarry
import Derived.Lib.Hide
import Derived.Laws.BitsAllLaws
import Derived.Test.YtkjkkchpicehoaaProg
namespace Go.Proofs.Ytkjkkchpicehoaa
open Go Go.Proofs Go.RowKit

/-- A number of 64 bits, without a sign. -/
def U (a : Int) : Prop := 0 ≤ a ∧ a < 18446744073709551616
def I (a : Int) : Prop := -9223372036854775808 ≤ a ∧ a ≤ 9223372036854775807

theorem ret_int {k : IntKind} {a b : Int} (h : a = b) : Ending.returned (.int k a) = .returned (.int k b) := by rw [h]
theorem ret_tup {k : IntKind} {a b : Int} {x y : Bool} (h : a = b) (g : x = y) : Ending.returned (.tuple #[.int k a, .bool x]) = .returned (.tuple #[.int k b, .bool y]) := by rw [h, g]

/-- chk.Add: its number, and whether it is one. -/
def cAddN (a b : Int) : Int := if a + b < 18446744073709551616 then a + b else 0
def cAddB (a b : Int) : Bool := decide (a + b < 18446744073709551616)
def cSubN (a b : Int) : Int := if b ≤ a then a - b else 0
def cSubB (a b : Int) : Bool := decide (b ≤ a)
def cMulN (a b : Int) : Int := if a * b < 18446744073709551616 then a * b else 0
def cMulB (a b : Int) : Bool := decide (a * b < 18446744073709551616)
/-- chk.Sum: from a sum on; none: it is none. -/
def sumFrom : Int → List Int → Option Int
  | s, [] => some s
  | s, x :: l => if s + x < 18446744073709551616 then sumFrom (s + x) l else none
def cSumN (l : List Int) : Int := (sumFrom 0 l).getD 0
def cSumB (l : List Int) : Bool := (sumFrom 0 l).isSome

theorem U.nat {a : Int} (h : U a) : ∃ n : Nat, a = n ∧ n < 18446744073709551616 := ⟨a.toNat, by have := h.1; omega, by have := h.1; have := h.2; omega⟩
theorem cAdd_U {a b : Int} (ha : U a) (hb : U b) : U (cAddN a b) := by
  obtain ⟨h1, h2⟩ := ha; obtain ⟨h3, h4⟩ := hb
  unfold cAddN U; split <;> omega
theorem cSub_U {a b : Int} (ha : U a) (hb : U b) : U (cSubN a b) := by
  obtain ⟨h1, h2⟩ := ha; obtain ⟨h3, h4⟩ := hb
  unfold cSubN U; split <;> omega
theorem cMul_U {a b : Int} (ha : U a) (hb : U b) : U (cMulN a b) := by
  have := Int.mul_nonneg ha.1 hb.1
  unfold cMulN U; split <;> omega
theorem sumFrom_U {s : Int} {l : List Int} (hs : U s) (hl : ∀ x ∈ l, U x) : U ((sumFrom s l).getD 0) := by
  induction l generalizing s with
  | nil => exact hs
  | cons x l ih =>
    unfold sumFrom
    have hx := hl x (by simp)
    split
    · exact ih ⟨by have := hs.1; have := hx.1; omega, by omega⟩ (fun y hy => hl y (by simp [hy]))
    · exact ⟨by simp, by simp⟩

theorem add64_run (x y : Nat) (w : World) :
    (callFunc 48 #[.int .u64 x, .int .u64 y, .int .u64 0]).run Try.prog w =
      .ok (.value (.tuple #[.int .u64 (((x + y) % 18446744073709551616 : Nat) : Int), .int .u64 (((x + y) / 18446744073709551616 : Nat) : Int)])) w := by
  rw [run_callFunc_extern Try.func48 (by kernel_rfl) (by kernel_rfl) (by kernel_rfl) (e := add64Entry) (by kernel_rfl), run_add64 x y 0 (by omega) (by omega) (by omega) (by omega)]
  simp only [Result.andThen]
  congr 5 <;> omega

theorem add_ok (a b : Nat) (w : World) (h : a + b < 18446744073709551616) :
    Calls Try.prog 15 #[.int .u64 a, .int .u64 b] w fun e w' => e = .returned (.tuple #[.int .u64 ((a + b : Nat) : Int), .bool true]) ∧ w = w' := by
  have hr := add64_run a b w
  rw [Nat.mod_eq_of_lt h, Nat.div_eq_of_lt h] at hr
  go_enter Try.func15, Try.ntmps15
  go_wp2
  go_ret2
  exact ⟨rfl, rfl⟩

theorem add_no (a b : Nat) (w : World) (ha : a < 18446744073709551616) (hb : b < 18446744073709551616) (h : ¬ a + b < 18446744073709551616) :
    Calls Try.prog 15 #[.int .u64 a, .int .u64 b] w fun e w' => e = .returned (.tuple #[.int .u64 0, .bool false]) ∧ w = w' := by
  have hr := add64_run a b w
  rw [show (a + b) / 18446744073709551616 = 1 by omega] at hr
  go_enter Try.func15, Try.ntmps15
  go_wp2
  go_ret2
  exact ⟨rfl, rfl⟩

/-- chk.Add. -/
theorem add_any (a b : Int) (w : World) (ha : U a) (hb : U b) :
    Calls Try.prog 15 #[.int .u64 a, .int .u64 b] w fun e w' => e = .returned (.tuple #[.int .u64 (cAddN a b), .bool (cAddB a b)]) ∧ w = w' := by
  obtain ⟨m, rfl, hm⟩ := ha.nat
  obtain ⟨n, rfl, hn⟩ := hb.nat
  by_cases h : m + n < 18446744073709551616
  · refine (add_ok m n w h).mono fun e w' ⟨he, hw⟩ => ⟨?_, hw⟩
    rw [he]
    exact ret_tup (by unfold cAddN; rw [if_pos (by omega)]; omega) (by unfold cAddB; symm; simp; omega)
  · refine (add_no m n w hm hn h).mono fun e w' ⟨he, hw⟩ => ⟨?_, hw⟩
    rw [he]
    exact ret_tup (by unfold cAddN; rw [if_neg (by omega)]) (by unfold cAddB; symm; simp; omega)

/-- chk.Sub. -/
theorem sub_any (a b : Int) (w : World) (ha : U a) (hb : U b) :
    Calls Try.prog 16 #[.int .u64 a, .int .u64 b] w fun e w' => e = .returned (.tuple #[.int .u64 (cSubN a b), .bool (cSubB a b)]) ∧ w = w' := by
  obtain ⟨h1, h2⟩ := ha; obtain ⟨h3, h4⟩ := hb
  by_cases h : a < b
  · go_enter Try.func16, Try.ntmps16
    go_wp2
    go_ret2
    exact ⟨ret_tup (by unfold cSubN; rw [if_neg (by omega)]) (by unfold cSubB; symm; simp; omega), rfl⟩
  · go_enter Try.func16, Try.ntmps16
    go_wp2
    go_ret2
    exact ⟨ret_tup (by unfold cSubN; rw [if_pos (by omega)]) (by unfold cSubB; symm; simp; omega), rfl⟩

theorem sumFrom_snoc (l : List Int) : ∀ (s : Int) (x : Int), sumFrom s (l ++ [x]) = (sumFrom s l).bind fun t => if t + x < 18446744073709551616 then some (t + x) else none := by
  induction l with
  | nil => intro s x; simp [sumFrom]
  | cons y l ih => intro s x; simp only [List.cons_append, sumFrom]; split <;> simp [ih]
theorem sumFrom_none (l m : List Int) : ∀ (s : Int), sumFrom s l = none → sumFrom s (l ++ m) = none := by
  induction l with
  | nil => intro s h; simp [sumFrom] at h
  | cons y l ih => intro s h; simp only [List.cons_append, sumFrom] at h ⊢; split <;> simp_all

theorem take_snoc_getD {l : List Int} {k : Nat} (h : k < l.length) : l.take (k + 1) = l.take k ++ [l.getD k 0] := by
  rw [List.take_succ_eq_append_getElem h]; simp [List.getD, h]
theorem mem_getD {l : List Int} {k : Nat} (h : k < l.length) : l.getD k 0 ∈ l := by
  simp [List.getD, h]

set_option maxHeartbeats 400000 in
/-- chk.Sum, of a row that is there. -/
theorem sum_some (b off cap : Nat) (l : List Int) (w : World) (hU : ∀ x ∈ l, U x) (hm : l.length ≤ 9223372036854775807) (hc : ∀ j, j < l.length → w.cell? ⟨b, off + j, none⟩ = some (.int .u64 (l.getD j 0))) :
    Calls Try.prog 19 #[.slice (some ⟨b, off, none⟩) l.length cap] w fun e w' => e = .returned (.tuple #[.int .u64 (cSumN l), .bool (cSumB l)]) ∧ w = w' := by
  have HC := Lib.hid hc; clear hc
  go_enter Try.func19, Try.ntmps19
  go_wp2
  go_loop [4, 10] (fun s i => ∃ (k : Nat) (n : Int), k ≤ l.length ∧ i = .int .i64 k ∧ s = .int .u64 n ∧ Hid (sumFrom 0 (l.take k) = some n) ∧ U n) (fun _ i => l.length - (intOf i).toNat)
  case atStart => exact ⟨0, 0, Nat.zero_le _, rfl, rfl, by simp [Hid, sumFrom], by simp [U]⟩
  case round =>
    obtain ⟨k, n, hk, rfl, rfl, hs, hn⟩ := hrel
    by_cases hlt : k < l.length
    · have hcell := HC.out k hlt
      have hx := hU _ (mem_getD hlt)
      have hsn : Hid (sumFrom 0 (l.take (k + 1)) = if n + l.getD k 0 < 18446744073709551616 then some (n + l.getD k 0) else none) := by rw [take_snoc_getD hlt, sumFrom_snoc, hs.out]; rfl
      have hal : Hid (l = l.take (k + 1) ++ l.drop (k + 1)) := (List.take_append_drop _ _).symm
      generalize l.getD k 0 = x at *
      by_cases hlo : n + x < 18446744073709551616
      · have hB : cAddB n x = true := by unfold cAddB; simp; omega
        go_wp2_with (go_at_call 15; refine (add_any _ _ _ hn hx).mono ?_; rintro e w' ⟨rfl, rfl⟩)
        go_round
        case rel => exact ⟨k + 1, cAddN n x, by omega, by go_num, rfl, by rw [Hid, hsn.out, if_pos hlo]; unfold cAddN; rw [if_pos hlo], cAdd_U hn hx⟩
        case measure => simp [intOf]; omega
      · have hB : cAddB n x = false := by unfold cAddB; simp; omega
        have hno : Hid (sumFrom 0 l = none) := by rw [Hid, hal.out]; exact sumFrom_none _ _ _ (by rw [hsn.out, if_neg hlo])
        go_wp2_with (go_at_call 15; refine (add_any _ _ _ hn hx).mono ?_; rintro e w' ⟨rfl, rfl⟩)
        go_ret2
        exact ⟨ret_tup (by unfold cSumN; rw [hno.out]; rfl) (by unfold cSumB; rw [hno.out]; rfl), rfl⟩
    · go_wp2
      go_ret2
      have he : sumFrom 0 l = some n := by rw [← hs.out, List.take_of_length_le (by omega)]
      exact ⟨ret_tup (by unfold cSumN; rw [he]; rfl) (by unfold cSumB; rw [he]; rfl), rfl⟩

theorem sum_none (a : Option Addr) (cap : Nat) (w : World) :
    Calls Try.prog 19 #[.slice a 0 cap] w fun e w' => e = .returned (.tuple #[.int .u64 0, .bool true]) ∧ w = w' := by
  go_enter Try.func19, Try.ntmps19
  go_wp2
  go_loop [4, 10] (fun s i => i = .int .i64 0 ∧ s = .int .u64 0) (fun _ _ => 0)
  case atStart => exact ⟨rfl, rfl⟩
  case round =>
    obtain ⟨rfl, rfl⟩ := hrel
    go_wp2
    go_ret2
    exact ⟨rfl, rfl⟩

/-- A row of numbers in memory: its elements. -/
def Row64 (w : World) (a : Option Addr) (l : List Int) : Prop :=
  (l = [] ∨ ∃ b off, a = some ⟨b, off, none⟩ ∧ ∀ j, j < l.length → w.cell? ⟨b, off + j, none⟩ = some (.int .u64 (l.getD j 0)))

theorem sum_any (a : Option Addr) (n cap : Nat) (l : List Int) (w : World) (hn : n = l.length) (hU : ∀ x ∈ l, U x) (hm : l.length ≤ 9223372036854775807) (hr : Row64 w a l) :
    Calls Try.prog 19 #[.slice a n cap] w fun e w' => e = .returned (.tuple #[.int .u64 (cSumN l), .bool (cSumB l)]) ∧ w = w' := by
  subst hn
  rcases hr with rfl | ⟨b, off, rfl, hc⟩
  · exact sum_none a cap w
  · exact sum_some b off cap l w hU hm hc

theorem add_is (a b n : Int) (ok : Bool) (w : World) (ha : U a) (hb : U b) (h1 : cAddN a b = n) (h2 : cAddB a b = ok) :
    Calls Try.prog 15 #[.int .u64 a, .int .u64 b] w fun e w' => e = .returned (.tuple #[.int .u64 n, .bool ok]) ∧ w = w' := by
  subst h1; subst h2; exact add_any a b w ha hb
theorem sub_is (a b n : Int) (ok : Bool) (w : World) (ha : U a) (hb : U b) (h1 : cSubN a b = n) (h2 : cSubB a b = ok) :
    Calls Try.prog 16 #[.int .u64 a, .int .u64 b] w fun e w' => e = .returned (.tuple #[.int .u64 n, .bool ok]) ∧ w = w' := by
  subst h1; subst h2; exact sub_any a b w ha hb
theorem sum_is (a : Option Addr) (n cap : Nat) (l : List Int) (w : World) (x : Int) (ok : Bool) (h1 : cSumN l = x) (h2 : cSumB l = ok) (hn : n = l.length) (hU : ∀ x ∈ l, U x) (hm : l.length ≤ 9223372036854775807) (hr : Row64 w a l) :
    Calls Try.prog 19 #[.slice a n cap] w fun e w' => e = .returned (.tuple #[.int .u64 x, .bool ok]) ∧ w = w' := by
  subst h1; subst h2; exact sum_any a n cap l w hn hU hm hr

theorem mask_nat (x : Int) (k : Nat) (hk : k ≤ 62) : (((BitVec.ofInt 64 x &&& BitVec.ofInt 64 ((2 ^ k - 1 : Nat) : Int)).toNat : Nat) : Int) = x % ((2 ^ k : Nat) : Int) := by
  have hp : (2 ^ k : Nat) ≤ 2 ^ 62 := Nat.pow_le_pow_right (by omega) hk
  have hpos : 0 < (2 ^ k : Nat) := Nat.pow_pos (by omega)
  have h64 : ((2 ^ k : Nat) : Int) ∣ ((2 ^ 64 : Nat) : Int) := Int.natCast_dvd_natCast.2 (Nat.pow_dvd_pow 2 (by omega))
  have e1 : (BitVec.ofInt 64 ((2 ^ k - 1 : Nat) : Int)).toNat = 2 ^ k - 1 := by
    rw [BitVec.toNat_ofInt]; simp; omega
  rw [BitVec.toNat_and, e1, Nat.and_two_pow_sub_one_eq_mod, BitVec.toNat_ofInt, Int.natCast_emod, Int.toNat_of_nonneg (Int.emod_nonneg _ (by simp)), Int.emod_emod_of_dvd _ h64]
theorem and_mask_i64 (x : Int) (k : Nat) (hk : k ≤ 62) : bits BinOp.and .i64 x ((2 ^ k - 1 : Nat) : Int) = x % ((2 ^ k : Nat) : Int) := by
  have hp : (2 ^ k : Nat) ≤ 2 ^ 62 := Nat.pow_le_pow_right (by omega) hk
  have hpos : 0 < (2 ^ k : Nat) := Nat.pow_pos (by omega)
  have h1 := Int.emod_nonneg x (b := ((2 ^ k : Nat) : Int)) (by omega)
  have h2 := Int.emod_lt_of_pos x (b := ((2 ^ k : Nat) : Int)) (by omega)
  show IntKind.i64.wrap _ = _
  simp only []
  rw [show IntKind.i64.bits = 64 from rfl, mask_nat x k hk]
  generalize x % ((2 ^ k : Nat) : Int) = y at *
  simp [IntKind.wrap, IntKind.bits, IntKind.signed]; omega
theorem and_mask_u64 (x : Int) (k : Nat) (hk : k ≤ 62) : bits BinOp.and .u64 x ((2 ^ k - 1 : Nat) : Int) = x % ((2 ^ k : Nat) : Int) := by
  have hp : (2 ^ k : Nat) ≤ 2 ^ 62 := Nat.pow_le_pow_right (by omega) hk
  have hpos : 0 < (2 ^ k : Nat) := Nat.pow_pos (by omega)
  have h1 := Int.emod_nonneg x (b := ((2 ^ k : Nat) : Int)) (by omega)
  have h2 := Int.emod_lt_of_pos x (b := ((2 ^ k : Nat) : Int)) (by omega)
  show IntKind.u64.wrap _ = _
  simp only []
  rw [show IntKind.u64.bits = 64 from rfl, mask_nat x k hk]
  generalize x % ((2 ^ k : Nat) : Int) = y at *
  simp [IntKind.wrap, IntKind.bits, IntKind.signed]; omega
theorem and255_nonneg (a : Int) : 0 ≤ bits BinOp.and IntKind.i64 a 255 := by
  rw [show (255 : Int) = ((2 ^ 8 - 1 : Nat) : Int) from rfl, and_mask_i64 a 8 (by omega)]
  exact Int.emod_nonneg _ (by omega)
end Go.Proofs.Ytkjkkchpicehoaa
