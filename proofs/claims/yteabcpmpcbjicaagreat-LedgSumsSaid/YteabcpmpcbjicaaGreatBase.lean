
import Derived.WalkKit
import Derived.WalkLawsBesides
import Derived.Lib.Hide
import Derived.Laws.BitsAllLaws
import Derived.Test.YteabcpmpcbjicaaGreatProg
namespace Go.Proofs.YteabcpmpcbjicaaGreat
open Go Go.Proofs Go.RowKit


/-- A number of 64 bits, without a sign. -/
def U (a : Int) : Prop := 0 ≤ a ∧ a < 18446744073709551616
def I (a : Int) : Prop := -9223372036854775808 ≤ a ∧ a ≤ 9223372036854775807

theorem ret_int {k : IntKind} {a b : Int} (h : a = b) : Ending.returned (.int k a) = .returned (.int k b) := by rw [h]
theorem ret_tup {k : IntKind} {a b : Int} {x y : Bool} (h : a = b) (g : x = y) : Ending.returned (.tuple #[.int k a, .bool x]) = .returned (.tuple #[.int k b, .bool y]) := by rw [h, g]

/-- chk.Add: its number, and whether it is one. -/
def cAddN (a b : Int) : Int := if a + b < 18446744073709551616 then a + b else 0
def cAddB (a b : Int) : Bool := decide (a + b < 18446744073709551616)
def cSubN (a b : Int) : Int := if b ≤ a then a - b else 0
def cSubB (a b : Int) : Bool := decide (b ≤ a)
def cMulN (a b : Int) : Int := if a * b < 18446744073709551616 then a * b else 0
def cMulB (a b : Int) : Bool := decide (a * b < 18446744073709551616)
/-- chk.Sum: from a sum on; none: it is none. -/
def sumFrom : Int → List Int → Option Int
  | s, [] => some s
  | s, x :: l => if s + x < 18446744073709551616 then sumFrom (s + x) l else none
def cSumN (l : List Int) : Int := (sumFrom 0 l).getD 0
def cSumB (l : List Int) : Bool := (sumFrom 0 l).isSome

theorem U.nat {a : Int} (h : U a) : ∃ n : Nat, a = n ∧ n < 18446744073709551616 := ⟨a.toNat, by have := h.1; omega, by have := h.1; have := h.2; omega⟩
theorem cAdd_U {a b : Int} (ha : U a) (hb : U b) : U (cAddN a b) := by
  obtain ⟨h1, h2⟩ := ha; obtain ⟨h3, h4⟩ := hb
  unfold cAddN U; split <;> omega
theorem cSub_U {a b : Int} (ha : U a) (hb : U b) : U (cSubN a b) := by
  obtain ⟨h1, h2⟩ := ha; obtain ⟨h3, h4⟩ := hb
  unfold cSubN U; split <;> omega
theorem cMul_U {a b : Int} (ha : U a) (hb : U b) : U (cMulN a b) := by
  have := Int.mul_nonneg ha.1 hb.1
  unfold cMulN U; split <;> omega
theorem sumFrom_U {s : Int} {l : List Int} (hs : U s) (hl : ∀ x ∈ l, U x) : U ((sumFrom s l).getD 0) := by
  induction l generalizing s with
  | nil => exact hs
  | cons x l ih =>
    unfold sumFrom
    have hx := hl x (by simp)
    split
    · exact ih ⟨by have := hs.1; have := hx.1; omega, by omega⟩ (fun y hy => hl y (by simp [hy]))
    · exact ⟨by simp, by simp⟩

theorem sumFrom_snoc (l : List Int) : ∀ (s : Int) (x : Int), sumFrom s (l ++ [x]) = (sumFrom s l).bind fun t => if t + x < 18446744073709551616 then some (t + x) else none := by
  induction l with
  | nil => intro s x; simp [sumFrom]
  | cons y l ih => intro s x; simp only [List.cons_append, sumFrom]; split <;> simp [ih]
theorem sumFrom_none (l m : List Int) : ∀ (s : Int), sumFrom s l = none → sumFrom s (l ++ m) = none := by
  induction l with
  | nil => intro s h; simp [sumFrom] at h
  | cons y l ih => intro s h; simp only [List.cons_append, sumFrom] at h ⊢; split <;> simp_all

theorem take_snoc_getD {l : List Int} {k : Nat} (h : k < l.length) : l.take (k + 1) = l.take k ++ [l.getD k 0] := by
  rw [List.take_succ_eq_append_getElem h]; simp [List.getD, h]
theorem mem_getD {l : List Int} {k : Nat} (h : k < l.length) : l.getD k 0 ∈ l := by
  simp [List.getD, h]

/-- A row of numbers in memory: its elements. -/
def Row64 (w : World) (a : Option Addr) (l : List Int) : Prop :=
  (l = [] ∨ ∃ b off, a = some ⟨b, off, none⟩ ∧ ∀ j, j < l.length → w.cell? ⟨b, off + j, none⟩ = some (.int .u64 (l.getD j 0)))

theorem mask_nat (x : Int) (k : Nat) (hk : k ≤ 62) : (((BitVec.ofInt 64 x &&& BitVec.ofInt 64 ((2 ^ k - 1 : Nat) : Int)).toNat : Nat) : Int) = x % ((2 ^ k : Nat) : Int) := by
  have hp : (2 ^ k : Nat) ≤ 2 ^ 62 := Nat.pow_le_pow_right (by omega) hk
  have hpos : 0 < (2 ^ k : Nat) := Nat.pow_pos (by omega)
  have h64 : ((2 ^ k : Nat) : Int) ∣ ((2 ^ 64 : Nat) : Int) := Int.natCast_dvd_natCast.2 (Nat.pow_dvd_pow 2 (by omega))
  have e1 : (BitVec.ofInt 64 ((2 ^ k - 1 : Nat) : Int)).toNat = 2 ^ k - 1 := by
    rw [BitVec.toNat_ofInt]; simp; omega
  rw [BitVec.toNat_and, e1, Nat.and_two_pow_sub_one_eq_mod, BitVec.toNat_ofInt, Int.natCast_emod, Int.toNat_of_nonneg (Int.emod_nonneg _ (by simp)), Int.emod_emod_of_dvd _ h64]
theorem and_mask_i64 (x : Int) (k : Nat) (hk : k ≤ 62) : bits BinOp.and .i64 x ((2 ^ k - 1 : Nat) : Int) = x % ((2 ^ k : Nat) : Int) := by
  have hp : (2 ^ k : Nat) ≤ 2 ^ 62 := Nat.pow_le_pow_right (by omega) hk
  have hpos : 0 < (2 ^ k : Nat) := Nat.pow_pos (by omega)
  have h1 := Int.emod_nonneg x (b := ((2 ^ k : Nat) : Int)) (by omega)
  have h2 := Int.emod_lt_of_pos x (b := ((2 ^ k : Nat) : Int)) (by omega)
  show IntKind.i64.wrap _ = _
  simp only []
  rw [show IntKind.i64.bits = 64 from rfl, mask_nat x k hk]
  generalize x % ((2 ^ k : Nat) : Int) = y at *
  simp [IntKind.wrap, IntKind.bits, IntKind.signed]; omega
theorem and_mask_u64 (x : Int) (k : Nat) (hk : k ≤ 62) : bits BinOp.and .u64 x ((2 ^ k - 1 : Nat) : Int) = x % ((2 ^ k : Nat) : Int) := by
  have hp : (2 ^ k : Nat) ≤ 2 ^ 62 := Nat.pow_le_pow_right (by omega) hk
  have hpos : 0 < (2 ^ k : Nat) := Nat.pow_pos (by omega)
  have h1 := Int.emod_nonneg x (b := ((2 ^ k : Nat) : Int)) (by omega)
  have h2 := Int.emod_lt_of_pos x (b := ((2 ^ k : Nat) : Int)) (by omega)
  show IntKind.u64.wrap _ = _
  simp only []
  rw [show IntKind.u64.bits = 64 from rfl, mask_nat x k hk]
  generalize x % ((2 ^ k : Nat) : Int) = y at *
  simp [IntKind.wrap, IntKind.bits, IntKind.signed]; omega
theorem and255_nonneg (a : Int) : 0 ≤ bits BinOp.and IntKind.i64 a 255 := by
  rw [show (255 : Int) = ((2 ^ 8 - 1 : Nat) : Int) from rfl, and_mask_i64 a 8 (by omega)]
  exact Int.emod_nonneg _ (by omega)
end Go.Proofs.YteabcpmpcbjicaaGreat
