import Derived.Test.YtkjkkchpicehoaaChk
namespace Go.Proofs.Ytkjkkchpicehoaa
set_option linter.unusedVariables false
open Go Go.Proofs Go.RowKit

/-- The reference's sum, difference, product: the same as the program's. -/
theorem radd_any (a b : Int) (w : World) (ha : U a) (hb : U b) :
    Calls Try.prog 20 #[.int .u64 a, .int .u64 b] w fun e w' => e = .returned (.tuple #[.int .u64 (cAddN a b), .bool (cAddB a b)]) ∧ w = w' := by
  have hw : IntKind.u64.wrap (18446744073709551615 - b) = 18446744073709551615 - b := by
    obtain ⟨h3, h4⟩ := hb; rw [IntKind.wrap_u64]; omega
  by_cases h : a + b < 18446744073709551616
  · have hv : IntKind.u64.wrap (a + b) = cAddN a b := by
      have := ha.1; have := hb.1; rw [IntKind.wrap_u64]; unfold cAddN; rw [if_pos h]; omega
    have hB : cAddB a b = true := by unfold cAddB; simpa using h
    have ht : ¬ IntKind.u64.wrap (18446744073709551615 - b) < a := by rw [hw]; omega
    have HV := Lib.hid hv
    have HB := Lib.hid hB
    clear hw hv hB h
    go_enter Try.func20, Try.ntmps20
    go_wp2
    go_ret2
    exact ⟨ret_tup HV.out HB.out.symm, rfl⟩
  · have hv : cAddN a b = 0 := by unfold cAddN; rw [if_neg h]
    have hB : cAddB a b = false := by unfold cAddB; simpa using h
    have ht : IntKind.u64.wrap (18446744073709551615 - b) < a := by rw [hw]; omega
    have HV := Lib.hid hv
    have HB := Lib.hid hB
    clear hw hv hB h
    go_enter Try.func20, Try.ntmps20
    go_wp2
    go_ret2
    exact ⟨ret_tup HV.out.symm HB.out.symm, rfl⟩

theorem rsub_any (a b : Int) (w : World) (ha : U a) (hb : U b) :
    Calls Try.prog 21 #[.int .u64 a, .int .u64 b] w fun e w' => e = .returned (.tuple #[.int .u64 (cSubN a b), .bool (cSubB a b)]) ∧ w = w' := by
  obtain ⟨h1, h2⟩ := ha; obtain ⟨h3, h4⟩ := hb
  by_cases h : a < b
  · go_enter Try.func21, Try.ntmps21
    go_wp2
    go_ret2
    exact ⟨ret_tup (by unfold cSubN; rw [if_neg (by omega)]) (by unfold cSubB; symm; simp; omega), rfl⟩
  · go_enter Try.func21, Try.ntmps21
    go_wp2
    go_ret2
    exact ⟨ret_tup (by unfold cSubN; rw [if_pos (by omega)]) (by unfold cSubB; symm; simp; omega), rfl⟩

theorem rmul_any (a b : Int) (w : World) (ha : U a) (hb : U b) :
    Calls Try.prog 22 #[.int .u64 a, .int .u64 b] w fun e w' => e = .returned (.tuple #[.int .u64 (cMulN a b), .bool (cMulB a b)]) ∧ w = w' := by
  obtain ⟨a0, a1⟩ := ha; obtain ⟨b0, b1⟩ := hb
  by_cases h0 : a = 0
  · subst h0
    have HV : Hid (IntKind.u64.wrap (0 * b) = cMulN 0 b) := by show _ = _; rw [Int.zero_mul, IntKind.wrap_u64]; unfold cMulN; rw [if_pos (by omega)]; omega
    have HB : Hid (cMulB 0 b = true) := by show _ = _; unfold cMulB; simp
    go_enter Try.func22, Try.ntmps22
    go_wp2
    go_ret2
    exact ⟨ret_tup (by first | exact HV.out | (have := HV.out; rw [Int.zero_mul] at this; exact this)) HB.out.symm, rfl⟩
  have ha0 : (a != 0) = true := by simpa using h0
  have hpos : 0 < a := by omega
  have hq0 : 0 ≤ (18446744073709551615 : Int) / a := Int.ediv_nonneg (by omega) a0
  have hq1 : (18446744073709551615 : Int) / a ≤ 18446744073709551615 := Int.ediv_le_self _ (by omega)
  have hiff : b ≤ 18446744073709551615 / a ↔ a * b < 18446744073709551616 := by
    rw [Int.le_ediv_iff_mul_le hpos, Int.mul_comm]; omega
  by_cases h : a * b < 18446744073709551616
  · have HV : Hid (IntKind.u64.wrap (a * b) = cMulN a b) := by
      show _ = _; have := Int.mul_nonneg a0 b0; rw [IntKind.wrap_u64]; unfold cMulN; rw [if_pos h]; omega
    have HB : Hid (cMulB a b = true) := by show _ = _; unfold cMulB; simpa using h
    have ht : decide ((18446744073709551615 : Int) / a < b) = false := by have := hiff.2 h; simp; omega
    clear hiff hq0 hq1 h h0
    go_enter Try.func22, Try.ntmps22
    go_wp2
    go_ret2
    exact ⟨ret_tup HV.out HB.out.symm, rfl⟩
  · have HV : Hid (cMulN a b = 0) := by show _ = _; unfold cMulN; rw [if_neg h]
    have HB : Hid (cMulB a b = false) := by show _ = _; unfold cMulB; simpa using h
    have ht : decide ((18446744073709551615 : Int) / a < b) = true := by simp; omega
    clear hiff hq0 hq1 h h0
    go_enter Try.func22, Try.ntmps22
    go_wp2
    go_ret2
    exact ⟨ret_tup HV.out.symm HB.out.symm, rfl⟩

set_option maxHeartbeats 400000 in
theorem rsum_some (b off cap : Nat) (l : List Int) (w : World) (hU : ∀ x ∈ l, U x) (hm : l.length ≤ 9223372036854775807) (hc : ∀ j, j < l.length → w.cell? ⟨b, off + j, none⟩ = some (.int .u64 (l.getD j 0))) :
    Calls Try.prog 23 #[.slice (some ⟨b, off, none⟩) l.length cap] w fun e w' => e = .returned (.tuple #[.int .u64 (cSumN l), .bool (cSumB l)]) ∧ w = w' := by
  have HC := Lib.hid hc; clear hc
  go_enter Try.func23, Try.ntmps23
  go_wp2
  go_loop [4, 5, 6] (fun s o i => ∃ (k : Nat) (n : Int) (ok : Bool), k ≤ l.length ∧ i = .int .i64 k ∧ s = .int .u64 n ∧ o = .bool ok ∧ Hid ((ok = true ∧ sumFrom 0 (l.take k) = some n) ∨ ok = false ∧ n = 0 ∧ sumFrom 0 l = none) ∧ U n) (fun _ _ i => l.length - (intOf i).toNat)
  case atStart => exact ⟨0, 0, true, Nat.zero_le _, rfl, rfl, rfl, .inl ⟨rfl, by simp [sumFrom]⟩, by simp [U]⟩
  case round =>
    obtain ⟨k, n, ok, hk, rfl, rfl, rfl, hs, hn⟩ := hrel
    by_cases hlt : k < l.length
    · cases ok with
      | true =>
        have hs1 : Hid (sumFrom 0 (l.take k) = some n) := by
          rcases hs.out with ⟨_, h⟩ | ⟨h, _⟩
          · exact h
          · exact absurd h (by simp)
        have hcell := HC.out k hlt
        have hx := hU _ (mem_getD hlt)
        have hsn : Hid (sumFrom 0 (l.take (k + 1)) = if n + l.getD k 0 < 18446744073709551616 then some (n + l.getD k 0) else none) := by rw [take_snoc_getD hlt, sumFrom_snoc, hs1.out]; rfl
        have hal : Hid (l = l.take (k + 1) ++ l.drop (k + 1)) := (List.take_append_drop _ _).symm
        generalize l.getD k 0 = x at *
        go_wp2_with (go_at_call 20; refine (radd_any _ _ _ hn hx).mono ?_; rintro e w' ⟨rfl, rfl⟩)
        go_round
        case rel =>
          refine ⟨k + 1, cAddN n x, cAddB n x, by omega, by go_num, rfl, rfl, ?_, cAdd_U hn hx⟩
          by_cases hlo : n + x < 18446744073709551616
          · exact .inl ⟨by unfold cAddB; simpa using hlo, by rw [hsn.out, if_pos hlo]; unfold cAddN; rw [if_pos hlo]⟩
          · exact .inr ⟨by unfold cAddB; simpa using hlo, by unfold cAddN; rw [if_neg hlo], by rw [hal.out]; exact sumFrom_none _ _ _ (by rw [hsn.out, if_neg hlo])⟩
        case measure => simp [intOf]; omega
      | false =>
        go_wp2
        go_ret2
        rcases hs.out with ⟨h, _⟩ | ⟨_, h0, h1⟩
        · exact absurd h (by simp)
        · exact ⟨ret_tup (by unfold cSumN; rw [h1, h0]; rfl) (by unfold cSumB; rw [h1]; rfl), rfl⟩
    · go_wp2
      go_ret2
      rcases hs.out with ⟨h, h1⟩ | ⟨h, h0, h1⟩
      · have he : sumFrom 0 l = some n := by rw [← h1, List.take_of_length_le (by omega)]
        exact ⟨ret_tup (by unfold cSumN; rw [he]; rfl) (by unfold cSumB; rw [he, h]; rfl), rfl⟩
      · exact ⟨ret_tup (by unfold cSumN; rw [h1, h0]; rfl) (by unfold cSumB; rw [h1, h]; rfl), rfl⟩

theorem rsum_none (a : Option Addr) (cap : Nat) (w : World) :
    Calls Try.prog 23 #[.slice a 0 cap] w fun e w' => e = .returned (.tuple #[.int .u64 0, .bool true]) ∧ w = w' := by
  go_enter Try.func23, Try.ntmps23
  go_wp2
  go_loop [4, 5, 6] (fun s o i => i = .int .i64 0 ∧ s = .int .u64 0 ∧ o = .bool true) (fun _ _ _ => 0)
  case atStart => exact ⟨rfl, rfl, rfl⟩
  case round =>
    obtain ⟨rfl, rfl, rfl⟩ := hrel
    go_wp2
    go_ret2
    exact ⟨rfl, rfl⟩

theorem rsum_any (a : Option Addr) (n cap : Nat) (l : List Int) (w : World) (hn : n = l.length) (hU : ∀ x ∈ l, U x) (hm : l.length ≤ 9223372036854775807) (hr : Row64 w a l) :
    Calls Try.prog 23 #[.slice a n cap] w fun e w' => e = .returned (.tuple #[.int .u64 (cSumN l), .bool (cSumB l)]) ∧ w = w' := by
  subst hn
  rcases hr with rfl | ⟨b, off, rfl, hc⟩
  · exact rsum_none a cap w
  · exact rsum_some b off cap l w hU hm hc
end Go.Proofs.Ytkjkkchpicehoaa
