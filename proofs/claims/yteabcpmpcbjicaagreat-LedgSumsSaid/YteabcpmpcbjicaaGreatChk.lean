
import Derived.Shelf.Spec.BitsCarry
import Derived.Test.YteabcpmpcbjicaaGreatBase
namespace Go.Proofs.YteabcpmpcbjicaaGreat
open Go Go.Proofs Go.RowKit


theorem add64_run (x y : Nat) (w : World) :
    (callFunc 159 #[.int .u64 x, .int .u64 y, .int .u64 0]).run Tryz.prog w =
      .ok (.value (.tuple #[.int .u64 (((x + y) % 18446744073709551616 : Nat) : Int), .int .u64 (((x + y) / 18446744073709551616 : Nat) : Int)])) w := by
  rw [run_callFunc_extern Tryz.func159 (by kernel_rfl) (by kernel_rfl) (by kernel_rfl) (e := add64Entry) (by kernel_rfl), run_add64 x y 0 (by omega) (by omega) (by omega) (by omega)]
  simp only [Result.andThen]
  congr 5 <;> omega

theorem add_ok (a b : Nat) (w : World) (h : a + b < 18446744073709551616) :
    Calls Tryz.prog 125 #[.int .u64 a, .int .u64 b] w fun e w' => e = .returned (.tuple #[.int .u64 ((a + b : Nat) : Int), .bool true]) ∧ w = w' := by
  have hr := add64_run a b w
  rw [Nat.mod_eq_of_lt h, Nat.div_eq_of_lt h] at hr
  go_enter Tryz.func125, Tryz.ntmps125
  go_wp2
  go_ret2
  exact ⟨rfl, rfl⟩

theorem add_no (a b : Nat) (w : World) (ha : a < 18446744073709551616) (hb : b < 18446744073709551616) (h : ¬ a + b < 18446744073709551616) :
    Calls Tryz.prog 125 #[.int .u64 a, .int .u64 b] w fun e w' => e = .returned (.tuple #[.int .u64 0, .bool false]) ∧ w = w' := by
  have hr := add64_run a b w
  rw [show (a + b) / 18446744073709551616 = 1 by omega] at hr
  go_enter Tryz.func125, Tryz.ntmps125
  go_wp2
  go_ret2
  exact ⟨rfl, rfl⟩

/-- chk.Add. -/
theorem add_any (a b : Int) (w : World) (ha : U a) (hb : U b) :
    Calls Tryz.prog 125 #[.int .u64 a, .int .u64 b] w fun e w' => e = .returned (.tuple #[.int .u64 (cAddN a b), .bool (cAddB a b)]) ∧ w = w' := by
  obtain ⟨m, rfl, hm⟩ := ha.nat
  obtain ⟨n, rfl, hn⟩ := hb.nat
  by_cases h : m + n < 18446744073709551616
  · refine (add_ok m n w h).mono fun e w' ⟨he, hw⟩ => ⟨?_, hw⟩
    rw [he]
    exact ret_tup (by unfold cAddN; rw [if_pos (by omega)]; omega) (by unfold cAddB; symm; simp; omega)
  · refine (add_no m n w hm hn h).mono fun e w' ⟨he, hw⟩ => ⟨?_, hw⟩
    rw [he]
    exact ret_tup (by unfold cAddN; rw [if_neg (by omega)]) (by unfold cAddB; symm; simp; omega)

/-- chk.Sub. -/
theorem sub_any (a b : Int) (w : World) (ha : U a) (hb : U b) :
    Calls Tryz.prog 160 #[.int .u64 a, .int .u64 b] w fun e w' => e = .returned (.tuple #[.int .u64 (cSubN a b), .bool (cSubB a b)]) ∧ w = w' := by
  obtain ⟨h1, h2⟩ := ha; obtain ⟨h3, h4⟩ := hb
  by_cases h : a < b
  · go_enter Tryz.func160, Tryz.ntmps160
    go_wp2
    go_ret2
    exact ⟨ret_tup (by unfold cSubN; rw [if_neg (by omega)]) (by unfold cSubB; symm; simp; omega), rfl⟩
  · go_enter Tryz.func160, Tryz.ntmps160
    go_wp2
    go_ret2
    exact ⟨ret_tup (by unfold cSubN; rw [if_pos (by omega)]) (by unfold cSubB; symm; simp; omega), rfl⟩

set_option maxHeartbeats 400000 in
/-- chk.Sum, of a row that is there. -/
theorem sum_some (b off cap : Nat) (l : List Int) (w : World) (hU : ∀ x ∈ l, U x) (hm : l.length ≤ 9223372036854775807) (hc : ∀ j, j < l.length → w.cell? ⟨b, off + j, none⟩ = some (.int .u64 (l.getD j 0))) :
    Calls Tryz.prog 131 #[.slice (some ⟨b, off, none⟩) l.length cap] w fun e w' => e = .returned (.tuple #[.int .u64 (cSumN l), .bool (cSumB l)]) ∧ w = w' := by
  have HC := Lib.hid hc; clear hc
  go_enter Tryz.func131, Tryz.ntmps131
  go_wp2
  go_loop [4, 10] (fun s i => ∃ (k : Nat) (n : Int), k ≤ l.length ∧ i = .int .i64 k ∧ s = .int .u64 n ∧ Hid (sumFrom 0 (l.take k) = some n) ∧ U n) (fun _ i => l.length - (intOf i).toNat)
  case atStart => exact ⟨0, 0, Nat.zero_le _, rfl, rfl, by simp [Hid, sumFrom], by simp [U]⟩
  case round =>
    obtain ⟨k, n, hk, rfl, rfl, hs, hn⟩ := hrel
    by_cases hlt : k < l.length
    · have hcell := HC.out k hlt
      have hx := hU _ (mem_getD hlt)
      have hsn : Hid (sumFrom 0 (l.take (k + 1)) = if n + l.getD k 0 < 18446744073709551616 then some (n + l.getD k 0) else none) := by rw [take_snoc_getD hlt, sumFrom_snoc, hs.out]; rfl
      have hal : Hid (l = l.take (k + 1) ++ l.drop (k + 1)) := (List.take_append_drop _ _).symm
      generalize l.getD k 0 = x at *
      by_cases hlo : n + x < 18446744073709551616
      · have hB : cAddB n x = true := by unfold cAddB; simp; omega
        go_wp2_with (go_at_call 125; refine (add_any _ _ _ hn hx).mono ?_; rintro e w' ⟨rfl, rfl⟩)
        go_round
        case rel => exact ⟨k + 1, cAddN n x, by omega, by go_num, rfl, by rw [Hid, hsn.out, if_pos hlo]; unfold cAddN; rw [if_pos hlo], cAdd_U hn hx⟩
        case measure => simp [intOf]; omega
      · have hB : cAddB n x = false := by unfold cAddB; simp; omega
        have hno : Hid (sumFrom 0 l = none) := by rw [Hid, hal.out]; exact sumFrom_none _ _ _ (by rw [hsn.out, if_neg hlo])
        go_wp2_with (go_at_call 125; refine (add_any _ _ _ hn hx).mono ?_; rintro e w' ⟨rfl, rfl⟩)
        go_ret2
        exact ⟨ret_tup (by unfold cSumN; rw [hno.out]; rfl) (by unfold cSumB; rw [hno.out]; rfl), rfl⟩
    · go_wp2
      go_ret2
      have he : sumFrom 0 l = some n := by rw [← hs.out, List.take_of_length_le (by omega)]
      exact ⟨ret_tup (by unfold cSumN; rw [he]; rfl) (by unfold cSumB; rw [he]; rfl), rfl⟩

theorem sum_none (a : Option Addr) (cap : Nat) (w : World) :
    Calls Tryz.prog 131 #[.slice a 0 cap] w fun e w' => e = .returned (.tuple #[.int .u64 0, .bool true]) ∧ w = w' := by
  go_enter Tryz.func131, Tryz.ntmps131
  go_wp2
  go_loop [4, 10] (fun s i => i = .int .i64 0 ∧ s = .int .u64 0) (fun _ _ => 0)
  case atStart => exact ⟨rfl, rfl⟩
  case round =>
    obtain ⟨rfl, rfl⟩ := hrel
    go_wp2
    go_ret2
    exact ⟨rfl, rfl⟩

theorem sum_any (a : Option Addr) (n cap : Nat) (l : List Int) (w : World) (hn : n = l.length) (hU : ∀ x ∈ l, U x) (hm : l.length ≤ 9223372036854775807) (hr : Row64 w a l) :
    Calls Tryz.prog 131 #[.slice a n cap] w fun e w' => e = .returned (.tuple #[.int .u64 (cSumN l), .bool (cSumB l)]) ∧ w = w' := by
  subst hn
  rcases hr with rfl | ⟨b, off, rfl, hc⟩
  · exact sum_none a cap w
  · exact sum_some b off cap l w hU hm hc

theorem add_is (a b n : Int) (ok : Bool) (w : World) (ha : U a) (hb : U b) (h1 : cAddN a b = n) (h2 : cAddB a b = ok) :
    Calls Tryz.prog 125 #[.int .u64 a, .int .u64 b] w fun e w' => e = .returned (.tuple #[.int .u64 n, .bool ok]) ∧ w = w' := by
  subst h1; subst h2; exact add_any a b w ha hb
theorem sub_is (a b n : Int) (ok : Bool) (w : World) (ha : U a) (hb : U b) (h1 : cSubN a b = n) (h2 : cSubB a b = ok) :
    Calls Tryz.prog 160 #[.int .u64 a, .int .u64 b] w fun e w' => e = .returned (.tuple #[.int .u64 n, .bool ok]) ∧ w = w' := by
  subst h1; subst h2; exact sub_any a b w ha hb
theorem sum_is (a : Option Addr) (n cap : Nat) (l : List Int) (w : World) (x : Int) (ok : Bool) (h1 : cSumN l = x) (h2 : cSumB l = ok) (hn : n = l.length) (hU : ∀ x ∈ l, U x) (hm : l.length ≤ 9223372036854775807) (hr : Row64 w a l) :
    Calls Tryz.prog 131 #[.slice a n cap] w fun e w' => e = .returned (.tuple #[.int .u64 x, .bool ok]) ∧ w = w' := by
  subst h1; subst h2; exact sum_any a n cap l w hn hU hm hr
end Go.Proofs.YteabcpmpcbjicaaGreat
