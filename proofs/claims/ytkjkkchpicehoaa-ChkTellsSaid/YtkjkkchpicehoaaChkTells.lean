import Derived.Test.YtkjkkchpicehoaaLaw1
import Derived.Test.YtkjkkchpicehoaaRef1
namespace Go.Proofs.Ytkjkkchpicehoaa
set_option linter.unusedVariables false
open Go Go.Proofs Go.RowKit

theorem shr_U {a : Int} (h : U a) (n : Int) (hn : 1 ≤ n) : U (a / n) := by
  have := Int.ediv_le_self n h.1
  have := h.2
  exact ⟨Int.ediv_nonneg h.1 (by omega), by omega⟩

set_option maxRecDepth 100000 in
set_option maxHeartbeats 1000000 in
theorem tells_walk (a b : Int) (s : Option Addr) (n cap : Nat) (l : List Int) (w : World) (ha : U a) (hb : U b) (hn : n = l.length) (hU : ∀ x ∈ l, U x) (hm : l.length ≤ 9223372036854775807) (hr : Row64 w s l) :
    Calls Try.prog 6 #[.int .u64 a, .int .u64 b, .slice s n cap] w fun e w' => e = .returned (.bool true) ∧ Below w.heap.size w w' := by
  subst hn
  have HU := Lib.hid hU; clear hU
  by_cases hl : 100 < l.length
  · go_enter Try.func6, Try.ntmps6
    go_wp2_with fail
    refine (awake1 _).mono ?_
    rintro e w' ⟨rfl, hw⟩
    go_wp2_with fail
    go_ret
    exact ⟨rfl, hw⟩
  · go_enter Try.func6, Try.ntmps6
    go_wp2_with fail
    go_loop [0, 1, 7] (fun x y i => ∃ (k : Nat) (p q : Int), k ≤ 2 ∧ i = .int .i64 k ∧ x = .int .u64 p ∧ y = .int .u64 q ∧ U p ∧ U q) (fun _ _ i => 2 - (intOf i).toNat)
    case atStart => exact ⟨0, a, b, by omega, rfl, rfl, rfl, ha, hb⟩
    case round =>
      obtain ⟨k, p, q, hk, rfl, rfl, rfl, hp, hq⟩ := hrel
      by_cases hlt : k < 2
      · have p0 := hp.1
        have q0 := hq.1
        go_wp2_with fail
        refine (add_any _ _ _ hp hq).mono ?_
        rintro e w' ⟨rfl, rfl⟩
        go_wp2_with fail
        refine (radd_any _ _ _ hp hq).mono ?_
        rintro e w' ⟨rfl, rfl⟩
        go_wp2_with fail
        refine (sub_any _ _ _ hp hq).mono ?_
        rintro e w' ⟨rfl, rfl⟩
        go_wp2_with fail
        refine (rsub_any _ _ _ hp hq).mono ?_
        rintro e w' ⟨rfl, rfl⟩
        go_wp2_with fail
        refine (mul_any _ _ _ hp hq).mono ?_
        rintro e w' ⟨rfl, rfl⟩
        go_wp2_with fail
        refine (rmul_any _ _ _ hp hq).mono ?_
        rintro e w' ⟨rfl, rfl⟩
        go_wp2_with fail
        refine (sum_any _ _ _ l _ rfl HU.out hm hr).mono ?_
        rintro e w' ⟨rfl, rfl⟩
        go_wp2_with fail
        refine (rsum_any _ _ _ l _ rfl HU.out hm hr).mono ?_
        rintro e w' ⟨rfl, rfl⟩
        go_wp2_with fail
        go_round
        case rel => exact ⟨k + 1, _, _, by omega, by go_num, rfl, rfl, shr_U hp _ (by omega), shr_U hq _ (by omega)⟩
        case measure => simp [intOf]; omega
      · go_wp2_with fail
        refine (awake1 _).mono ?_
        rintro e w' ⟨rfl, hw⟩
        go_wp2_with fail
        go_ret
        exact ⟨rfl, hw⟩
end Go.Proofs.Ytkjkkchpicehoaa
