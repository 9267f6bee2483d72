import Derived.Test.YtofcphfgpnobnaaRow5
namespace Go.Proofs.Ytofcphfgpnobnaa
set_option linter.unusedVariables false
open Go Go.Proofs Go.RowKit

theorem na_push (n : Nat) (a : Addr) (w : World) : (nilAhead (n + 1) 78 (.pointer (some a)) "Push").run Try.prog w = .ok (some false) w := by kernel_rfl
theorem na_pop (n : Nat) (a : Addr) (w : World) : (nilAhead (n + 1) 78 (.pointer (some a)) "Pop").run Try.prog w = .ok (some false) w := by kernel_rfl
theorem na_len (n : Nat) (a : Addr) (w : World) : (nilAhead (n + 1) 78 (.pointer (some a)) "Len").run Try.prog w = .ok (some false) w := by kernel_rfl
theorem na_less (n : Nat) (a : Addr) (w : World) : (nilAhead (n + 1) 78 (.pointer (some a)) "Less").run Try.prog w = .ok (some false) w := by kernel_rfl
theorem na_swap (n : Nat) (a : Addr) (w : World) : (nilAhead (n + 1) 78 (.pointer (some a)) "Swap").run Try.prog w = .ok (some false) w := by kernel_rfl
theorem me_push (n : Nat) (a : Addr) (w : World) : (method (n + 1) 78 (.pointer (some a)) "Push").run Try.prog w = .ok (89, .pointer (some a)) w := by kernel_rfl
theorem me_pop (n : Nat) (a : Addr) (w : World) : (method (n + 1) 78 (.pointer (some a)) "Pop").run Try.prog w = .ok (88, .pointer (some a)) w := by kernel_rfl
theorem me_len (n : Nat) (a : Addr) (w : World) : (method (n + 1) 78 (.pointer (some a)) "Len").run Try.prog w = .ok (43, .pointer (some a)) w := by kernel_rfl
theorem me_less (n : Nat) (a : Addr) (w : World) : (method (n + 1) 78 (.pointer (some a)) "Less").run Try.prog w = .ok (87, .pointer (some a)) w := by kernel_rfl
theorem me_swap (n : Nat) (a : Addr) (w : World) : (method (n + 1) 78 (.pointer (some a)) "Swap").run Try.prog w = .ok (90, .pointer (some a)) w := by kernel_rfl

attribute [local go_sem] na_push na_pop na_len na_less na_swap me_push me_pop me_len me_less me_swap

theorem Row.swapped {w : World} {b s : Nat} {up : Bool} {l : List Ord} (h : Row w b s up l) (n : Nat) (he : l.length = n) : Row w b s up l := h

set_option maxRecDepth 100000 in
set_option maxHeartbeats 2000000 in
/-- container/heap.up. -/
theorem heapUp {w : World} {b s : Nat} {up : Bool} {l : List Ord} {n : Nat} (h : Row w b s up l) {j : Nat} (hj : j < n) (hn : n ≤ l.length) (hnm : l.length < 1000000000000) (hU : UpI Ord.zero (ahead up) n l j) :
    Calls Try.prog 52 #[.iface 78 (.pointer (some ⟨b, 0, none⟩)), .int .i64 j] w fun e w' => e = .returned (.tuple #[]) ∧ ∃ l', Row w' b s up l' ∧ l'.Perm l ∧ l'.drop n = l.drop n ∧ Hp Ord.zero (ahead up) n l' ∧ Chg [s] w w' := by
  have HN := Lib.hid hn
  clear hn
  go_enter Try.func52, Try.ntmps52
  go_wp2_with fail
  go_loopw [1] (fun i wr => ∃ (k : Nat) (m : List Ord), k < n ∧ i = .int .i64 k ∧ Row wr b s up m ∧ Hid (m.Perm l ∧ m.drop n = l.drop n) ∧ UpI Ord.zero (ahead up) n m k ∧ Chg [s] w wr) (fun i _ => (intOf i).toNat)
  case atStart => exact ⟨j, l, hj, rfl, h, ⟨List.Perm.refl _, rfl⟩, hU, Chg.refl _ _⟩
  case round =>
    clear h hU hj
    obtain ⟨k, m, hk, rfl, hR, hP, hU, hC⟩ := hrel
    by_cases k0 : k = 0
    · subst k0
      go_wp2_with fail
      go_end0
      exact ⟨rfl, m, hR, hP.out.1, hP.out.2, hU.done _ _ (.inl rfl), hC⟩
    · have hkb : k < 1000000000000 := by have := HN.out; omega
      have hp : ((k : Int) - 1) / 2 = ((par k : Nat) : Int) := by unfold par; omega
      have hlt : par k < k := by unfold par; omega
      have hne : (((par k : Nat) : Int) == (k : Int)) = false := beq_eq_false_iff_ne.2 (by omega)
      have hl : l.length = m.length := hP.out.1.length_eq.symm
      have HL := Lib.hid hl
      have h2 : n ≤ m.length := by rw [← hl]; exact HN.out
      clear hl
      have h1 : (1 : Int) ≤ (k : Int) := by omega
      cases ha : ahead up (m.getD k Ord.zero) (m.getD (par k) Ord.zero)
      · have HA := Lib.hid ha
        clear ha
        go_wp2_with fail
        refine (rowLess hR (i := k) (j := par k) (by omega) (by omega)).mono ?_
        rw [HA.out]
        rintro e w' ⟨rfl, hc⟩
        have hR2 := hR.chg hc (by simp) (by simp)
        have hC2 : Chg [s] w w' := hC.trans (hc.mono (by simp))
        clear hR hC hc hp
        go_wp2_with fail
        go_end0
        exact ⟨rfl, m, hR2, hP.out.1, hP.out.2, hU.done _ _ (.inr HA.out), hC2⟩
      · have HA := Lib.hid ha
        clear ha
        have hU2 := hU.step (ahead_swo up) h2 hk (by omega) HA.out
        have hP2 : Hid ((sw Ord.zero m (par k) k).Perm l ∧ (sw Ord.zero m (par k) k).drop n = l.drop n) := by
          refine ⟨(sw_perm Ord.zero (by omega) (by omega)).trans hP.out.1, ?_⟩
          rw [← hP.out.2]
          unfold sw
          rw [List.drop_set_of_lt (by omega), List.drop_set_of_lt (by omega)]
        go_wp2_with fail
        refine (rowLess hR (i := k) (j := par k) (by omega) (by omega)).mono ?_
        rw [HA.out]
        rintro e w' ⟨rfl, hc⟩
        have hR2 := hR.chg hc (by simp) (by simp)
        have hC2 : Chg [s] w w' := hC.trans (hc.mono (by simp))
        clear hR hC hc hU hP
        go_wp2_with fail
        refine (rowSwap hR2 (i := par k) (j := k) (by omega) (by omega) (by omega)).mono ?_
        rintro e w2 ⟨rfl, hR3, hC3⟩
        have hC4 := hC2.trans hC3
        clear hR2 hC2 hC3 hp
        generalize sw Ord.zero m (par k) k = m2 at *
        go_wp2_with fail
        go_roundw
        case rel => exact ⟨par k, m2, by omega, rfl, hR3, hP2, hU2, hC4⟩
        case measure => simp [intOf]; omega
end Go.Proofs.Ytofcphfgpnobnaa
