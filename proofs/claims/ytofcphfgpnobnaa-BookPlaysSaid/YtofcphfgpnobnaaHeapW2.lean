import Derived.Test.YtofcphfgpnobnaaHeapW
namespace Go.Proofs.Ytofcphfgpnobnaa
set_option linter.unusedVariables false
open Go Go.Proofs Go.RowKit
attribute [local go_sem] na_push na_pop na_len na_less na_swap me_push me_pop me_len me_less me_swap

theorem child_par {c k : Nat} (h0 : 0 < c) (h : par c = k) : c = 2 * k + 1 ∨ c = 2 * k + 2 := by unfold par at h; omega
theorem par_of {c k : Nat} (h : c = 2 * k + 1 ∨ c = 2 * k + 2) : par c = k := by unfold par; omega

set_option maxRecDepth 100000 in
set_option maxHeartbeats 4000000 in
/-- container/heap.down. -/
theorem heapDown {w : World} {b s : Nat} {up : Bool} {l : List Ord} {n i0 : Nat} (h : Row w b s up l) (hi : i0 < n) (hn : n ≤ l.length) (hnm : l.length < 1000000000000) (hD : DnI Ord.zero (ahead up) n l i0 i0) :
    Calls Try.prog 62 #[.iface 78 (.pointer (some ⟨b, 0, none⟩)), .int .i64 i0, .int .i64 n] w fun e w' => ∃ t, e = .returned (.bool t) ∧ ∃ l', Row w' b s up l' ∧ l'.Perm l ∧ l'.drop n = l.drop n ∧ (t = true → Hp Ord.zero (ahead up) n l') ∧ (t = false → UpI Ord.zero (ahead up) n l' i0) ∧ Chg [s] w w' := by
  have HN := Lib.hid hn
  have hn1 : n < 1000000000000 := by omega
  clear hn
  go_enter Try.func62, Try.ntmps62
  go_wp2_with fail
  go_loopw [7] (fun i wr => ∃ (k : Nat) (m : List Ord), k < n ∧ i = .int .i64 k ∧ Row wr b s up m ∧ Hid (m.Perm l ∧ m.drop n = l.drop n) ∧ DnI Ord.zero (ahead up) n m i0 k ∧ Chg [s] w wr) (fun i _ => n - (intOf i).toNat)
  case atStart => exact ⟨i0, l, hi, rfl, h, ⟨List.Perm.refl _, rfl⟩, hD, Chg.refl _ _⟩
  case round =>
    clear h hD hi
    obtain ⟨k, m, hk, rfl, hR, hP, hU, hC⟩ := hrel
    obtain ⟨c1, hc1⟩ : ∃ c1, c1 = 2 * k + 1 := ⟨_, rfl⟩
    obtain ⟨c2, hc2⟩ : ∃ c2, c2 = 2 * k + 2 := ⟨_, rfl⟩
    have e1 : 2 * (k : Int) + 1 = (c1 : Int) := by omega
    have e2 : (c1 : Int) + 1 = (c2 : Int) := by omega
    have C1 := Lib.hid hc1
    have C2 := Lib.hid hc2
    have k1 : k < c1 := by omega
    have k2 : k < c2 := by omega
    have k3 : c2 ≤ 2 * k + 2 := by omega
    have k4 : c1 ≤ 2 * k + 1 := by omega
    have k5 : c1 < c2 := by omega
    have h2 : n ≤ m.length := by rw [hP.out.1.length_eq]; exact HN.out
    clear hc1 hc2
    by_cases g1 : c1 < n
    · have p1 : par c1 = k := par_of (.inl C1.out)
      have p2 : par c2 = k := par_of (.inr C2.out)
      have P1 := Lib.hid p1
      have P2 := Lib.hid p2
      clear p1 p2
      by_cases g2 : c2 < n
      · cases ha : ahead up (m.getD c2 Ord.zero) (m.getD c1 Ord.zero)
        · have HA := Lib.hid ha
          clear ha
          have HS : Hid (∀ c, 0 < c → c < n → par c = k → ahead up (m.getD c Ord.zero) (m.getD c1 Ord.zero) = false) := fun c c0 cn cp => by
            rcases child_par c0 cp with h | h
            · rw [h, ← C1.out]; exact (ahead_swo up).irr _
            · rw [h, ← C2.out]; exact HA.out
          have hj := g1
          have hj0 : 0 < c1 := by omega
          go_wp2_with fail
          refine (rowLess hR (i := c2) (j := c1) (by omega) (by omega)).mono ?_
          rw [HA.out]
          rintro e w2 ⟨rfl, hc⟩
          have hR2 := hR.chg hc (by simp) (by simp)
          have hC2 : Chg [s] w w2 := hC.trans (hc.mono (by simp))
          clear hR hC hc
          go_wp2_with fail
          cases hb : ahead up (m.getD c1 Ord.zero) (m.getD k Ord.zero)
          · have HB := Lib.hid hb
            clear hb
            have hst := hU.stop (fun c c0 cn cp => (ahead_swo up).ntr _ _ _ (HS.out c c0 cn cp) HB.out)
            refine (rowLess hR2 (i := c1) (j := k) (by omega) (by omega)).mono ?_
            rw [HB.out]
            rintro e w3 ⟨rfl, hc3⟩
            have hR3 := hR2.chg hc3 (by simp) (by simp)
            have hC3 : Chg [s] w w3 := hC2.trans (hc3.mono (by simp))
            clear hR2 hC2 hc3 e1 e2
            go_wp2_with fail
            go_ret
            exact ⟨_, rfl, m, hR3, hP.out.1, hP.out.2, fun h => hst.1 (by simpa using h), fun h => hst.2 (by have := hU.le; simp at h; omega), hC3⟩
          · have HB := Lib.hid hb
            clear hb
            have hU2 := hU.step (ahead_swo up) h2 hj P1.out hj0 HB.out HS.out
            have hP2 : Hid ((sw Ord.zero m k c1).Perm l ∧ (sw Ord.zero m k c1).drop n = l.drop n) := by
              refine ⟨(sw_perm Ord.zero (by omega) (by omega)).trans hP.out.1, ?_⟩
              rw [← hP.out.2]
              unfold sw
              rw [List.drop_set_of_lt (by omega), List.drop_set_of_lt (by omega)]
            refine (rowLess hR2 (i := c1) (j := k) (by omega) (by omega)).mono ?_
            rw [HB.out]
            rintro e w3 ⟨rfl, hc3⟩
            have hR3 := hR2.chg hc3 (by simp) (by simp)
            have hC3 : Chg [s] w w3 := hC2.trans (hc3.mono (by simp))
            clear hR2 hC2 hc3 hU hP HS
            go_wp2_with fail
            refine (rowSwap hR3 (i := k) (j := c1) (by omega) (by omega) (by omega)).mono ?_
            rintro e w4 ⟨rfl, hR4, hC4⟩
            have hC5 := hC3.trans hC4
            clear hR3 hC3 hC4 e1 e2
            generalize sw Ord.zero m k c1 = m2 at *
            go_wp2_with fail
            go_roundw
            case rel => exact ⟨c1, m2, by omega, rfl, hR4, hP2, hU2, hC5⟩
            case measure => simp [intOf]; omega
        · have HA := Lib.hid ha
          clear ha
          have HS : Hid (∀ c, 0 < c → c < n → par c = k → ahead up (m.getD c Ord.zero) (m.getD c2 Ord.zero) = false) := fun c c0 cn cp => by
            rcases child_par c0 cp with h | h
            · rw [h, ← C1.out]; exact (ahead_swo up).asy HA.out
            · rw [h, ← C2.out]; exact (ahead_swo up).irr _
          have hj := g2
          have hj0 : 0 < c2 := by omega
          go_wp2_with fail
          refine (rowLess hR (i := c2) (j := c1) (by omega) (by omega)).mono ?_
          rw [HA.out]
          rintro e w2 ⟨rfl, hc⟩
          have hR2 := hR.chg hc (by simp) (by simp)
          have hC2 : Chg [s] w w2 := hC.trans (hc.mono (by simp))
          clear hR hC hc
          go_wp2_with fail
          cases hb : ahead up (m.getD c2 Ord.zero) (m.getD k Ord.zero)
          · have HB := Lib.hid hb
            clear hb
            have hst := hU.stop (fun c c0 cn cp => (ahead_swo up).ntr _ _ _ (HS.out c c0 cn cp) HB.out)
            refine (rowLess hR2 (i := c2) (j := k) (by omega) (by omega)).mono ?_
            rw [HB.out]
            rintro e w3 ⟨rfl, hc3⟩
            have hR3 := hR2.chg hc3 (by simp) (by simp)
            have hC3 : Chg [s] w w3 := hC2.trans (hc3.mono (by simp))
            clear hR2 hC2 hc3 e1 e2
            go_wp2_with fail
            go_ret
            exact ⟨_, rfl, m, hR3, hP.out.1, hP.out.2, fun h => hst.1 (by simpa using h), fun h => hst.2 (by have := hU.le; simp at h; omega), hC3⟩
          · have HB := Lib.hid hb
            clear hb
            have hU2 := hU.step (ahead_swo up) h2 hj P2.out hj0 HB.out HS.out
            have hP2 : Hid ((sw Ord.zero m k c2).Perm l ∧ (sw Ord.zero m k c2).drop n = l.drop n) := by
              refine ⟨(sw_perm Ord.zero (by omega) (by omega)).trans hP.out.1, ?_⟩
              rw [← hP.out.2]
              unfold sw
              rw [List.drop_set_of_lt (by omega), List.drop_set_of_lt (by omega)]
            refine (rowLess hR2 (i := c2) (j := k) (by omega) (by omega)).mono ?_
            rw [HB.out]
            rintro e w3 ⟨rfl, hc3⟩
            have hR3 := hR2.chg hc3 (by simp) (by simp)
            have hC3 : Chg [s] w w3 := hC2.trans (hc3.mono (by simp))
            clear hR2 hC2 hc3 hU hP HS
            go_wp2_with fail
            refine (rowSwap hR3 (i := k) (j := c2) (by omega) (by omega) (by omega)).mono ?_
            rintro e w4 ⟨rfl, hR4, hC4⟩
            have hC5 := hC3.trans hC4
            clear hR3 hC3 hC4 e1 e2
            generalize sw Ord.zero m k c2 = m2 at *
            go_wp2_with fail
            go_roundw
            case rel => exact ⟨c2, m2, by omega, rfl, hR4, hP2, hU2, hC5⟩
            case measure => simp [intOf]; omega
      · have HS : Hid (∀ c, 0 < c → c < n → par c = k → ahead up (m.getD c Ord.zero) (m.getD c1 Ord.zero) = false) := fun c c0 cn cp => by
          rcases child_par c0 cp with h | h
          · rw [h, ← C1.out]; exact (ahead_swo up).irr _
          · have := C2.out; omega
        have hj := g1
        have hj0 : 0 < c1 := by omega
        have hR2 := hR
        have hC2 := hC
        clear hR hC
        · go_wp2_with fail
          cases hb : ahead up (m.getD c1 Ord.zero) (m.getD k Ord.zero)
          · have HB := Lib.hid hb
            clear hb
            have hst := hU.stop (fun c c0 cn cp => (ahead_swo up).ntr _ _ _ (HS.out c c0 cn cp) HB.out)
            refine (rowLess hR2 (i := c1) (j := k) (by omega) (by omega)).mono ?_
            rw [HB.out]
            rintro e w3 ⟨rfl, hc3⟩
            have hR3 := hR2.chg hc3 (by simp) (by simp)
            have hC3 : Chg [s] w w3 := hC2.trans (hc3.mono (by simp))
            clear hR2 hC2 hc3 e1 e2
            go_wp2_with fail
            go_ret
            exact ⟨_, rfl, m, hR3, hP.out.1, hP.out.2, fun h => hst.1 (by simpa using h), fun h => hst.2 (by have := hU.le; simp at h; omega), hC3⟩
          · have HB := Lib.hid hb
            clear hb
            have hU2 := hU.step (ahead_swo up) h2 hj P1.out hj0 HB.out HS.out
            have hP2 : Hid ((sw Ord.zero m k c1).Perm l ∧ (sw Ord.zero m k c1).drop n = l.drop n) := by
              refine ⟨(sw_perm Ord.zero (by omega) (by omega)).trans hP.out.1, ?_⟩
              rw [← hP.out.2]
              unfold sw
              rw [List.drop_set_of_lt (by omega), List.drop_set_of_lt (by omega)]
            refine (rowLess hR2 (i := c1) (j := k) (by omega) (by omega)).mono ?_
            rw [HB.out]
            rintro e w3 ⟨rfl, hc3⟩
            have hR3 := hR2.chg hc3 (by simp) (by simp)
            have hC3 : Chg [s] w w3 := hC2.trans (hc3.mono (by simp))
            clear hR2 hC2 hc3 hU hP HS
            go_wp2_with fail
            refine (rowSwap hR3 (i := k) (j := c1) (by omega) (by omega) (by omega)).mono ?_
            rintro e w4 ⟨rfl, hR4, hC4⟩
            have hC5 := hC3.trans hC4
            clear hR3 hC3 hC4 e1 e2
            generalize sw Ord.zero m k c1 = m2 at *
            go_wp2_with fail
            go_roundw
            case rel => exact ⟨c1, m2, by omega, rfl, hR4, hP2, hU2, hC5⟩
            case measure => simp [intOf]; omega
    · have hst := hU.stop (fun c c0 cn cp => by
        exfalso
        rcases child_par c0 cp with h | h
        · have := C1.out; omega
        · have := C1.out; omega)
      go_wp2_with fail
      go_ret
      exact ⟨_, rfl, m, hR, hP.out.1, hP.out.2, fun h => hst.1 (by simpa using h), fun h => hst.2 (by have := hU.le; simp at h; omega), hC⟩
end Go.Proofs.Ytofcphfgpnobnaa
