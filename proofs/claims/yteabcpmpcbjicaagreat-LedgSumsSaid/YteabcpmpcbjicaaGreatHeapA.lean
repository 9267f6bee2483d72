
import Derived.Test.YteabcpmpcbjicaaGreatRowA
namespace Go.Proofs.YteabcpmpcbjicaaGreat
set_option linter.unusedVariables false
open Go Go.Proofs Go.RowKit

theorem na_push (n : Nat) (a : Addr) (w : World) : (nilAhead (n + 1) 253 (.pointer (some a)) "Push").run Tryz.prog w = .ok (some false) w := by kernel_rfl
theorem na_pop (n : Nat) (a : Addr) (w : World) : (nilAhead (n + 1) 253 (.pointer (some a)) "Pop").run Tryz.prog w = .ok (some false) w := by kernel_rfl
theorem na_len (n : Nat) (a : Addr) (w : World) : (nilAhead (n + 1) 253 (.pointer (some a)) "Len").run Tryz.prog w = .ok (some false) w := by kernel_rfl
theorem na_less (n : Nat) (a : Addr) (w : World) : (nilAhead (n + 1) 253 (.pointer (some a)) "Less").run Tryz.prog w = .ok (some false) w := by kernel_rfl
theorem na_swap (n : Nat) (a : Addr) (w : World) : (nilAhead (n + 1) 253 (.pointer (some a)) "Swap").run Tryz.prog w = .ok (some false) w := by kernel_rfl
theorem me_push (n : Nat) (a : Addr) (w : World) : (method (n + 1) 253 (.pointer (some a)) "Push").run Tryz.prog w = .ok (249, .pointer (some a)) w := by kernel_rfl
theorem me_pop (n : Nat) (a : Addr) (w : World) : (method (n + 1) 253 (.pointer (some a)) "Pop").run Tryz.prog w = .ok (248, .pointer (some a)) w := by kernel_rfl
theorem me_len (n : Nat) (a : Addr) (w : World) : (method (n + 1) 253 (.pointer (some a)) "Len").run Tryz.prog w = .ok (224, .pointer (some a)) w := by kernel_rfl
theorem me_less (n : Nat) (a : Addr) (w : World) : (method (n + 1) 253 (.pointer (some a)) "Less").run Tryz.prog w = .ok (247, .pointer (some a)) w := by kernel_rfl
theorem me_swap (n : Nat) (a : Addr) (w : World) : (method (n + 1) 253 (.pointer (some a)) "Swap").run Tryz.prog w = .ok (250, .pointer (some a)) w := by kernel_rfl

attribute [local go_sem] na_push na_pop na_len na_less na_swap me_push me_pop me_len me_less me_swap

theorem Row.swapped {w : World} {b s : Nat} {up : Bool} {l : List Ord} (h : Row w b s up l) (n : Nat) (he : l.length = n) : Row w b s up l := h

set_option maxRecDepth 100000 in
set_option maxHeartbeats 2000000 in
/-- container/heap.up. -/
theorem heapUp {w : World} {b s : Nat} {up : Bool} {l : List Ord} {n : Nat} (h : Row w b s up l) {j : Nat} (hj : j < n) (hn : n ≤ l.length) (hnm : l.length < 1000000000000) (hU : UpI Ord.zero (ahead up) n l j) :
    Calls Tryz.prog 220 #[.iface 253 (.pointer (some ⟨b, 0, none⟩)), .int .i64 j] w fun e w' => e = .returned (.tuple #[]) ∧ ∃ l', Row w' b s up l' ∧ l'.Perm l ∧ l'.drop n = l.drop n ∧ Hp Ord.zero (ahead up) n l' ∧ Chg [s] w w' := by
  have HN := Lib.hid hn
  clear hn
  go_enter Tryz.func220, Tryz.ntmps220
  go_wp2_with fail
  go_loopw [1] (fun i wr => ∃ (k : Nat) (m : List Ord), k < n ∧ i = .int .i64 k ∧ Row wr b s up m ∧ Hid (m.Perm l ∧ m.drop n = l.drop n) ∧ UpI Ord.zero (ahead up) n m k ∧ Chg [s] w wr) (fun i _ => (intOf i).toNat)
  case atStart => exact ⟨j, l, hj, rfl, h, ⟨List.Perm.refl _, rfl⟩, hU, Chg.refl _ _⟩
  case round =>
    clear h hU hj
    obtain ⟨k, m, hk, rfl, hR, hP, hU, hC⟩ := hrel
    by_cases k0 : k = 0
    · subst k0
      go_wp2_with fail
      go_end0
      exact ⟨rfl, m, hR, hP.out.1, hP.out.2, hU.done _ _ (.inl rfl), hC⟩
    · have hkb : k < 1000000000000 := by have := HN.out; omega
      have hp : ((k : Int) - 1) / 2 = ((par k : Nat) : Int) := by unfold par; omega
      have hlt : par k < k := by unfold par; omega
      have hne : (((par k : Nat) : Int) == (k : Int)) = false := beq_eq_false_iff_ne.2 (by omega)
      have hl : l.length = m.length := hP.out.1.length_eq.symm
      have HL := Lib.hid hl
      have h2 : n ≤ m.length := by rw [← hl]; exact HN.out
      clear hl
      have h1 : (1 : Int) ≤ (k : Int) := by omega
      cases ha : ahead up (m.getD k Ord.zero) (m.getD (par k) Ord.zero)
      · have HA := Lib.hid ha
        clear ha
        go_wp2_with fail
        refine (rowLess hR (i := k) (j := par k) (by omega) (by omega)).mono ?_
        rw [HA.out]
        rintro e w' ⟨rfl, hc⟩
        have hR2 := hR.chg hc (by simp) (by simp)
        have hC2 : Chg [s] w w' := hC.trans (hc.mono (by simp))
        clear hR hC hc hp
        go_wp2_with fail
        go_end0
        exact ⟨rfl, m, hR2, hP.out.1, hP.out.2, hU.done _ _ (.inr HA.out), hC2⟩
      · have HA := Lib.hid ha
        clear ha
        have hU2 := hU.step (ahead_swo up) h2 hk (by omega) HA.out
        have hP2 : Hid ((sw Ord.zero m (par k) k).Perm l ∧ (sw Ord.zero m (par k) k).drop n = l.drop n) := by
          refine ⟨(sw_perm Ord.zero (by omega) (by omega)).trans hP.out.1, ?_⟩
          rw [← hP.out.2]
          unfold sw
          rw [List.drop_set_of_lt (by omega), List.drop_set_of_lt (by omega)]
        go_wp2_with fail
        refine (rowLess hR (i := k) (j := par k) (by omega) (by omega)).mono ?_
        rw [HA.out]
        rintro e w' ⟨rfl, hc⟩
        have hR2 := hR.chg hc (by simp) (by simp)
        have hC2 : Chg [s] w w' := hC.trans (hc.mono (by simp))
        clear hR hC hc hU hP
        go_wp2_with fail
        refine (rowSwap hR2 (i := par k) (j := k) (by omega) (by omega) (by omega)).mono ?_
        rintro e w2 ⟨rfl, hR3, hC3⟩
        have hC4 := hC2.trans hC3
        clear hR2 hC2 hC3 hp
        generalize sw Ord.zero m (par k) k = m2 at *
        go_wp2_with fail
        go_roundw
        case rel => exact ⟨par k, m2, by omega, rfl, hR3, hP2, hU2, hC4⟩
        case measure => simp [intOf]; omega
end Go.Proofs.YteabcpmpcbjicaaGreat

namespace Go.Proofs.YteabcpmpcbjicaaGreat
set_option linter.unusedVariables false
open Go Go.Proofs Go.RowKit
attribute [local go_sem] na_push na_pop na_len na_less na_swap me_push me_pop me_len me_less me_swap

theorem child_par {c k : Nat} (h0 : 0 < c) (h : par c = k) : c = 2 * k + 1 ∨ c = 2 * k + 2 := by unfold par at h; omega
theorem par_of {c k : Nat} (h : c = 2 * k + 1 ∨ c = 2 * k + 2) : par c = k := by unfold par; omega

set_option maxRecDepth 100000 in
set_option maxHeartbeats 4000000 in
/-- container/heap.down. -/
theorem heapDown {w : World} {b s : Nat} {up : Bool} {l : List Ord} {n i0 : Nat} (h : Row w b s up l) (hi : i0 < n) (hn : n ≤ l.length) (hnm : l.length < 1000000000000) (hD : DnI Ord.zero (ahead up) n l i0 i0) :
    Calls Tryz.prog 225 #[.iface 253 (.pointer (some ⟨b, 0, none⟩)), .int .i64 i0, .int .i64 n] w fun e w' => ∃ t, e = .returned (.bool t) ∧ ∃ l', Row w' b s up l' ∧ l'.Perm l ∧ l'.drop n = l.drop n ∧ (t = true → Hp Ord.zero (ahead up) n l') ∧ (t = false → UpI Ord.zero (ahead up) n l' i0) ∧ Chg [s] w w' := by
  have HN := Lib.hid hn
  have hn1 : n < 1000000000000 := by omega
  clear hn
  go_enter Tryz.func225, Tryz.ntmps225
  go_wp2_with fail
  go_loopw [7] (fun i wr => ∃ (k : Nat) (m : List Ord), k < n ∧ i = .int .i64 k ∧ Row wr b s up m ∧ Hid (m.Perm l ∧ m.drop n = l.drop n) ∧ DnI Ord.zero (ahead up) n m i0 k ∧ Chg [s] w wr) (fun i _ => n - (intOf i).toNat)
  case atStart => exact ⟨i0, l, hi, rfl, h, ⟨List.Perm.refl _, rfl⟩, hD, Chg.refl _ _⟩
  case round =>
    clear h hD hi
    obtain ⟨k, m, hk, rfl, hR, hP, hU, hC⟩ := hrel
    obtain ⟨c1, hc1⟩ : ∃ c1, c1 = 2 * k + 1 := ⟨_, rfl⟩
    obtain ⟨c2, hc2⟩ : ∃ c2, c2 = 2 * k + 2 := ⟨_, rfl⟩
    have e1 : 2 * (k : Int) + 1 = (c1 : Int) := by omega
    have e2 : (c1 : Int) + 1 = (c2 : Int) := by omega
    have C1 := Lib.hid hc1
    have C2 := Lib.hid hc2
    have k1 : k < c1 := by omega
    have k2 : k < c2 := by omega
    have k3 : c2 ≤ 2 * k + 2 := by omega
    have k4 : c1 ≤ 2 * k + 1 := by omega
    have k5 : c1 < c2 := by omega
    have h2 : n ≤ m.length := by rw [hP.out.1.length_eq]; exact HN.out
    clear hc1 hc2
    by_cases g1 : c1 < n
    · have p1 : par c1 = k := par_of (.inl C1.out)
      have p2 : par c2 = k := par_of (.inr C2.out)
      have P1 := Lib.hid p1
      have P2 := Lib.hid p2
      clear p1 p2
      by_cases g2 : c2 < n
      · cases ha : ahead up (m.getD c2 Ord.zero) (m.getD c1 Ord.zero)
        · have HA := Lib.hid ha
          clear ha
          have HS : Hid (∀ c, 0 < c → c < n → par c = k → ahead up (m.getD c Ord.zero) (m.getD c1 Ord.zero) = false) := fun c c0 cn cp => by
            rcases child_par c0 cp with h | h
            · rw [h, ← C1.out]; exact (ahead_swo up).irr _
            · rw [h, ← C2.out]; exact HA.out
          have hj := g1
          have hj0 : 0 < c1 := by omega
          go_wp2_with fail
          refine (rowLess hR (i := c2) (j := c1) (by omega) (by omega)).mono ?_
          rw [HA.out]
          rintro e w2 ⟨rfl, hc⟩
          have hR2 := hR.chg hc (by simp) (by simp)
          have hC2 : Chg [s] w w2 := hC.trans (hc.mono (by simp))
          clear hR hC hc
          go_wp2_with fail
          cases hb : ahead up (m.getD c1 Ord.zero) (m.getD k Ord.zero)
          · have HB := Lib.hid hb
            clear hb
            have hst := hU.stop (fun c c0 cn cp => (ahead_swo up).ntr _ _ _ (HS.out c c0 cn cp) HB.out)
            refine (rowLess hR2 (i := c1) (j := k) (by omega) (by omega)).mono ?_
            rw [HB.out]
            rintro e w3 ⟨rfl, hc3⟩
            have hR3 := hR2.chg hc3 (by simp) (by simp)
            have hC3 : Chg [s] w w3 := hC2.trans (hc3.mono (by simp))
            clear hR2 hC2 hc3 e1 e2
            go_wp2_with fail
            go_ret
            exact ⟨_, rfl, m, hR3, hP.out.1, hP.out.2, fun h => hst.1 (by simpa using h), fun h => hst.2 (by have := hU.le; simp at h; omega), hC3⟩
          · have HB := Lib.hid hb
            clear hb
            have hU2 := hU.step (ahead_swo up) h2 hj P1.out hj0 HB.out HS.out
            have hP2 : Hid ((sw Ord.zero m k c1).Perm l ∧ (sw Ord.zero m k c1).drop n = l.drop n) := by
              refine ⟨(sw_perm Ord.zero (by omega) (by omega)).trans hP.out.1, ?_⟩
              rw [← hP.out.2]
              unfold sw
              rw [List.drop_set_of_lt (by omega), List.drop_set_of_lt (by omega)]
            refine (rowLess hR2 (i := c1) (j := k) (by omega) (by omega)).mono ?_
            rw [HB.out]
            rintro e w3 ⟨rfl, hc3⟩
            have hR3 := hR2.chg hc3 (by simp) (by simp)
            have hC3 : Chg [s] w w3 := hC2.trans (hc3.mono (by simp))
            clear hR2 hC2 hc3 hU hP HS
            go_wp2_with fail
            refine (rowSwap hR3 (i := k) (j := c1) (by omega) (by omega) (by omega)).mono ?_
            rintro e w4 ⟨rfl, hR4, hC4⟩
            have hC5 := hC3.trans hC4
            clear hR3 hC3 hC4 e1 e2
            generalize sw Ord.zero m k c1 = m2 at *
            go_wp2_with fail
            go_roundw
            case rel => exact ⟨c1, m2, by omega, rfl, hR4, hP2, hU2, hC5⟩
            case measure => simp [intOf]; omega
        · have HA := Lib.hid ha
          clear ha
          have HS : Hid (∀ c, 0 < c → c < n → par c = k → ahead up (m.getD c Ord.zero) (m.getD c2 Ord.zero) = false) := fun c c0 cn cp => by
            rcases child_par c0 cp with h | h
            · rw [h, ← C1.out]; exact (ahead_swo up).asy HA.out
            · rw [h, ← C2.out]; exact (ahead_swo up).irr _
          have hj := g2
          have hj0 : 0 < c2 := by omega
          go_wp2_with fail
          refine (rowLess hR (i := c2) (j := c1) (by omega) (by omega)).mono ?_
          rw [HA.out]
          rintro e w2 ⟨rfl, hc⟩
          have hR2 := hR.chg hc (by simp) (by simp)
          have hC2 : Chg [s] w w2 := hC.trans (hc.mono (by simp))
          clear hR hC hc
          go_wp2_with fail
          cases hb : ahead up (m.getD c2 Ord.zero) (m.getD k Ord.zero)
          · have HB := Lib.hid hb
            clear hb
            have hst := hU.stop (fun c c0 cn cp => (ahead_swo up).ntr _ _ _ (HS.out c c0 cn cp) HB.out)
            refine (rowLess hR2 (i := c2) (j := k) (by omega) (by omega)).mono ?_
            rw [HB.out]
            rintro e w3 ⟨rfl, hc3⟩
            have hR3 := hR2.chg hc3 (by simp) (by simp)
            have hC3 : Chg [s] w w3 := hC2.trans (hc3.mono (by simp))
            clear hR2 hC2 hc3 e1 e2
            go_wp2_with fail
            go_ret
            exact ⟨_, rfl, m, hR3, hP.out.1, hP.out.2, fun h => hst.1 (by simpa using h), fun h => hst.2 (by have := hU.le; simp at h; omega), hC3⟩
          · have HB := Lib.hid hb
            clear hb
            have hU2 := hU.step (ahead_swo up) h2 hj P2.out hj0 HB.out HS.out
            have hP2 : Hid ((sw Ord.zero m k c2).Perm l ∧ (sw Ord.zero m k c2).drop n = l.drop n) := by
              refine ⟨(sw_perm Ord.zero (by omega) (by omega)).trans hP.out.1, ?_⟩
              rw [← hP.out.2]
              unfold sw
              rw [List.drop_set_of_lt (by omega), List.drop_set_of_lt (by omega)]
            refine (rowLess hR2 (i := c2) (j := k) (by omega) (by omega)).mono ?_
            rw [HB.out]
            rintro e w3 ⟨rfl, hc3⟩
            have hR3 := hR2.chg hc3 (by simp) (by simp)
            have hC3 : Chg [s] w w3 := hC2.trans (hc3.mono (by simp))
            clear hR2 hC2 hc3 hU hP HS
            go_wp2_with fail
            refine (rowSwap hR3 (i := k) (j := c2) (by omega) (by omega) (by omega)).mono ?_
            rintro e w4 ⟨rfl, hR4, hC4⟩
            have hC5 := hC3.trans hC4
            clear hR3 hC3 hC4 e1 e2
            generalize sw Ord.zero m k c2 = m2 at *
            go_wp2_with fail
            go_roundw
            case rel => exact ⟨c2, m2, by omega, rfl, hR4, hP2, hU2, hC5⟩
            case measure => simp [intOf]; omega
      · have HS : Hid (∀ c, 0 < c → c < n → par c = k → ahead up (m.getD c Ord.zero) (m.getD c1 Ord.zero) = false) := fun c c0 cn cp => by
          rcases child_par c0 cp with h | h
          · rw [h, ← C1.out]; exact (ahead_swo up).irr _
          · have := C2.out; omega
        have hj := g1
        have hj0 : 0 < c1 := by omega
        have hR2 := hR
        have hC2 := hC
        clear hR hC
        · go_wp2_with fail
          cases hb : ahead up (m.getD c1 Ord.zero) (m.getD k Ord.zero)
          · have HB := Lib.hid hb
            clear hb
            have hst := hU.stop (fun c c0 cn cp => (ahead_swo up).ntr _ _ _ (HS.out c c0 cn cp) HB.out)
            refine (rowLess hR2 (i := c1) (j := k) (by omega) (by omega)).mono ?_
            rw [HB.out]
            rintro e w3 ⟨rfl, hc3⟩
            have hR3 := hR2.chg hc3 (by simp) (by simp)
            have hC3 : Chg [s] w w3 := hC2.trans (hc3.mono (by simp))
            clear hR2 hC2 hc3 e1 e2
            go_wp2_with fail
            go_ret
            exact ⟨_, rfl, m, hR3, hP.out.1, hP.out.2, fun h => hst.1 (by simpa using h), fun h => hst.2 (by have := hU.le; simp at h; omega), hC3⟩
          · have HB := Lib.hid hb
            clear hb
            have hU2 := hU.step (ahead_swo up) h2 hj P1.out hj0 HB.out HS.out
            have hP2 : Hid ((sw Ord.zero m k c1).Perm l ∧ (sw Ord.zero m k c1).drop n = l.drop n) := by
              refine ⟨(sw_perm Ord.zero (by omega) (by omega)).trans hP.out.1, ?_⟩
              rw [← hP.out.2]
              unfold sw
              rw [List.drop_set_of_lt (by omega), List.drop_set_of_lt (by omega)]
            refine (rowLess hR2 (i := c1) (j := k) (by omega) (by omega)).mono ?_
            rw [HB.out]
            rintro e w3 ⟨rfl, hc3⟩
            have hR3 := hR2.chg hc3 (by simp) (by simp)
            have hC3 : Chg [s] w w3 := hC2.trans (hc3.mono (by simp))
            clear hR2 hC2 hc3 hU hP HS
            go_wp2_with fail
            refine (rowSwap hR3 (i := k) (j := c1) (by omega) (by omega) (by omega)).mono ?_
            rintro e w4 ⟨rfl, hR4, hC4⟩
            have hC5 := hC3.trans hC4
            clear hR3 hC3 hC4 e1 e2
            generalize sw Ord.zero m k c1 = m2 at *
            go_wp2_with fail
            go_roundw
            case rel => exact ⟨c1, m2, by omega, rfl, hR4, hP2, hU2, hC5⟩
            case measure => simp [intOf]; omega
    · have hst := hU.stop (fun c c0 cn cp => by
        exfalso
        rcases child_par c0 cp with h | h
        · have := C1.out; omega
        · have := C1.out; omega)
      go_wp2_with fail
      go_ret
      exact ⟨_, rfl, m, hR, hP.out.1, hP.out.2, fun h => hst.1 (by simpa using h), fun h => hst.2 (by have := hU.le; simp at h; omega), hC⟩
end Go.Proofs.YteabcpmpcbjicaaGreat

namespace Go.Proofs.YteabcpmpcbjicaaGreat
set_option linter.unusedVariables false
open Go Go.Proofs Go.RowKit
attribute [local go_sem] na_push na_pop na_len na_less na_swap me_push me_pop me_len me_less me_swap

abbrev OHp (up : Bool) (l : List Ord) : Prop := Hp Ord.zero (ahead up) l.length l

theorem split_last {α : Type} {m : List α} {n : Nat} {x : α} (h : m.drop n = [x]) : m = m.take n ++ [x] := by
  rw [← h, List.take_append_drop]
theorem drop_last {l : List Ord} {n : Nat} (h : l.length = n + 1) : l.drop n = [l.getD n Ord.zero] := by
  rw [List.drop_eq_getElem_cons (by omega), List.drop_of_length_le (by omega)]
  simp [List.getD, h]

set_option maxRecDepth 100000 in
set_option maxHeartbeats 1000000 in
/-- container/heap.Push. -/
theorem heapPush {w : World} {b s : Nat} {up : Bool} {l : List Ord} (h : Row w b s up l) (hH : OHp up l) {o : Ord} (ho : o.Ok) (hm : l.length < 999999999999) :
    Calls Tryz.prog 215 #[.iface 253 (.pointer (some ⟨b, 0, none⟩)), .iface 73 (ov o)] w fun e w' => e = .returned (.tuple #[]) ∧ ∃ s' l', Row w' b s' up l' ∧ l'.Perm (l ++ [o]) ∧ OHp up l' ∧ Chg [b, s] w w' ∧ (s' = s ∨ w.heap.size ≤ s') := by
  have hU := hH.push o
  go_enter Tryz.func215, Tryz.ntmps215
  go_wp2_with fail
  refine (rowPush h ho (by omega)).mono ?_
  rintro e w1 ⟨rfl, s', h1, c1, hs⟩
  go_wp2_with fail
  refine (rowLen h1).mono ?_
  rw [show (((l ++ [o]).length : Nat) : Int) = (l.length : Int) + 1 by simp]
  rintro e w' ⟨rfl, rfl⟩
  go_wp2_with fail
  refine (heapUp h1 (n := l.length + 1) (j := l.length) (by omega) (by simp) (by simp; omega) hU).mono ?_
  rintro e w2 ⟨rfl, l', h2, p2, _, g2, c2⟩
  go_wp2_with fail
  go_end0
  have e := p2.length_eq
  exact ⟨rfl, s', l', h2, p2, by unfold OHp; rw [e]; simpa using g2, c1.trans' c2 (by intro x hx; simp at hx; subst hx; rcases hs with h | h; left; simp [h]; exact .inr h), hs⟩

/-- What is left of a heap whose last one goes. -/
theorem Hp.cut {up : Bool} {m : List Ord} {n : Nat} (h : Hp Ord.zero (ahead up) n m) (hn : n ≤ m.length) : OHp up (m.take n) := by
  unfold OHp
  rw [List.length_take, Nat.min_eq_left hn]
  exact h.take (Nat.le_refl _) hn

set_option maxRecDepth 100000 in
set_option maxHeartbeats 2000000 in
theorem heapRemove_x {w : World} {b s : Nat} {up : Bool} {l : List Ord} (h : Row w b s up l) (hH : OHp up l) {i : Nat} (hi : i < l.length) (hm : l.length < 1000000000000) {x : Ord} (hx : Hid (l.getD i Ord.zero = x)) :
    Calls Tryz.prog 223 #[.iface 253 (.pointer (some ⟨b, 0, none⟩)), .int .i64 i] w fun e w' => e = .returned (.iface 73 (ov x)) ∧ ∃ l', Row w' b s up l' ∧ (x :: l').Perm l ∧ OHp up l' ∧ Chg [b, s] w w' := by
  obtain ⟨n, hn⟩ : ∃ n, l.length = n + 1 := ⟨l.length - 1, by omega⟩
  have HN := Lib.hid hn
  have hLen : Hid (((l.length : Nat) : Int) = (n : Int) + 1) := by show _ = _; omega
  have nm : n + 1 < 1000000000000 := by omega
  have ni : i ≤ n := by omega
  clear hn hm
  by_cases hin : n = i
  · subst hin
    have hl : l = l.take n ++ [x] := split_last (by rw [drop_last HN.out, hx.out])
    have HL := Lib.hid hl
    clear hl
    go_enter Tryz.func223, Tryz.ntmps223
    go_wp2_with fail
    refine (rowLen h).mono ?_
    rw [hLen.out]
    rintro e w' ⟨rfl, rfl⟩
    rw [HL.out] at h
    go_wp2_with fail
    refine (rowPop h).mono ?_
    rintro e w1 ⟨rfl, h1, c1⟩
    go_wp2_with fail
    go_ret
    refine ⟨rfl, _, h1, ?_, Hp.cut (Hp.mono hH (by have := HN.out; omega)) (by omega), c1.mono (by simp)⟩
    have := List.perm_append_comm (l₁ := [x]) (l₂ := l.take n)
    rw [← HL.out] at this
    exact this
  · have hlt : i < n := by omega
    have hne : ((n : Int) != (i : Int)) = true := by rw [bne_iff_ne]; omega
    have hD := Hp.out (ahead_swo up) HN.out (by rw [← HN.out]; exact hH) hlt
    have hP := sw_perm Ord.zero (l := l) (i := i) (j := n) hi (by have := HN.out; omega)
    have hG : Hid ((sw Ord.zero l i n).drop n = [x]) := by
      show _ = _
      rw [drop_last (by rw [sw_len]; exact HN.out), sw_get Ord.zero hi (by have := HN.out; omega), if_pos rfl, hx.out]
    have hLs : (sw Ord.zero l i n).length = n + 1 := by rw [sw_len]; exact HN.out
    have HLs := Lib.hid hLs
    have hLe : n ≤ (sw Ord.zero l i n).length := by omega
    have hLm : (sw Ord.zero l i n).length < 1000000000000 := by omega
    have HP := Lib.hid hP
    clear hP hLs hin
    have fin : ∀ (m : List Ord) (w' : World), m.Perm (sw Ord.zero l i n) → m.drop n = (sw Ord.zero l i n).drop n → Row w' b s up m → Row w' b s up (m.take n ++ [x]) ∧ (x :: m.take n).Perm l := fun m w' p d r => by
      have e := split_last (d.trans hG.out)
      refine ⟨by rw [← e]; exact r, ?_⟩
      have := List.perm_append_comm (l₁ := [x]) (l₂ := m.take n)
      rw [← e] at this
      exact this.trans (p.trans HP.out)
    have FIN := Lib.hid fin
    clear fin
    go_enter Tryz.func223, Tryz.ntmps223
    go_wp2_with fail
    refine (rowLen h).mono ?_
    rw [hLen.out]
    rintro e w' ⟨rfl, rfl⟩
    go_wp2_with fail
    refine (rowSwap h (i := i) (j := n) hi (by have := HN.out; omega) (by omega)).mono ?_
    rintro e w1 ⟨rfl, h1, c1⟩
    generalize sw Ord.zero l i n = m at *
    go_wp2_with fail
    refine (heapDown h1 hlt hLe hLm hD).mono ?_
    rintro e w2 ⟨t, rfl, m2, h2, p2, d2, y2, n2, c2⟩
    have c3 := c1.trans c2
    have l2 : n ≤ m2.length := by rw [p2.length_eq]; exact hLe
    have l3 : m2.length < 1000000000000 := by rw [p2.length_eq]; exact hLm
    clear h1 c1 c2 hLe hLm hD
    cases t with
    | true =>
      obtain ⟨r3, p3⟩ := FIN.out m2 w2 p2 d2 h2
      have HY := Hp.cut (y2 rfl) l2
      clear h2 p2 d2 y2 n2 hG
      go_wp2_with fail
      refine (rowPop r3).mono ?_
      rintro e w3 ⟨rfl, h3, c4⟩
      go_wp2_with fail
      go_ret
      exact ⟨rfl, _, h3, p3, HY, (c3.mono (by simp)).trans (c4.mono (by simp))⟩
    | false =>
      have hU := n2 rfl
      clear y2 n2
      go_wp2_with fail
      refine (heapUp h2 hlt l2 l3 hU).mono ?_
      rintro e w3 ⟨rfl, m3, h3, p3, d3, y3, c4⟩
      have l4 : n ≤ m3.length := by rw [p3.length_eq]; exact l2
      obtain ⟨r4, p4⟩ := FIN.out m3 w3 (p3.trans p2) (d3.trans d2) h3
      have HY := Hp.cut y3 l4
      have c5 := c3.trans c4
      clear h2 p2 d2 hG h3 p3 d3 y3 c3 c4 hU
      go_wp2_with fail
      refine (rowPop r4).mono ?_
      rintro e w4 ⟨rfl, h5, c6⟩
      go_wp2_with fail
      go_ret
      exact ⟨rfl, _, h5, p4, HY, (c5.mono (by simp)).trans (c6.mono (by simp))⟩
/-- container/heap.Remove. -/
theorem heapRemove {w : World} {b s : Nat} {up : Bool} {l : List Ord} (h : Row w b s up l) (hH : OHp up l) {i : Nat} (hi : i < l.length) (hm : l.length < 1000000000000) :
    Calls Tryz.prog 223 #[.iface 253 (.pointer (some ⟨b, 0, none⟩)), .int .i64 i] w fun e w' => e = .returned (.iface 73 (ov (l.getD i Ord.zero))) ∧ ∃ l', Row w' b s up l' ∧ (l.getD i Ord.zero :: l').Perm l ∧ OHp up l' ∧ Chg [b, s] w w' :=
  heapRemove_x h hH hi hm rfl
end Go.Proofs.YteabcpmpcbjicaaGreat
