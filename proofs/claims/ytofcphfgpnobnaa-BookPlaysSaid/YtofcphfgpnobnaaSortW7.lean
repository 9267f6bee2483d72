import Derived.Test.YtofcphfgpnobnaaSortW6
import Derived.Test.YtofcphfgpnobnaaSort3
namespace Go.Proofs.Ytofcphfgpnobnaa
set_option linter.unusedVariables false
open Go Go.Proofs Go.RowKit
attribute [local go_sem ↓] Go.wp_at_zero Go.wp_at_succ

/-- slices.symMergeCmpFunc. -/
theorem symMerge {n cap g b K : Nat} {up : Bool} (hnc : n ≤ cap) (hcm : cap ≤ 9223372036854775807) (hm : n < 1000000000000) : ∀ k, SymSaid n cap g b K up k := by
  intro k
  induction k with
  | zero => intro w l a m c h; omega
  | succ k ih =>
    intro w l a m c hk ham hmc hcn hn hR h1 h2
    have IH := Lib.hid ih
    by_cases c1 : m = a + 1
    · exact symA hR hn hnc hcm hm c1 hmc hcn h2
    · by_cases c2 : c = m + 1
      · exact symB hR hn hnc hcm hm (by omega) c2 hcn h1
      · by_cases c3 : (a + c) / 2 < m
        · exact symC1 IH hR hn hnc hcm hm (by omega) (by omega) (by omega) hcn rfl c3 h1 h2
        · exact symC2 IH hR hn hnc hcm hm (by omega) (by omega) (by omega) hcn rfl (by omega) h1 h2

set_option maxRecDepth 100000 in
set_option maxHeartbeats 8000000 in
/-- slices.stableCmpFunc. -/
theorem stable {w : World} {g b K n cap : Nat} {up : Bool} {l : List Ord} (h : Srow w g b K up l) (hn : n = l.length) (hnc : n ≤ cap) (hcm : cap ≤ 9223372036854775807) (hm : n < 1000000000000) :
    Calls Try.prog 64 #[.slice (some ⟨g, 0, none⟩) n cap, .int .i64 n, fcmp b] w fun e w' => e = .returned (.tuple #[]) ∧ ∃ l', Srow w' g b K up l' ∧ l'.Perm l ∧ SrtI up l' 0 n ∧ Chg [g] w w' := by
  have HN := Lib.hid hn
  clear hn
  go_enter Try.func64, Try.ntmps64
  go_wp2_with fail
  go_loopw [7, 8] (fun u v wr => ∃ (q a : Nat) (d : List Ord), u = .int .i64 a ∧ v = .int .i64 ((a : Int) + 20) ∧ a ≤ n ∧ InsB up 20 q a d ∧ Srow wr g b K up d ∧ d.Perm l ∧ Chg [g] w wr) (fun u _ _ => n - (intOf u).toNat)
  case atStart => exact ⟨0, 0, l, rfl, rfl, Nat.zero_le _, InsB.start _ _ _, h, List.Perm.refl _, Chg.refl _ _⟩
  case round =>
    clear h
    obtain ⟨q, a, d, rfl, rfl, ha, hB, hR, hP, hC⟩ := hrel
    have HL : Hid (n = d.length) := by show _ = _; rw [hP.length_eq]; exact HN.out
    by_cases hlt : a + 20 ≤ n
    · obtain ⟨c, hc⟩ : ∃ c, c = a + 20 := ⟨_, rfl⟩
      have ec : (a : Int) + 20 = (c : Int) := by omega
      have c1 : c ≤ a + 20 := by omega
      have c2 : a + 20 ≤ c := by omega
      have HC := Lib.hid hc
      clear hc
      go_wp2_with fail
      refine (insSort hR HL.out hnc hcm hm (lo := a) (hi := c) (by omega) (by omega)).mono ?_
      rintro e w2 ⟨rfl, d2, hR2, hM, hS, hC2⟩
      rw [HC.out] at hM hS
      have hB2 := hB.step hM hS
      rw [← HC.out] at hB2
      have hP2 := hM.perm.trans hP
      have hC3 := hC.trans hC2
      clear hR hB hP hM hS hC hC2 ec
      go_wp2_with fail
      go_roundw
      case rel => exact ⟨q + 1, c, d2, vint (by omega), vint (by omega), by omega, hB2, hR2, hP2, hC3⟩
      case measure => simp [intOf]; omega
    · go_wp2_with fail
      refine (insSort hR HL.out hnc hcm hm (lo := a) (hi := n) (by omega) (Nat.le_refl _)).mono ?_
      rintro e w2 ⟨rfl, d2, hR2, hM, hS, hC2⟩
      have hA := hB.last ha (by omega) hM hS
      have hP2 := hM.perm.trans hP
      have hC3 := hC.trans hC2
      clear hR hB hP hM hS hC hC2 HL
      go_wp2_with fail
      obtain ⟨wo, rfl⟩ : ∃ wo : World, wo = wr := ⟨_, rfl⟩
      go_loopw [6] (fun u wr => ∃ (bs : Nat) (d : List Ord), u = .int .i64 bs ∧ 1 ≤ bs ∧ bs ≤ 2000000000000 ∧ AllB up n bs d ∧ Srow wr g b K up d ∧ d.Perm l ∧ Chg [g] w wr) (fun u _ => n - (intOf u).toNat)
      case atStart => exact ⟨20, d2, rfl, by omega, by omega, hA, hR2, hP2, hC3⟩
      case round =>
        clear hA hR2 hP2 hC3
        obtain ⟨bs, d, rfl, bs1, bs2, hA, hR, hP, hC⟩ := hrel
        by_cases hlt2 : bs < n
        · have hM0 := MrgB.start hA
          go_wp2_with fail
          obtain ⟨wo2, rfl⟩ : ∃ wo2 : World, wo2 = wr := ⟨_, rfl⟩
          go_loopw [7, 8] (fun u v wr => ∃ (q a : Nat) (d : List Ord), u = .int .i64 a ∧ v = .int .i64 ((a : Int) + 2 * (bs : Int)) ∧ a ≤ n ∧ MrgB up n bs q a d ∧ Srow wr g b K up d ∧ d.Perm l ∧ Chg [g] w wr) (fun u _ _ => n - (intOf u).toNat)
          case atStart => exact ⟨0, 0, d, rfl, by simp, Nat.zero_le _, hM0, hR, hP, hC⟩
          case round =>
            clear hA hR hP hC hM0
            obtain ⟨q, a, d, rfl, rfl, ha, hB, hR, hP, hC⟩ := hrel
            have HL : Hid (n = d.length) := by show _ = _; rw [hP.length_eq]; exact HN.out
            obtain ⟨hh1, hh2⟩ := hB.halves
            obtain ⟨x, hx⟩ : ∃ x, x = a + bs := ⟨_, rfl⟩
            obtain ⟨c, hc⟩ : ∃ c, c = a + 2 * bs := ⟨_, rfl⟩
            have ec : (a : Int) + 2 * (bs : Int) = (c : Int) := by omega
            have ex : (a : Int) + (bs : Int) = (x : Int) := by omega
            have c1 : c ≤ a + 2 * bs := by omega
            have c2 : a + 2 * bs ≤ c := by omega
            have x1 : x ≤ a + bs := by omega
            have x2 : a + bs ≤ x := by omega
            have HCX : Hid (c = a + 2 * bs) := hc
            have HX : Hid (x = a + bs) := hx
            rw [← hx] at hh1 hh2
            clear hc hx
            by_cases hlt3 : c ≤ n
            · go_wp2_with fail
              refine (symMerge hnc hcm hm (c - a + 1) _ d a x c (by omega) (by omega) (by omega) hlt3 HL.out hR (by rwa [Nat.min_eq_left (by omega)] at hh1) (by rw [Nat.min_eq_left (by omega)] at hh2; exact hh2.sub (Nat.le_refl _) (by omega))).mono ?_
              rintro e w2 ⟨rfl, d2, hR2, hM, hS, hC2⟩
              rw [HCX.out] at hM hS
              have hB2 := hB.step hM hS
              rw [← HCX.out] at hB2
              have hP2 := hM.perm.trans hP
              have hC3 := hC.trans hC2
              clear hR hB hP hM hS hC hC2 ec ex hh1 hh2
              go_wp2_with fail
              go_roundw
              case rel => exact ⟨q + 1, c, d2, vint (by omega), vint (by omega), by omega, hB2, hR2, hP2, hC3⟩
              case measure => simp [intOf]; omega
            · by_cases hlt4 : x < n
              · go_wp2_with fail
                refine (symMerge hnc hcm hm (n - a + 1) _ d a x n (by omega) (by omega) (by omega) (Nat.le_refl _) HL.out hR (by rwa [Nat.min_eq_left (by omega)] at hh1) (by rwa [Nat.min_eq_right (by omega)] at hh2)).mono ?_
                rintro e w2 ⟨rfl, d2, hR2, hM, hS, hC2⟩
                have hA2 := hB.last ha (by omega) hM hS
                have hP2 := hM.perm.trans hP
                have hC3 := hC.trans hC2
                clear hR hB hP hM hS hC hC2 ec ex hh1 hh2
                go_wp2_with fail
                exact ⟨⟨2 * bs, d2, vint (by omega), by omega, by omega, hA2, hR2, hP2, hC3⟩, by simp [intOf]; omega⟩
              · have hA2 := hB.last ha (by omega) (Mix.refl d a n) (by rwa [Nat.min_eq_right (by omega)] at hh1)
                go_wp2_with fail
                exact ⟨⟨2 * bs, d, vint (by omega), by omega, by omega, hA2, hR, hP, hC⟩, by simp [intOf]; omega⟩
        · go_wp2_with fail
          go_end0
          exact ⟨rfl, d, hR, hP, hA.done (by omega), hC⟩
end Go.Proofs.Ytofcphfgpnobnaa
