import Derived.Test.YtofcphfgpnobnaaSortW2
import Derived.Test.YtofcphfgpnobnaaSort2
namespace Go.Proofs.Ytofcphfgpnobnaa
set_option linter.unusedVariables false
open Go Go.Proofs Go.RowKit
attribute [local go_sem ↓] Go.wp_at_zero Go.wp_at_succ

set_option maxRecDepth 100000 in
set_option maxHeartbeats 4000000 in
/-- slices.symMergeCmpFunc: one against many. -/
theorem symA {w : World} {g b K n cap : Nat} {up : Bool} {l : List Ord} (h : Srow w g b K up l) (hn : n = l.length) (hnc : n ≤ cap) (hcm : cap ≤ 9223372036854775807) (hm : n < 1000000000000) {a m c : Nat} (hma : m = a + 1) (hac : m < c) (hcn : c ≤ n) (hS : SrtI up l m c) :
    Calls Try.prog 68 #[.slice (some ⟨g, 0, none⟩) n cap, .int .i64 a, .int .i64 m, .int .i64 c, fcmp b] w fun e w' => e = .returned (.tuple #[]) ∧ ∃ l', Srow w' g b K up l' ∧ Mix l l' a c ∧ SrtI up l' a c ∧ Chg [g] w w' := by
  have HN := Lib.hid hn
  have HM := Lib.hid hma
  have am : a < m := by omega
  have ma : m ≤ a + 1 := by omega
  have ht : ((m : Int) - (a : Int) == 1) = true := beq_iff_eq.2 (by omega)
  clear hn hma
  go_enter Try.func68, Try.ntmps68
  go_wp2_with fail
  go_loopw [10, 11] (fun u v wr => ∃ (i j : Nat), u = .int .i64 i ∧ v = .int .i64 j ∧ Srch m c i j (fun h => ahead up (gO l h) (gO l a)) ∧ Srow wr g b K up l ∧ Chg [g] w wr) (fun u v _ => (intOf v).toNat - (intOf u).toNat)
  case atStart => exact ⟨m, c, rfl, rfl, Srch.start (by omega), h, Chg.refl _ _⟩
  case round =>
    clear h
    obtain ⟨i, j, rfl, rfl, hF, hR, hC⟩ := hrel
    have f1 := hF.lo
    have f2 := hF.mid
    have f3 := hF.hi
    by_cases hlt : i < j
    · obtain ⟨h, hh⟩ : ∃ h, h = (i + j) / 2 := ⟨_, rfl⟩
      have e1 : ((i : Int) + (j : Int)) / 2 = (h : Int) := by omega
      have h1 : i ≤ h := by omega
      have h2 : h < j := by omega
      have h3 : (0 : Int) ≤ (h : Int) := by omega
      have h4 : (h : Int) < (n : Int) := by omega
      have h5 : (0 : Int) ≤ (a : Int) := by omega
      have h6 : (a : Int) < (n : Int) := by omega
      clear hh
      obtain ⟨x0, x1, x2, x3, x4⟩ := Orow.at hR.row (k := h) (by rw [← HN.out]; omega)
      obtain ⟨y0, y1, y2, y3, y4⟩ := Orow.at hR.row (k := a) (by rw [← HN.out]; omega)
      cases ha : ahead up (gO l h) (gO l a)
      · have hF2 := hF.down (h := h) h1 h2 ha
        have HA := Lib.hid ha
        clear ha
        unfold gO at HA
        generalize l.getD h Ord.zero = x at *
        generalize l.getD a Ord.zero = y at *
        go_wp2_with fail
        go_still_tail 9, (by kernel_rfl)
        change wpList _ _ _ _ _ wr.drew
        have hR2 := hR.drew
        have hC2 := hC.drew
        clear hR hC x0 x1 x2 x3 x4 y0 y1 y2 y3 y4
        generalize wr.drew = w2 at *
        go_wp2_with fail
        refine (ask_no hR2.dir HA.out).mono ?_
        rintro e w3 ⟨r, rfl, r1, r2, c3⟩
        have hR3 := hR2.chg c3
        have hC3 := hC2.trans (c3.mono (by simp))
        clear hR2 hC2 c3
        go_wp2_with fail
        go_roundw
        case rel => exact ⟨i, h, rfl, rfl, hF2, hR3, hC3⟩
        case measure => simp [intOf]; omega
      · have hF2 := hF.up (h := h) h1 h2 ha
        have HA := Lib.hid ha
        clear ha
        unfold gO at HA
        generalize l.getD h Ord.zero = x at *
        generalize l.getD a Ord.zero = y at *
        go_wp2_with fail
        go_still_tail 9, (by kernel_rfl)
        change wpList _ _ _ _ _ wr.drew
        have hR2 := hR.drew
        have hC2 := hC.drew
        clear hR hC x0 x1 x2 x3 x4 y0 y1 y2 y3 y4
        generalize wr.drew = w2 at *
        go_wp2_with fail
        refine (ask_yes hR2.dir HA.out).mono ?_
        rintro e w3 ⟨r, rfl, r1, r2, c3⟩
        have hR3 := hR2.chg c3
        have hC3 := hC2.trans (c3.mono (by simp))
        clear hR2 hC2 c3
        go_wp2_with fail
        go_roundw
        case rel => exact ⟨h + 1, j, by go_num, rfl, hF2, hR3, hC3⟩
        case measure => simp [intOf]; omega
    · obtain rfl : i = j := by omega
      obtain ⟨q, rfl⟩ : ∃ q, i = q + 1 := ⟨i - 1, by omega⟩
      have hfin : ∀ l', Turn (rot a (a + 1) (q + 1)) l l' → Mix l l' a c ∧ SrtI up l' a c := fun l' t => ⟨(t.mix (by omega) (by omega)).wide (Nat.le_refl _) (by omega), by have e := HM.out; subst e; exact mergeA hS t (by omega) (by omega) hF.left hF.right⟩
      have HF := Lib.hid hfin
      clear hfin
      go_wp2_with fail
      obtain ⟨wo, rfl⟩ : ∃ wo : World, wo = wr := ⟨_, rfl⟩
      go_loopw [13] (fun u wr => ∃ (k : Nat) (d : List Ord), u = .int .i64 k ∧ a ≤ k ∧ k ≤ q ∧ Turn (rot a (a + 1) (k + 1)) l d ∧ Srow wr g b K up d ∧ Chg [g] w wr) (fun u _ => q - (intOf u).toNat)
      case atStart => exact ⟨a, l, rfl, Nat.le_refl _, by omega, Turn.start _ (rotA_id a), hR, hC⟩
      case round =>
        clear hR hC hF
        obtain ⟨k, d, rfl, k1, k2, hT, hR, hC⟩ := hrel
        by_cases hk : k < q
        · have hlen : d.length = n := by rw [hT.perm.length_eq, HN.out]
          have hT2 := hT.stepA k1 (by rw [← HN.out]; omega)
          obtain ⟨x0, x1, x2, x3, x4⟩ := Orow.at hR.row (k := k) (by omega)
          obtain ⟨y0, y1, y2, y3, y4⟩ := Orow.at hR.row (k := k + 1) (by omega)
          have f : ∀ j, wr.frozen? ⟨g, j, none⟩ = false := fun j => Beg.free hR.row j
          have HS := Lib.hid (hR.sw (i := k) (j := k + 1) (by omega) (by omega))
          unfold gO at HS
          generalize d.getD k Ord.zero = x at *
          generalize d.getD (k + 1) Ord.zero = y at *
          have i1 : (0 : Int) ≤ (k : Int) := by omega
          have i2 : (k : Int) < (n : Int) := by omega
          have i3 : (0 : Int) ≤ (k : Int) + 1 := by omega
          have i4 : (k : Int) + 1 < (n : Int) := by omega
          clear hR hlen
          go_wp2_with fail
          go_region
          go_wp2_with fail
          go_roundw
          case rel => exact ⟨k + 1, _, by go_num, by omega, by omega, hT2, HS.out.drew, (sto_chg (sto_chg hC _ _ _ (by simp)) _ _ _ (by simp)).drew⟩
          case measure => simp [intOf]; omega
        · obtain rfl : k = q := by omega
          obtain ⟨m1, m2⟩ := HF.out d hT
          go_wp2_with fail
          refine bodyPost_ret (results_none rfl _ _ _) rfl ?_
          exact ⟨rfl, d, hR, m1, m2, hC⟩
end Go.Proofs.Ytofcphfgpnobnaa
