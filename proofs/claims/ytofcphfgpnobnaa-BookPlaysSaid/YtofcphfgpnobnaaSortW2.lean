import Derived.Test.YtofcphfgpnobnaaSortW
namespace Go.Proofs.Ytofcphfgpnobnaa
set_option linter.unusedVariables false
open Go Go.Proofs Go.RowKit
attribute [local go_sem ↓] Go.wp_at_zero Go.wp_at_succ

set_option maxRecDepth 100000 in
set_option maxHeartbeats 4000000 in
/-- slices.swapRangeCmpFunc. -/
theorem swapRange {w : World} {g b K n cap : Nat} {up : Bool} {l : List Ord} (h : Srow w g b K up l) (hn : n = l.length) (hnc : n ≤ cap) (hcm : cap ≤ 9223372036854775807) (hm : n < 1000000000000) {a c z : Nat} (hac : a + z ≤ c) (hcz : c + z ≤ n) :
    Calls Try.prog 70 #[.slice (some ⟨g, 0, none⟩) n cap, .int .i64 a, .int .i64 c, .int .i64 z, fcmp b] w fun e w' => e = .returned (.tuple #[]) ∧ ∃ l', Srow w' g b K up l' ∧ Turn (swr a c z) l l' ∧ Chg [g] w w' := by
  have HN := Lib.hid hn
  clear hn
  go_enter Try.func70, Try.ntmps70
  go_wp2_with fail
  go_loopw [10] (fun i wr => ∃ (k : Nat) (m : List Ord), k ≤ z ∧ i = .int .i64 k ∧ Srow wr g b K up m ∧ Turn (swr a c k) l m ∧ Chg [g] w wr) (fun i _ => z - (intOf i).toNat)
  case atStart => exact ⟨0, l, by omega, rfl, h, ⟨List.Perm.refl _, fun p => by rw [show swr a c 0 p = p by unfold swr; rw [if_neg (by omega), if_neg (by omega)]]⟩, Chg.refl _ _⟩
  case round =>
    clear h
    obtain ⟨k, m, hk, rfl, hR, hT, hC⟩ := hrel
    have hlen : m.length = n := by rw [hT.perm.length_eq, HN.out]
    have hl1 : m.length ≤ n := by omega
    have hl2 : n ≤ m.length := by omega
    clear hlen
    by_cases hlt : k < z
    · have hT2 := hT.sw (by omega) (by have := HN.out; omega)
      obtain ⟨x0, x1, x2, x3, x4⟩ := Orow.at hR.row (k := a + k) (by omega)
      obtain ⟨y0, y1, y2, y3, y4⟩ := Orow.at hR.row (k := c + k) (by omega)
      have f : ∀ j, wr.frozen? ⟨g, j, none⟩ = false := fun j => Beg.free hR.row j
      have HS := Lib.hid (hR.sw (i := a + k) (j := c + k) (by omega) (by omega))
      unfold gO at HS
      generalize m.getD (a + k) Ord.zero = x at *
      generalize m.getD (c + k) Ord.zero = y at *
      have i1 : (0 : Int) ≤ (a : Int) + (k : Int) := by omega
      have i2 : (a : Int) + (k : Int) < (n : Int) := by omega
      have i3 : (0 : Int) ≤ (c : Int) + (k : Int) := by omega
      have i4 : (c : Int) + (k : Int) < (n : Int) := by omega
      clear hR
      go_wp2_with fail
      go_region
      go_wp2_with fail
      go_roundw
      case rel => exact ⟨k + 1, _, by omega, by go_num, HS.out.drew, hT2, (sto_chg (sto_chg hC _ _ _ (by simp)) _ _ _ (by simp)).drew⟩
      case measure => simp [intOf]; omega
    · obtain rfl : k = z := by omega
      go_wp2_with fail
      go_end0
      exact ⟨rfl, m, hR, hT, hC⟩

set_option maxRecDepth 100000 in
set_option maxHeartbeats 4000000 in
/-- slices.rotateCmpFunc. -/
theorem rotate {w : World} {g b K n cap : Nat} {up : Bool} {l : List Ord} (h : Srow w g b K up l) (hn : n = l.length) (hnc : n ≤ cap) (hcm : cap ≤ 9223372036854775807) (hm : n < 1000000000000) {a m c : Nat} (ham : a < m) (hmc : m < c) (hcn : c ≤ n) :
    Calls Try.prog 69 #[.slice (some ⟨g, 0, none⟩) n cap, .int .i64 a, .int .i64 m, .int .i64 c, fcmp b] w fun e w' => e = .returned (.tuple #[]) ∧ ∃ l', Srow w' g b K up l' ∧ Turn (rot a m c) l l' ∧ Chg [g] w w' := by
  have HN := Lib.hid hn
  clear hn
  go_enter Try.func69, Try.ntmps69
  go_wp2_with fail
  go_loopw [10, 11] (fun u v wr => ∃ (i j : Nat) (d : List Ord), u = .int .i64 i ∧ v = .int .i64 j ∧ Srow wr g b K up d ∧ RotI a m c l d i j ∧ Chg [g] w wr) (fun u v _ => (intOf u).toNat + (intOf v).toNat)
  case atStart => exact ⟨m - a, c - m, l, by go_num, by go_num, h, RotI.start l ham hmc, Chg.refl _ _⟩
  case round =>
    clear h
    obtain ⟨i, j, d, rfl, rfl, hR, hT, hC⟩ := hrel
    have hlen : n = d.length := by rw [hT.perm.length_eq, HN.out]
    have HL := Lib.hid hlen
    clear hlen
    have i1 := hT.i1
    have j1 := hT.j1
    have ia := hT.ia
    have jb := hT.jb
    have e1 : (m : Int) - (i : Int) = ((m - i : Nat) : Int) := by omega
    have e2 : (m : Int) + (j : Int) - (i : Int) = ((m + j - i : Nat) : Int) := by omega
    by_cases hij : i = j
    · subst hij
      clear e2
      go_wp2_with fail
      refine (swapRange hR HL.out hnc hcm hm (a := m - i) (c := m) (z := i) (by omega) (by omega)).mono ?_
      rintro e w2 ⟨rfl, d2, hR2, hT2, hC2⟩
      have hF := hT.last hT2
      have hC3 := hC.trans hC2
      clear hR hT hT2 hC hC2 e1
      go_wp2_with fail
      go_end0
      exact ⟨rfl, d2, hR2, hF, hC3⟩
    · have hne : ((i : Int) != (j : Int)) = true := by rw [bne_iff_ne]; omega
      by_cases hlt : j < i
      · clear e2
        go_wp2_with fail
        refine (swapRange hR HL.out hnc hcm hm (a := m - i) (c := m) (z := j) (by omega) (by omega)).mono ?_
        rintro e w2 ⟨rfl, d2, hR2, hT2, hC2⟩
        have hF := hT.left hlt hT2
        have hC3 := hC.trans hC2
        clear hR hT hT2 hC hC2 e1
        go_wp2_with fail
        go_roundw
        case rel => exact ⟨i - j, j, d2, by go_num, rfl, hR2, hF, hC3⟩
        case measure => simp [intOf]; omega
      · have hlt2 : i < j := by omega
        go_wp2_with fail
        refine (swapRange hR HL.out hnc hcm hm (a := m - i) (c := m + j - i) (z := i) (by omega) (by omega)).mono ?_
        rintro e w2 ⟨rfl, d2, hR2, hT2, hC2⟩
        have hF := hT.right hlt2 hT2
        have hC3 := hC.trans hC2
        clear hR hT hT2 hC hC2 e1 e2
        go_wp2_with fail
        go_roundw
        case rel => exact ⟨i, j - i, d2, rfl, by go_num, hR2, hF, hC3⟩
        case measure => simp [intOf]; omega
end Go.Proofs.Ytofcphfgpnobnaa
