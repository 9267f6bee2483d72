
import Derived.Test.YteabcpmpcbjicaaGreatSortA
import Derived.Test.YteabcpmpcbjicaaGreatQueueA
import Derived.IntWalk
namespace Go.Proofs.YteabcpmpcbjicaaGreat
set_option linter.unusedVariables false
open Go Go.Proofs Go.RowKit
attribute [local go_sem ↓] Go.wp_at_zero Go.wp_at_succ

/-- What is sorted: a row; and the queue whose order is asked. -/
structure Srow (w : World) (g b K : Nat) (up : Bool) (l : List Ord) : Prop where
  blk : ∃ sp, sp.length = K ∧ Blk w g 73 (ocs l ++ sp)
  dir : w.cell? ⟨b, 1, none⟩ = some (.bool up)
  ne : b ≠ g
theorem Srow.row {w : World} {g b K : Nat} {up : Bool} {l : List Ord} (h : Srow w g b K up l) : Orow w g l := h.blk.elim fun sp k => ⟨sp, k.2⟩
theorem Srow.chg {w w' : World} {g b K : Nat} {up : Bool} {l : List Ord} (h : Srow w g b K up l) (c : Chg [] w w') : Srow w' g b K up l := ⟨h.blk.elim fun sp k => ⟨sp, k.1, k.2.chg c (by simp)⟩, c.cell h.dir (by simp), h.ne⟩
theorem Srow.drew {w : World} {g b K : Nat} {up : Bool} {l : List Ord} (h : Srow w g b K up l) : Srow w.drew g b K up l := ⟨h.blk, h.dir, h.ne⟩
theorem Srow.sw {w : World} {g b K : Nat} {up : Bool} {l : List Ord} (h : Srow w g b K up l) {i j : Nat} (hi : i < l.length) (hj : j < l.length) : Srow (sto (sto w g (i * 5) (gO l j)) g (j * 5) (gO l i)) g b K up (Go.Proofs.YteabcpmpcbjicaaGreat.sw Ord.zero l i j) := by
  refine ⟨?_, ?_, h.ne⟩
  · obtain ⟨sp, k1, k2⟩ := h.blk
    refine ⟨sp, k1, ?_⟩
    have e1 := (k2.sto (i * 5) (gO l j)).sto (j * 5) (gO l i)
    rw [set5_app (by rw [ocs_len]; omega), ocs_set l i _ hi, set5_app (by rw [ocs_len, List.length_set]; omega), ocs_set _ j _ (by simpa using hj)] at e1
    exact e1
  have hc : Chg [g] w (sto (sto w g (i * 5) (gO l j)) g (j * 5) (gO l i)) := sto_chg (sto_chg (Chg.refl _ _) _ _ _ (by simp)) _ _ _ (by simp)
  exact hc.cell h.dir (by simpa using h.ne)

abbrev fcmp (b : Nat) : Value := .func (.func 147) #[.pointer (some ⟨b, 0, none⟩)] #[]

theorem ordN_bd (up : Bool) (x y : Ord) : -1 ≤ ordN up x y ∧ ordN up x y ≤ 1 := by
  unfold ordN
  rcases cmpI_cases x.price y.price with ⟨h, e⟩ | ⟨h, e⟩ | ⟨h, e⟩ <;> rcases cmpI_cases x.id y.id with ⟨g, f⟩ | ⟨g, f⟩ | ⟨g, f⟩ <;> cases up <;> simp [e, f]
/-- The order asked: ahead. -/
theorem ask_yes {w : World} {b : Nat} {up : Bool} (hu : w.cell? ⟨b, 1, none⟩ = some (.bool up)) {x y : Ord} (h : ahead up x y = true) :
    Calls Tryz.prog 147 #[.pointer (some ⟨b, 0, none⟩), ov x, ov y] w fun e w' => ∃ r : Int, e = .returned (.int .i64 r) ∧ r < 0 ∧ -1 ≤ r ∧ Chg [] w w' :=
  (order_any hu x y).mono fun e w' ⟨he, hc⟩ => ⟨_, he, by have := ordN_lt up x y; rw [h] at this; simpa using this, (ordN_bd up x y).1, hc⟩
theorem ask_no {w : World} {b : Nat} {up : Bool} (hu : w.cell? ⟨b, 1, none⟩ = some (.bool up)) {x y : Ord} (h : ahead up x y = false) :
    Calls Tryz.prog 147 #[.pointer (some ⟨b, 0, none⟩), ov x, ov y] w fun e w' => ∃ r : Int, e = .returned (.int .i64 r) ∧ 0 ≤ r ∧ r ≤ 1 ∧ Chg [] w w' :=
  (order_any hu x y).mono fun e w' ⟨he, hc⟩ => ⟨_, he, by have := ordN_lt up x y; rw [h] at this; simp at this; omega, (ordN_bd up x y).2, hc⟩

set_option maxRecDepth 100000 in
set_option maxHeartbeats 4000000 in
/-- slices.insertionSortCmpFunc. -/
theorem insSort {w : World} {g b K n cap : Nat} {up : Bool} {l : List Ord} (h : Srow w g b K up l) (hn : n = l.length) (hnc : n ≤ cap) (hcm : cap ≤ 9223372036854775807) (hm : n < 1000000000000) {lo hi : Nat} (hlo : lo ≤ hi) (hhi : hi ≤ n) :
    Calls Tryz.prog 201 #[.slice (some ⟨g, 0, none⟩) n cap, .int .i64 lo, .int .i64 hi, fcmp b] w fun e w' => e = .returned (.tuple #[]) ∧ ∃ l', Srow w' g b K up l' ∧ Mix l l' lo hi ∧ SrtI up l' lo hi ∧ Chg [g] w w' := by
  have HN := Lib.hid hn
  clear hn
  go_enter Tryz.func201, Tryz.ntmps201
  go_wp2_with fail
  go_loopw [8] (fun i wr => ∃ (k : Nat) (m : List Ord), lo + 1 ≤ k ∧ (k ≤ hi ∨ k = lo + 1) ∧ i = .int .i64 k ∧ Srow wr g b K up m ∧ Mix l m lo hi ∧ SrtI up m lo k ∧ Chg [g] w wr) (fun i _ => hi - (intOf i).toNat)
  case atStart => exact ⟨lo + 1, l, Nat.le_refl _, .inr rfl, by go_num, h, Mix.refl _ _ _, SrtI.one _ _ (Nat.le_refl _), Chg.refl _ _⟩
  case round =>
    clear h
    obtain ⟨k, m, hk1, hk2, rfl, hR, hM, hS, hC⟩ := hrel
    by_cases hlt : k < hi
    · go_wp2_with fail
      obtain ⟨wo, rfl⟩ : ∃ wo : World, wo = wr := ⟨_, rfl⟩
      have hI := InsI.start hS (by omega)
      go_loopw [9] (fun j wr => ∃ (p : Nat) (c : List Ord), j = .int .i64 p ∧ Srow wr g b K up c ∧ Mix l c lo hi ∧ InsI up c lo k p ∧ Chg [g] w wr) (fun j _ => (intOf j).toNat)
      case atStart => exact ⟨k, m, rfl, hR, hM, hI, hC⟩
      case round =>
        clear hR hM hI hC hS
        obtain ⟨p, c, rfl, hR, hM, hI, hC⟩ := hrel
        have p1 := hI.lo
        have p2 := hI.hi
        have hlen : c.length = n := by rw [hM.len, HN.out]
        have hn1 : n ≤ c.length := by omega
        have hn2 : c.length ≤ n := by omega
        clear hlen
        by_cases hg : lo < p
        · obtain ⟨q, rfl⟩ : ∃ q, p = q + 1 := ⟨p - 1, by omega⟩
          have hg' : (lo : Int) < (q : Int) + 1 := by omega
          have hg2 : (q : Int) + 1 < (n : Int) := by omega
          have hg3 : (0 : Int) ≤ (q : Int) := by omega
          have hg4 : (0 : Int) ≤ (q : Int) + 1 := by omega
          have hg5 : (q : Int) < (n : Int) := by omega
          obtain ⟨x0, x1, x2, x3, x4⟩ := Orow.at hR.row (k := q + 1) (by omega)
          obtain ⟨y0, y1, y2, y3, y4⟩ := Orow.at hR.row (k := q) (by omega)
          have hw : IntKind.i64.wrap (q : Int) = (q : Int) := IntWalk.i64_in _ (by omega)
          cases ha : ahead up (gO c (q + 1)) (gO c q)
          · have HA := Lib.hid ha
            have HAc : Hid (ahead up (gO c (q + 1)) (gO c (q + 1 - 1)) = false) := by rw [show q + 1 - 1 = q by omega]; exact ha
            clear ha
            unfold gO at HA
            generalize c.getD (q + 1) Ord.zero = x at *
            generalize c.getD q Ord.zero = y at *
            go_wp2_with fail
            go_still_tail 14, (by kernel_rfl)
            change wpList _ _ _ _ _ wr.drew
            have hR2 := hR.drew
            have hC2 := hC.drew
            clear hR hC x0 x1 x2 x3 x4 y0 y1 y2 y3 y4 hw
            generalize wr.drew = w2 at *
            go_wp2_with fail
            refine (ask_no hR2.dir HA.out).mono ?_
            rintro e w3 ⟨r, rfl, r1, r2, c3⟩
            have hR3 := hR2.chg c3
            have hC3 := hC2.trans (c3.mono (by simp))
            clear hR2 hC2 c3
            go_wp2_with fail
            exact ⟨⟨k + 1, c, by omega, by omega, by go_num, hR3, hM, hI.done (.inr HAc.out), hC3⟩, by simp [intOf]; omega⟩
          · have HA := Lib.hid ha
            have hI2 := hI.step hg (by omega) ha
            have hM2 : Mix l (Go.Proofs.YteabcpmpcbjicaaGreat.sw Ord.zero c (q + 1) (q + 1 - 1)) lo hi := hM.trans (sw_mix c (by omega) (by omega) (by omega) (by omega) (by omega) (by omega))
            rw [show q + 1 - 1 = q by omega] at hI2 hM2
            clear ha
            unfold gO at HA
            generalize hx : c.getD (q + 1) Ord.zero = x at *
            generalize hy : c.getD q Ord.zero = y at *
            have HX := Lib.hid hx
            have HY := Lib.hid hy
            clear hx hy
            go_wp2_with fail
            go_still_tail 14, (by kernel_rfl)
            change wpList _ _ _ _ _ wr.drew
            have hR2 := hR.drew
            have hC2 := hC.drew
            clear hR hC x0 x1 x2 x3 x4 y0 y1 y2 y3 y4
            generalize wr.drew = w2 at *
            go_wp2_with fail
            refine (ask_yes hR2.dir HA.out).mono ?_
            rintro e w3 ⟨r, rfl, r1, r2, c3⟩
            have hR3 := hR2.chg c3
            have hC3 := hC2.trans (c3.mono (by simp))
            clear hR2 hC2 c3
            obtain ⟨x0, x1, x2, x3, x4⟩ := Orow.at hR3.row (k := q + 1) (by omega)
            obtain ⟨y0, y1, y2, y3, y4⟩ := Orow.at hR3.row (k := q) (by omega)
            have f : ∀ j, w3.frozen? ⟨g, j, none⟩ = false := fun j => Beg.free hR3.row j
            have HS : Hid (Srow (sto (sto w3 g ((q + 1) * 5) y) g (q * 5) x) g b K up (Go.Proofs.YteabcpmpcbjicaaGreat.sw Ord.zero c (q + 1) q)) := by
              have := hR3.sw (i := q + 1) (j := q) (by omega) (by omega)
              unfold gO at this
              rw [HX.out, HY.out] at this
              exact this
            rw [HX.out] at x0 x1 x2 x3 x4
            rw [HY.out] at y0 y1 y2 y3 y4
            clear hR3
            go_wp2_with fail
            go_region
            go_wp2_with fail
            go_roundw
            case rel => exact ⟨q, _, by go_num, HS.out.drew, hM2, hI2, (sto_chg (sto_chg hC3 _ _ _ (by simp)) _ _ _ (by simp)).drew⟩
            case measure => simp [intOf]
        · obtain rfl : lo = p := by omega
          go_wp2_with fail
          go_quiet (fail)
          have hR2 : Srow (wr.drewN nq) g b K up c := ⟨hR.blk, hR.dir, hR.ne⟩
          have hC2 := hC.drewN nq
          clear hR hC
          generalize wr.drewN nq = W at *
          go_wp2_with fail
          exact ⟨⟨k + 1, c, by omega, by omega, by go_num, hR2, hM, hI.done (.inl rfl), hC2⟩, by simp [intOf]; omega⟩
    · go_wp2_with fail
      go_end0
      exact ⟨rfl, m, hR, hM, hS.sub (Nat.le_refl _) (by omega), hC⟩
end Go.Proofs.YteabcpmpcbjicaaGreat

namespace Go.Proofs.YteabcpmpcbjicaaGreat
set_option linter.unusedVariables false
open Go Go.Proofs Go.RowKit
attribute [local go_sem ↓] Go.wp_at_zero Go.wp_at_succ

set_option maxRecDepth 100000 in
set_option maxHeartbeats 4000000 in
/-- slices.swapRangeCmpFunc. -/
theorem swapRange {w : World} {g b K n cap : Nat} {up : Bool} {l : List Ord} (h : Srow w g b K up l) (hn : n = l.length) (hnc : n ≤ cap) (hcm : cap ≤ 9223372036854775807) (hm : n < 1000000000000) {a c z : Nat} (hac : a + z ≤ c) (hcz : c + z ≤ n) :
    Calls Tryz.prog 218 #[.slice (some ⟨g, 0, none⟩) n cap, .int .i64 a, .int .i64 c, .int .i64 z, fcmp b] w fun e w' => e = .returned (.tuple #[]) ∧ ∃ l', Srow w' g b K up l' ∧ Turn (swr a c z) l l' ∧ Chg [g] w w' := by
  have HN := Lib.hid hn
  clear hn
  go_enter Tryz.func218, Tryz.ntmps218
  go_wp2_with fail
  go_loopw [10] (fun i wr => ∃ (k : Nat) (m : List Ord), k ≤ z ∧ i = .int .i64 k ∧ Srow wr g b K up m ∧ Turn (swr a c k) l m ∧ Chg [g] w wr) (fun i _ => z - (intOf i).toNat)
  case atStart => exact ⟨0, l, by omega, rfl, h, ⟨List.Perm.refl _, fun p => by rw [show swr a c 0 p = p by unfold swr; rw [if_neg (by omega), if_neg (by omega)]]⟩, Chg.refl _ _⟩
  case round =>
    clear h
    obtain ⟨k, m, hk, rfl, hR, hT, hC⟩ := hrel
    have hlen : m.length = n := by rw [hT.perm.length_eq, HN.out]
    have hl1 : m.length ≤ n := by omega
    have hl2 : n ≤ m.length := by omega
    clear hlen
    by_cases hlt : k < z
    · have hT2 := hT.sw (by omega) (by have := HN.out; omega)
      obtain ⟨x0, x1, x2, x3, x4⟩ := Orow.at hR.row (k := a + k) (by omega)
      obtain ⟨y0, y1, y2, y3, y4⟩ := Orow.at hR.row (k := c + k) (by omega)
      have f : ∀ j, wr.frozen? ⟨g, j, none⟩ = false := fun j => Beg.free hR.row j
      have HS := Lib.hid (hR.sw (i := a + k) (j := c + k) (by omega) (by omega))
      unfold gO at HS
      generalize m.getD (a + k) Ord.zero = x at *
      generalize m.getD (c + k) Ord.zero = y at *
      have i1 : (0 : Int) ≤ (a : Int) + (k : Int) := by omega
      have i2 : (a : Int) + (k : Int) < (n : Int) := by omega
      have i3 : (0 : Int) ≤ (c : Int) + (k : Int) := by omega
      have i4 : (c : Int) + (k : Int) < (n : Int) := by omega
      clear hR
      go_wp2_with fail
      go_region
      go_wp2_with fail
      go_roundw
      case rel => exact ⟨k + 1, _, by omega, by go_num, HS.out.drew, hT2, (sto_chg (sto_chg hC _ _ _ (by simp)) _ _ _ (by simp)).drew⟩
      case measure => simp [intOf]; omega
    · obtain rfl : k = z := by omega
      go_wp2_with fail
      go_end0
      exact ⟨rfl, m, hR, hT, hC⟩

set_option maxRecDepth 100000 in
set_option maxHeartbeats 4000000 in
/-- slices.rotateCmpFunc. -/
theorem rotate {w : World} {g b K n cap : Nat} {up : Bool} {l : List Ord} (h : Srow w g b K up l) (hn : n = l.length) (hnc : n ≤ cap) (hcm : cap ≤ 9223372036854775807) (hm : n < 1000000000000) {a m c : Nat} (ham : a < m) (hmc : m < c) (hcn : c ≤ n) :
    Calls Tryz.prog 209 #[.slice (some ⟨g, 0, none⟩) n cap, .int .i64 a, .int .i64 m, .int .i64 c, fcmp b] w fun e w' => e = .returned (.tuple #[]) ∧ ∃ l', Srow w' g b K up l' ∧ Turn (rot a m c) l l' ∧ Chg [g] w w' := by
  have HN := Lib.hid hn
  clear hn
  go_enter Tryz.func209, Tryz.ntmps209
  go_wp2_with fail
  go_loopw [10, 11] (fun u v wr => ∃ (i j : Nat) (d : List Ord), u = .int .i64 i ∧ v = .int .i64 j ∧ Srow wr g b K up d ∧ RotI a m c l d i j ∧ Chg [g] w wr) (fun u v _ => (intOf u).toNat + (intOf v).toNat)
  case atStart => exact ⟨m - a, c - m, l, by go_num, by go_num, h, RotI.start l ham hmc, Chg.refl _ _⟩
  case round =>
    clear h
    obtain ⟨i, j, d, rfl, rfl, hR, hT, hC⟩ := hrel
    have hlen : n = d.length := by rw [hT.perm.length_eq, HN.out]
    have HL := Lib.hid hlen
    clear hlen
    have i1 := hT.i1
    have j1 := hT.j1
    have ia := hT.ia
    have jb := hT.jb
    have e1 : (m : Int) - (i : Int) = ((m - i : Nat) : Int) := by omega
    have e2 : (m : Int) + (j : Int) - (i : Int) = ((m + j - i : Nat) : Int) := by omega
    by_cases hij : i = j
    · subst hij
      clear e2
      go_wp2_with fail
      refine (swapRange hR HL.out hnc hcm hm (a := m - i) (c := m) (z := i) (by omega) (by omega)).mono ?_
      rintro e w2 ⟨rfl, d2, hR2, hT2, hC2⟩
      have hF := hT.last hT2
      have hC3 := hC.trans hC2
      clear hR hT hT2 hC hC2 e1
      go_wp2_with fail
      go_end0
      exact ⟨rfl, d2, hR2, hF, hC3⟩
    · have hne : ((i : Int) != (j : Int)) = true := by rw [bne_iff_ne]; omega
      by_cases hlt : j < i
      · clear e2
        go_wp2_with fail
        refine (swapRange hR HL.out hnc hcm hm (a := m - i) (c := m) (z := j) (by omega) (by omega)).mono ?_
        rintro e w2 ⟨rfl, d2, hR2, hT2, hC2⟩
        have hF := hT.left hlt hT2
        have hC3 := hC.trans hC2
        clear hR hT hT2 hC hC2 e1
        go_wp2_with fail
        go_roundw
        case rel => exact ⟨i - j, j, d2, by go_num, rfl, hR2, hF, hC3⟩
        case measure => simp [intOf]; omega
      · have hlt2 : i < j := by omega
        go_wp2_with fail
        refine (swapRange hR HL.out hnc hcm hm (a := m - i) (c := m + j - i) (z := i) (by omega) (by omega)).mono ?_
        rintro e w2 ⟨rfl, d2, hR2, hT2, hC2⟩
        have hF := hT.right hlt2 hT2
        have hC3 := hC.trans hC2
        clear hR hT hT2 hC hC2 e1 e2
        go_wp2_with fail
        go_roundw
        case rel => exact ⟨i, j - i, d2, rfl, by go_num, hR2, hF, hC3⟩
        case measure => simp [intOf]; omega
end Go.Proofs.YteabcpmpcbjicaaGreat

namespace Go.Proofs.YteabcpmpcbjicaaGreat
set_option linter.unusedVariables false
open Go Go.Proofs Go.RowKit
attribute [local go_sem ↓] Go.wp_at_zero Go.wp_at_succ

set_option maxRecDepth 100000 in
set_option maxHeartbeats 4000000 in
/-- slices.symMergeCmpFunc: one against many. -/
theorem symA {w : World} {g b K n cap : Nat} {up : Bool} {l : List Ord} (h : Srow w g b K up l) (hn : n = l.length) (hnc : n ≤ cap) (hcm : cap ≤ 9223372036854775807) (hm : n < 1000000000000) {a m c : Nat} (hma : m = a + 1) (hac : m < c) (hcn : c ≤ n) (hS : SrtI up l m c) :
    Calls Tryz.prog 202 #[.slice (some ⟨g, 0, none⟩) n cap, .int .i64 a, .int .i64 m, .int .i64 c, fcmp b] w fun e w' => e = .returned (.tuple #[]) ∧ ∃ l', Srow w' g b K up l' ∧ Mix l l' a c ∧ SrtI up l' a c ∧ Chg [g] w w' := by
  have HN := Lib.hid hn
  have HM := Lib.hid hma
  have am : a < m := by omega
  have ma : m ≤ a + 1 := by omega
  have ht : ((m : Int) - (a : Int) == 1) = true := beq_iff_eq.2 (by omega)
  clear hn hma
  go_enter Tryz.func202, Tryz.ntmps202
  go_wp2_with fail
  go_loopw [10, 11] (fun u v wr => ∃ (i j : Nat), u = .int .i64 i ∧ v = .int .i64 j ∧ Srch m c i j (fun h => ahead up (gO l h) (gO l a)) ∧ Srow wr g b K up l ∧ Chg [g] w wr) (fun u v _ => (intOf v).toNat - (intOf u).toNat)
  case atStart => exact ⟨m, c, rfl, rfl, Srch.start (by omega), h, Chg.refl _ _⟩
  case round =>
    clear h
    obtain ⟨i, j, rfl, rfl, hF, hR, hC⟩ := hrel
    have f1 := hF.lo
    have f2 := hF.mid
    have f3 := hF.hi
    by_cases hlt : i < j
    · obtain ⟨h, hh⟩ : ∃ h, h = (i + j) / 2 := ⟨_, rfl⟩
      have e1 : ((i : Int) + (j : Int)) / 2 = (h : Int) := by omega
      have h1 : i ≤ h := by omega
      have h2 : h < j := by omega
      have h3 : (0 : Int) ≤ (h : Int) := by omega
      have h4 : (h : Int) < (n : Int) := by omega
      have h5 : (0 : Int) ≤ (a : Int) := by omega
      have h6 : (a : Int) < (n : Int) := by omega
      clear hh
      obtain ⟨x0, x1, x2, x3, x4⟩ := Orow.at hR.row (k := h) (by rw [← HN.out]; omega)
      obtain ⟨y0, y1, y2, y3, y4⟩ := Orow.at hR.row (k := a) (by rw [← HN.out]; omega)
      cases ha : ahead up (gO l h) (gO l a)
      · have hF2 := hF.down (h := h) h1 h2 ha
        have HA := Lib.hid ha
        clear ha
        unfold gO at HA
        generalize l.getD h Ord.zero = x at *
        generalize l.getD a Ord.zero = y at *
        go_wp2_with fail
        go_still_tail 9, (by kernel_rfl)
        change wpList _ _ _ _ _ wr.drew
        have hR2 := hR.drew
        have hC2 := hC.drew
        clear hR hC x0 x1 x2 x3 x4 y0 y1 y2 y3 y4
        generalize wr.drew = w2 at *
        go_wp2_with fail
        refine (ask_no hR2.dir HA.out).mono ?_
        rintro e w3 ⟨r, rfl, r1, r2, c3⟩
        have hR3 := hR2.chg c3
        have hC3 := hC2.trans (c3.mono (by simp))
        clear hR2 hC2 c3
        go_wp2_with fail
        go_roundw
        case rel => exact ⟨i, h, rfl, rfl, hF2, hR3, hC3⟩
        case measure => simp [intOf]; omega
      · have hF2 := hF.up (h := h) h1 h2 ha
        have HA := Lib.hid ha
        clear ha
        unfold gO at HA
        generalize l.getD h Ord.zero = x at *
        generalize l.getD a Ord.zero = y at *
        go_wp2_with fail
        go_still_tail 9, (by kernel_rfl)
        change wpList _ _ _ _ _ wr.drew
        have hR2 := hR.drew
        have hC2 := hC.drew
        clear hR hC x0 x1 x2 x3 x4 y0 y1 y2 y3 y4
        generalize wr.drew = w2 at *
        go_wp2_with fail
        refine (ask_yes hR2.dir HA.out).mono ?_
        rintro e w3 ⟨r, rfl, r1, r2, c3⟩
        have hR3 := hR2.chg c3
        have hC3 := hC2.trans (c3.mono (by simp))
        clear hR2 hC2 c3
        go_wp2_with fail
        go_roundw
        case rel => exact ⟨h + 1, j, by go_num, rfl, hF2, hR3, hC3⟩
        case measure => simp [intOf]; omega
    · obtain rfl : i = j := by omega
      obtain ⟨q, rfl⟩ : ∃ q, i = q + 1 := ⟨i - 1, by omega⟩
      have hfin : ∀ l', Turn (rot a (a + 1) (q + 1)) l l' → Mix l l' a c ∧ SrtI up l' a c := fun l' t => ⟨(t.mix (by omega) (by omega)).wide (Nat.le_refl _) (by omega), by have e := HM.out; subst e; exact mergeA hS t (by omega) (by omega) hF.left hF.right⟩
      have HF := Lib.hid hfin
      clear hfin
      go_wp2_with fail
      obtain ⟨wo, rfl⟩ : ∃ wo : World, wo = wr := ⟨_, rfl⟩
      go_loopw [13] (fun u wr => ∃ (k : Nat) (d : List Ord), u = .int .i64 k ∧ a ≤ k ∧ k ≤ q ∧ Turn (rot a (a + 1) (k + 1)) l d ∧ Srow wr g b K up d ∧ Chg [g] w wr) (fun u _ => q - (intOf u).toNat)
      case atStart => exact ⟨a, l, rfl, Nat.le_refl _, by omega, Turn.start _ (rotA_id a), hR, hC⟩
      case round =>
        clear hR hC hF
        obtain ⟨k, d, rfl, k1, k2, hT, hR, hC⟩ := hrel
        by_cases hk : k < q
        · have hlen : d.length = n := by rw [hT.perm.length_eq, HN.out]
          have hT2 := hT.stepA k1 (by rw [← HN.out]; omega)
          obtain ⟨x0, x1, x2, x3, x4⟩ := Orow.at hR.row (k := k) (by omega)
          obtain ⟨y0, y1, y2, y3, y4⟩ := Orow.at hR.row (k := k + 1) (by omega)
          have f : ∀ j, wr.frozen? ⟨g, j, none⟩ = false := fun j => Beg.free hR.row j
          have HS := Lib.hid (hR.sw (i := k) (j := k + 1) (by omega) (by omega))
          unfold gO at HS
          generalize d.getD k Ord.zero = x at *
          generalize d.getD (k + 1) Ord.zero = y at *
          have i1 : (0 : Int) ≤ (k : Int) := by omega
          have i2 : (k : Int) < (n : Int) := by omega
          have i3 : (0 : Int) ≤ (k : Int) + 1 := by omega
          have i4 : (k : Int) + 1 < (n : Int) := by omega
          clear hR hlen
          go_wp2_with fail
          go_region
          go_wp2_with fail
          go_roundw
          case rel => exact ⟨k + 1, _, by go_num, by omega, by omega, hT2, HS.out.drew, (sto_chg (sto_chg hC _ _ _ (by simp)) _ _ _ (by simp)).drew⟩
          case measure => simp [intOf]; omega
        · obtain rfl : k = q := by omega
          obtain ⟨m1, m2⟩ := HF.out d hT
          go_wp2_with fail
          refine bodyPost_ret (results_none rfl _ _ _) rfl ?_
          exact ⟨rfl, d, hR, m1, m2, hC⟩
end Go.Proofs.YteabcpmpcbjicaaGreat

namespace Go.Proofs.YteabcpmpcbjicaaGreat
set_option linter.unusedVariables false
open Go Go.Proofs Go.RowKit
attribute [local go_sem ↓] Go.wp_at_zero Go.wp_at_succ

set_option maxRecDepth 100000 in
set_option maxHeartbeats 4000000 in
/-- slices.symMergeCmpFunc: many against one. -/
theorem symB {w : World} {g b K n cap : Nat} {up : Bool} {l : List Ord} (h : Srow w g b K up l) (hn : n = l.length) (hnc : n ≤ cap) (hcm : cap ≤ 9223372036854775807) (hm : n < 1000000000000) {a m c : Nat} (hma : a + 1 < m) (hmc : c = m + 1) (hcn : c ≤ n) (hS : SrtI up l a m) :
    Calls Tryz.prog 202 #[.slice (some ⟨g, 0, none⟩) n cap, .int .i64 a, .int .i64 m, .int .i64 c, fcmp b] w fun e w' => e = .returned (.tuple #[]) ∧ ∃ l', Srow w' g b K up l' ∧ Mix l l' a c ∧ SrtI up l' a c ∧ Chg [g] w w' := by
  have HN := Lib.hid hn
  have HM := Lib.hid hmc
  have am : m < c := by omega
  have ma : c ≤ m + 1 := by omega
  have ht : ((m : Int) - (a : Int) == 1) = false := beq_eq_false_iff_ne.2 (by omega)
  have ht2 : ((c : Int) - (m : Int) == 1) = true := beq_iff_eq.2 (by omega)
  clear hn hmc
  go_enter Tryz.func202, Tryz.ntmps202
  go_wp2_with fail
  go_loopw [14, 15] (fun u v wr => ∃ (i j : Nat), u = .int .i64 i ∧ v = .int .i64 j ∧ Srch a m i j (fun h => !ahead up (gO l m) (gO l h)) ∧ Srow wr g b K up l ∧ Chg [g] w wr) (fun u v _ => (intOf v).toNat - (intOf u).toNat)
  case atStart => exact ⟨a, m, rfl, rfl, Srch.start (by omega), h, Chg.refl _ _⟩
  case round =>
    clear h
    obtain ⟨i, j, rfl, rfl, hF, hR, hC⟩ := hrel
    have f1 := hF.lo
    have f2 := hF.mid
    have f3 := hF.hi
    by_cases hlt : i < j
    · obtain ⟨h, hh⟩ : ∃ h, h = (i + j) / 2 := ⟨_, rfl⟩
      have e1 : ((i : Int) + (j : Int)) / 2 = (h : Int) := by omega
      have h1 : i ≤ h := by omega
      have h2 : h < j := by omega
      have h3 : (0 : Int) ≤ (h : Int) := by omega
      have h4 : (h : Int) < (n : Int) := by omega
      have h5 : (0 : Int) ≤ (m : Int) := by omega
      have h6 : (m : Int) < (n : Int) := by omega
      clear hh
      obtain ⟨x0, x1, x2, x3, x4⟩ := Orow.at hR.row (k := m) (by rw [← HN.out]; omega)
      obtain ⟨y0, y1, y2, y3, y4⟩ := Orow.at hR.row (k := h) (by rw [← HN.out]; omega)
      cases ha : ahead up (gO l m) (gO l h)
      · have hF2 := hF.up (h := h) h1 h2 (by rw [ha]; rfl)
        have HA := Lib.hid ha
        clear ha
        unfold gO at HA
        generalize l.getD m Ord.zero = x at *
        generalize l.getD h Ord.zero = y at *
        go_wp2_with fail
        go_still_tail 9, (by kernel_rfl)
        change wpList _ _ _ _ _ wr.drew
        have hR2 := hR.drew
        have hC2 := hC.drew
        clear hR hC x0 x1 x2 x3 x4 y0 y1 y2 y3 y4
        generalize wr.drew = w2 at *
        go_wp2_with fail
        refine (ask_no hR2.dir HA.out).mono ?_
        rintro e w3 ⟨r, rfl, r1, r2, c3⟩
        have rd : decide (r < 0) = false := by simp; omega
        have hR3 := hR2.chg c3
        have hC3 := hC2.trans (c3.mono (by simp))
        clear hR2 hC2 c3
        go_wp2_with fail
        go_roundw
        case rel => exact ⟨h + 1, j, by go_num, rfl, hF2, hR3, hC3⟩
        case measure => simp [intOf]; omega
      · have hF2 := hF.down (h := h) h1 h2 (by rw [ha]; rfl)
        have HA := Lib.hid ha
        clear ha
        unfold gO at HA
        generalize l.getD m Ord.zero = x at *
        generalize l.getD h Ord.zero = y at *
        go_wp2_with fail
        go_still_tail 9, (by kernel_rfl)
        change wpList _ _ _ _ _ wr.drew
        have hR2 := hR.drew
        have hC2 := hC.drew
        clear hR hC x0 x1 x2 x3 x4 y0 y1 y2 y3 y4
        generalize wr.drew = w2 at *
        go_wp2_with fail
        refine (ask_yes hR2.dir HA.out).mono ?_
        rintro e w3 ⟨r, rfl, r1, r2, c3⟩
        have hR3 := hR2.chg c3
        have hC3 := hC2.trans (c3.mono (by simp))
        clear hR2 hC2 c3
        go_wp2_with fail
        go_roundw
        case rel => exact ⟨i, h, rfl, rfl, hF2, hR3, hC3⟩
        case measure => simp [intOf]; omega
    · obtain rfl : i = j := by omega
      have hfin : ∀ l', Turn (rot i m (m + 1)) l l' → Mix l l' a c ∧ SrtI up l' a c := fun l' t => by
        have e := HM.out
        subst e
        exact ⟨(t.mix (by omega) (by omega)).wide f1 (Nat.le_refl _), mergeB hS t (by omega) (by omega) (fun h => by simpa using hF.left h) (fun h => by simpa using hF.right h)⟩
      have HF := Lib.hid hfin
      clear hfin
      go_wp2_with fail
      obtain ⟨wo, rfl⟩ : ∃ wo : World, wo = wr := ⟨_, rfl⟩
      go_loopw [17] (fun u wr => ∃ (k : Nat) (d : List Ord), u = .int .i64 k ∧ i ≤ k ∧ k ≤ m ∧ Turn (rot k m (m + 1)) l d ∧ Srow wr g b K up d ∧ Chg [g] w wr) (fun u _ => (intOf u).toNat)
      case atStart => exact ⟨m, l, rfl, f3, Nat.le_refl _, Turn.start _ (rotB_id m), hR, hC⟩
      case round =>
        clear hR hC hF
        obtain ⟨k, d, rfl, k1, k2, hT, hR, hC⟩ := hrel
        by_cases hk : i < k
        · obtain ⟨q, rfl⟩ : ∃ q, k = q + 1 := ⟨k - 1, by omega⟩
          have hlen : d.length = n := by rw [hT.perm.length_eq, HN.out]
          have hT2 := hT.stepB (by omega) (by rw [← HN.out]; omega)
          obtain ⟨x0, x1, x2, x3, x4⟩ := Orow.at hR.row (k := q + 1) (by omega)
          obtain ⟨y0, y1, y2, y3, y4⟩ := Orow.at hR.row (k := q) (by omega)
          have f : ∀ j, wr.frozen? ⟨g, j, none⟩ = false := fun j => Beg.free hR.row j
          have HS := Lib.hid (hR.sw (i := q + 1) (j := q) (by omega) (by omega))
          unfold gO at HS
          generalize d.getD (q + 1) Ord.zero = x at *
          generalize d.getD q Ord.zero = y at *
          have i1 : (0 : Int) ≤ (q : Int) := by omega
          have i2 : (q : Int) < (n : Int) := by omega
          have i3 : (0 : Int) ≤ (q : Int) + 1 := by omega
          have i4 : (q : Int) + 1 < (n : Int) := by omega
          have hw : IntKind.i64.wrap (q : Int) = (q : Int) := IntWalk.i64_in _ (by omega)
          clear hR hlen
          go_wp2_with fail
          go_region
          go_wp2_with fail
          go_roundw
          case rel => exact ⟨q, _, by go_num, by omega, by omega, hT2, HS.out.drew, (sto_chg (sto_chg hC _ _ _ (by simp)) _ _ _ (by simp)).drew⟩
          case measure => simp [intOf]
        · obtain rfl : i = k := by omega
          obtain ⟨m1, m2⟩ := HF.out d hT
          go_wp2_with fail
          refine bodyPost_ret (results_none rfl _ _ _) rfl ?_
          exact ⟨rfl, d, hR, m1, m2, hC⟩
end Go.Proofs.YteabcpmpcbjicaaGreat
