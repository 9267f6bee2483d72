import Derived.Test.YtofcphfgpnobnaaSort
import Derived.Test.YtofcphfgpnobnaaQueue5
import Derived.IntWalk
namespace Go.Proofs.Ytofcphfgpnobnaa
set_option linter.unusedVariables false
open Go Go.Proofs Go.RowKit
attribute [local go_sem ↓] Go.wp_at_zero Go.wp_at_succ

/-- What is sorted: a row; and the queue whose order is asked. -/
structure Srow (w : World) (g b K : Nat) (up : Bool) (l : List Ord) : Prop where
  blk : ∃ sp, sp.length = K ∧ Blk w g 28 (ocs l ++ sp)
  dir : w.cell? ⟨b, 1, none⟩ = some (.bool up)
  ne : b ≠ g
theorem Srow.row {w : World} {g b K : Nat} {up : Bool} {l : List Ord} (h : Srow w g b K up l) : Orow w g l := h.blk.elim fun sp k => ⟨sp, k.2⟩
theorem Srow.chg {w w' : World} {g b K : Nat} {up : Bool} {l : List Ord} (h : Srow w g b K up l) (c : Chg [] w w') : Srow w' g b K up l := ⟨h.blk.elim fun sp k => ⟨sp, k.1, k.2.chg c (by simp)⟩, c.cell h.dir (by simp), h.ne⟩
theorem Srow.drew {w : World} {g b K : Nat} {up : Bool} {l : List Ord} (h : Srow w g b K up l) : Srow w.drew g b K up l := ⟨h.blk, h.dir, h.ne⟩
theorem Srow.sw {w : World} {g b K : Nat} {up : Bool} {l : List Ord} (h : Srow w g b K up l) {i j : Nat} (hi : i < l.length) (hj : j < l.length) : Srow (sto (sto w g (i * 5) (gO l j)) g (j * 5) (gO l i)) g b K up (Go.Proofs.Ytofcphfgpnobnaa.sw Ord.zero l i j) := by
  refine ⟨?_, ?_, h.ne⟩
  · obtain ⟨sp, k1, k2⟩ := h.blk
    refine ⟨sp, k1, ?_⟩
    have e1 := (k2.sto (i * 5) (gO l j)).sto (j * 5) (gO l i)
    rw [set5_app (by rw [ocs_len]; omega), ocs_set l i _ hi, set5_app (by rw [ocs_len, List.length_set]; omega), ocs_set _ j _ (by simpa using hj)] at e1
    exact e1
  have hc : Chg [g] w (sto (sto w g (i * 5) (gO l j)) g (j * 5) (gO l i)) := sto_chg (sto_chg (Chg.refl _ _) _ _ _ (by simp)) _ _ _ (by simp)
  exact hc.cell h.dir (by simpa using h.ne)

abbrev fcmp (b : Nat) : Value := .func (.func 46) #[.pointer (some ⟨b, 0, none⟩)] #[]

theorem ordN_bd (up : Bool) (x y : Ord) : -1 ≤ ordN up x y ∧ ordN up x y ≤ 1 := by
  unfold ordN
  rcases cmpI_cases x.price y.price with ⟨h, e⟩ | ⟨h, e⟩ | ⟨h, e⟩ <;> rcases cmpI_cases x.id y.id with ⟨g, f⟩ | ⟨g, f⟩ | ⟨g, f⟩ <;> cases up <;> simp [e, f]
/-- The order asked: ahead. -/
theorem ask_yes {w : World} {b : Nat} {up : Bool} (hu : w.cell? ⟨b, 1, none⟩ = some (.bool up)) {x y : Ord} (h : ahead up x y = true) :
    Calls Try.prog 46 #[.pointer (some ⟨b, 0, none⟩), ov x, ov y] w fun e w' => ∃ r : Int, e = .returned (.int .i64 r) ∧ r < 0 ∧ -1 ≤ r ∧ Chg [] w w' :=
  (order_any hu x y).mono fun e w' ⟨he, hc⟩ => ⟨_, he, by have := ordN_lt up x y; rw [h] at this; simpa using this, (ordN_bd up x y).1, hc⟩
theorem ask_no {w : World} {b : Nat} {up : Bool} (hu : w.cell? ⟨b, 1, none⟩ = some (.bool up)) {x y : Ord} (h : ahead up x y = false) :
    Calls Try.prog 46 #[.pointer (some ⟨b, 0, none⟩), ov x, ov y] w fun e w' => ∃ r : Int, e = .returned (.int .i64 r) ∧ 0 ≤ r ∧ r ≤ 1 ∧ Chg [] w w' :=
  (order_any hu x y).mono fun e w' ⟨he, hc⟩ => ⟨_, he, by have := ordN_lt up x y; rw [h] at this; simp at this; omega, (ordN_bd up x y).2, hc⟩

set_option maxRecDepth 100000 in
set_option maxHeartbeats 4000000 in
/-- slices.insertionSortCmpFunc. -/
theorem insSort {w : World} {g b K n cap : Nat} {up : Bool} {l : List Ord} (h : Srow w g b K up l) (hn : n = l.length) (hnc : n ≤ cap) (hcm : cap ≤ 9223372036854775807) (hm : n < 1000000000000) {lo hi : Nat} (hlo : lo ≤ hi) (hhi : hi ≤ n) :
    Calls Try.prog 67 #[.slice (some ⟨g, 0, none⟩) n cap, .int .i64 lo, .int .i64 hi, fcmp b] w fun e w' => e = .returned (.tuple #[]) ∧ ∃ l', Srow w' g b K up l' ∧ Mix l l' lo hi ∧ SrtI up l' lo hi ∧ Chg [g] w w' := by
  have HN := Lib.hid hn
  clear hn
  go_enter Try.func67, Try.ntmps67
  go_wp2_with fail
  go_loopw [8] (fun i wr => ∃ (k : Nat) (m : List Ord), lo + 1 ≤ k ∧ (k ≤ hi ∨ k = lo + 1) ∧ i = .int .i64 k ∧ Srow wr g b K up m ∧ Mix l m lo hi ∧ SrtI up m lo k ∧ Chg [g] w wr) (fun i _ => hi - (intOf i).toNat)
  case atStart => exact ⟨lo + 1, l, Nat.le_refl _, .inr rfl, by go_num, h, Mix.refl _ _ _, SrtI.one _ _ (Nat.le_refl _), Chg.refl _ _⟩
  case round =>
    clear h
    obtain ⟨k, m, hk1, hk2, rfl, hR, hM, hS, hC⟩ := hrel
    by_cases hlt : k < hi
    · go_wp2_with fail
      obtain ⟨wo, rfl⟩ : ∃ wo : World, wo = wr := ⟨_, rfl⟩
      have hI := InsI.start hS (by omega)
      go_loopw [9] (fun j wr => ∃ (p : Nat) (c : List Ord), j = .int .i64 p ∧ Srow wr g b K up c ∧ Mix l c lo hi ∧ InsI up c lo k p ∧ Chg [g] w wr) (fun j _ => (intOf j).toNat)
      case atStart => exact ⟨k, m, rfl, hR, hM, hI, hC⟩
      case round =>
        clear hR hM hI hC hS
        obtain ⟨p, c, rfl, hR, hM, hI, hC⟩ := hrel
        have p1 := hI.lo
        have p2 := hI.hi
        have hlen : c.length = n := by rw [hM.len, HN.out]
        have hn1 : n ≤ c.length := by omega
        have hn2 : c.length ≤ n := by omega
        clear hlen
        by_cases hg : lo < p
        · obtain ⟨q, rfl⟩ : ∃ q, p = q + 1 := ⟨p - 1, by omega⟩
          have hg' : (lo : Int) < (q : Int) + 1 := by omega
          have hg2 : (q : Int) + 1 < (n : Int) := by omega
          have hg3 : (0 : Int) ≤ (q : Int) := by omega
          have hg4 : (0 : Int) ≤ (q : Int) + 1 := by omega
          have hg5 : (q : Int) < (n : Int) := by omega
          obtain ⟨x0, x1, x2, x3, x4⟩ := Orow.at hR.row (k := q + 1) (by omega)
          obtain ⟨y0, y1, y2, y3, y4⟩ := Orow.at hR.row (k := q) (by omega)
          have hw : IntKind.i64.wrap (q : Int) = (q : Int) := IntWalk.i64_in _ (by omega)
          cases ha : ahead up (gO c (q + 1)) (gO c q)
          · have HA := Lib.hid ha
            have HAc : Hid (ahead up (gO c (q + 1)) (gO c (q + 1 - 1)) = false) := by rw [show q + 1 - 1 = q by omega]; exact ha
            clear ha
            unfold gO at HA
            generalize c.getD (q + 1) Ord.zero = x at *
            generalize c.getD q Ord.zero = y at *
            go_wp2_with fail
            go_still_tail 14, (by kernel_rfl)
            change wpList _ _ _ _ _ wr.drew
            have hR2 := hR.drew
            have hC2 := hC.drew
            clear hR hC x0 x1 x2 x3 x4 y0 y1 y2 y3 y4 hw
            generalize wr.drew = w2 at *
            go_wp2_with fail
            refine (ask_no hR2.dir HA.out).mono ?_
            rintro e w3 ⟨r, rfl, r1, r2, c3⟩
            have hR3 := hR2.chg c3
            have hC3 := hC2.trans (c3.mono (by simp))
            clear hR2 hC2 c3
            go_wp2_with fail
            exact ⟨⟨k + 1, c, by omega, by omega, by go_num, hR3, hM, hI.done (.inr HAc.out), hC3⟩, by simp [intOf]; omega⟩
          · have HA := Lib.hid ha
            have hI2 := hI.step hg (by omega) ha
            have hM2 : Mix l (Go.Proofs.Ytofcphfgpnobnaa.sw Ord.zero c (q + 1) (q + 1 - 1)) lo hi := hM.trans (sw_mix c (by omega) (by omega) (by omega) (by omega) (by omega) (by omega))
            rw [show q + 1 - 1 = q by omega] at hI2 hM2
            clear ha
            unfold gO at HA
            generalize hx : c.getD (q + 1) Ord.zero = x at *
            generalize hy : c.getD q Ord.zero = y at *
            have HX := Lib.hid hx
            have HY := Lib.hid hy
            clear hx hy
            go_wp2_with fail
            go_still_tail 14, (by kernel_rfl)
            change wpList _ _ _ _ _ wr.drew
            have hR2 := hR.drew
            have hC2 := hC.drew
            clear hR hC x0 x1 x2 x3 x4 y0 y1 y2 y3 y4
            generalize wr.drew = w2 at *
            go_wp2_with fail
            refine (ask_yes hR2.dir HA.out).mono ?_
            rintro e w3 ⟨r, rfl, r1, r2, c3⟩
            have hR3 := hR2.chg c3
            have hC3 := hC2.trans (c3.mono (by simp))
            clear hR2 hC2 c3
            obtain ⟨x0, x1, x2, x3, x4⟩ := Orow.at hR3.row (k := q + 1) (by omega)
            obtain ⟨y0, y1, y2, y3, y4⟩ := Orow.at hR3.row (k := q) (by omega)
            have f : ∀ j, w3.frozen? ⟨g, j, none⟩ = false := fun j => Beg.free hR3.row j
            have HS : Hid (Srow (sto (sto w3 g ((q + 1) * 5) y) g (q * 5) x) g b K up (Go.Proofs.Ytofcphfgpnobnaa.sw Ord.zero c (q + 1) q)) := by
              have := hR3.sw (i := q + 1) (j := q) (by omega) (by omega)
              unfold gO at this
              rw [HX.out, HY.out] at this
              exact this
            rw [HX.out] at x0 x1 x2 x3 x4
            rw [HY.out] at y0 y1 y2 y3 y4
            clear hR3
            go_wp2_with fail
            go_region
            go_wp2_with fail
            go_roundw
            case rel => exact ⟨q, _, by go_num, HS.out.drew, hM2, hI2, (sto_chg (sto_chg hC3 _ _ _ (by simp)) _ _ _ (by simp)).drew⟩
            case measure => simp [intOf]
        · obtain rfl : lo = p := by omega
          go_wp2_with fail
          go_quiet (fail)
          have hR2 : Srow (wr.drewN nq) g b K up c := ⟨hR.blk, hR.dir, hR.ne⟩
          have hC2 := hC.drewN nq
          clear hR hC
          generalize wr.drewN nq = W at *
          go_wp2_with fail
          exact ⟨⟨k + 1, c, by omega, by omega, by go_num, hR2, hM, hI.done (.inl rfl), hC2⟩, by simp [intOf]; omega⟩
    · go_wp2_with fail
      go_end0
      exact ⟨rfl, m, hR, hM, hS.sub (Nat.le_refl _) (by omega), hC⟩
end Go.Proofs.Ytofcphfgpnobnaa
