import Derived.Test.YtkjkkchpicehoaaRFee
namespace Go.Proofs.Ytkjkkchpicehoaa
set_option linter.unusedVariables false
open Go Go.Proofs Go.RowKit Go.Maps

theorem set_self (xs : List Int) (i : Nat) : xs.set i (xs.getD i 0) = xs := by
  apply List.ext_getElem?
  intro j
  rw [List.getElem?_set]
  split
  · subst_vars
    split
    · rename_i h; simp [List.getD, h]
    · rename_i h; rw [List.getElem?_eq_none (by omega)]
  · rfl
theorem sub_zero {x : Int} (h : U x) : cSubN x 0 = x ∧ cSubB x 0 = true := by
  have := h.1
  unfold cSubN cSubB; exact ⟨by rw [if_pos (by omega)]; omega, by simp; omega⟩
theorem add_zero {x : Int} (h : U x) : cAddN x 0 = x ∧ cAddB x 0 = true := by
  have := h.2
  unfold cAddN cAddB; exact ⟨by rw [if_pos (by omega)]; omega, by simp; omega⟩
theorem take_zero {n : Nat} {xs : List Int} (h : AOk n xs) (c a : Int) : aTake n xs c a 0 = xs := by
  unfold aTake; split
  · rw [(sub_zero (h.get c a)).1]; unfold aGet; exact set_self _ _
  · rfl
theorem put_zero {n : Nat} {xs : List Int} (h : AOk n xs) (c a : Int) : aPut n xs c a 0 = xs := by
  unfold aPut; split
  · rw [(add_zero (h.get c a)).1]; unfold aGet; exact set_self _ _
  · rfl
theorem hold_zero {n : Nat} {xs : List Int} {f : Int → Int} (h : AOk n xs) {c fee : Int} (hf : U (f c)) (hv : hV n xs c fee = 0) : hHold n xs f c fee = 0 ∧ hHoldX n xs f c fee = xs ∧ hHoldF n xs f c fee = f := by
  unfold hHold hHoldX hHoldF
  rw [hv, take_zero h, (add_zero hf).1, upd_self f c _ rfl]
  refine ⟨by split <;> rfl, by split <;> rfl, by split <;> rfl⟩
theorem hold_yes {n : Nat} {xs : List Int} {f : Int → Int} (h : AOk n xs) {c fee : Int} (hf : U fee) (hv : hV n xs c fee ≠ 0) : aErr n c 1 = 0 ∧ aTakeE n xs c 1 (hV n xs c fee) = 0 ∧ (∃ k : Nat, c = k ∧ k < n) := by
  have hg := h.get c 1
  have hE : aErr n c 1 = 0 := by
    rcases Decidable.em (aErr n c 1 = 0) with h1 | h1
    · exact h1
    · exfalso; apply hv; unfold hV aFree; rw [if_neg h1]; have := hf.1; omega
  refine ⟨hE, ?_, aHas_nat (aErr_zero hE).1⟩
  have : hV n xs c fee ≤ aGet xs c 1 := by unfold hV aFree; rw [if_pos hE]; omega
  unfold aTakeE; rw [if_pos hE, if_pos]; unfold cSubB; simpa using this

set_option maxHeartbeats 4000000 in
/-- Hold. -/
theorem rhold_any {w : World} {fb hb b s n : Nat} {xs hs : List Int} {got : Int} (h : RFee w fb hb b s n xs hs got) (c fee : Int) (hf : U fee) :
    Calls Try.prog 46 #[.pointer (some ⟨fb, 0, none⟩), .int .i64 c, .int .u64 fee] w fun e w' => ∃ hs', e = .returned (.int .u64 (hHold n xs (fOf n hs) c fee)) ∧ RFee w' fb hb b s n (hHoldX n xs (fOf n hs) c fee) hs' got ∧ fOf n hs' = hHoldF n xs (fOf n hs) c fee ∧ Chg [fb, hb, s] w w' := by
  have k0 := h.hd.at (i := 0) rfl
  have k1 := h.hd.at (i := 1) rfl
  obtain ⟨d1, d2, d3, d4, d5⟩ := h.ne
  have uf := h.f_U c
  have uv := hV_U h.acc.ok c hf
  have hfU := aFree_U h.acc.ok c 1
  have HV : Hid (hV n xs c fee = min fee (aFree n xs c 1)) := rfl
  by_cases hz : hV n xs c fee = 0
  · obtain ⟨e1, e2, e3⟩ := hold_zero (f := fOf n hs) h.acc.ok uf hz
    have E1 := Lib.hid e1
    have E2 := Lib.hid e2
    have E3 := Lib.hid e3
    have hz' : fee ≤ aFree n xs c 1 ∧ fee = 0 ∨ ¬ fee ≤ aFree n xs c 1 ∧ aFree n xs c 1 = 0 := by rw [HV.out] at hz; have := hf.1; have := hfU.1; omega
    clear e1 e2 e3 hz
    have HA := Lib.hid (add_zero uf)
    rcases hz' with ⟨g1, g2⟩ | ⟨g1, g2⟩
    · subst g2
      go_enter Try.func46, Try.ntmps46
      go_wp2_with fail
      refine (rfree_any h.acc _ _).mono ?_
      rintro e w' ⟨rfl, rfl⟩
      go_wp2_with fail
      refine (rof_any h c).mono ?_
      rintro e w' ⟨rfl, rfl⟩
      go_wp2_with fail
      refine (radd_any _ _ _ uf (by simp [U])).mono ?_
      rw [HA.out.2]
      rintro e w' ⟨rfl, rfl⟩
      go_wp2_with fail
      go_ret
      exact ⟨hs, ret_int E1.out.symm, by rw [E2.out]; exact h, E3.out.symm, Chg.refl _ _⟩
    · have G2 := Lib.hid g2
      have hz0 : (aFree n xs c 1 == 0) = true := by rw [g2]; rfl
      clear g2
      go_enter Try.func46, Try.ntmps46
      go_wp2_with fail
      refine (rfree_any h.acc _ _).mono ?_
      rintro e w' ⟨rfl, rfl⟩
      go_wp2_with fail
      refine (rof_any h c).mono ?_
      rintro e w' ⟨rfl, rfl⟩
      go_wp2_with fail
      refine (radd_any _ _ _ uf hfU).mono ?_
      rw [G2.out, HA.out.2]
      rintro e w' ⟨rfl, rfl⟩
      go_wp2_with fail
      go_ret
      exact ⟨hs, ret_int E1.out.symm, by rw [E2.out]; exact h, E3.out.symm, Chg.refl _ _⟩
  · obtain ⟨hE, hT, k, rfl, hk⟩ := hold_yes (f := fOf n hs) h.acc.ok hf hz
    have HO : Hid (hOk n xs (fOf n hs) k fee = cAddB (fOf n hs k) (hV n xs k fee)) := by show _ = _; unfold hOk; rw [hT]; simp
    have HR : Hid (hHold n xs (fOf n hs) k fee = if hOk n xs (fOf n hs) k fee = true then hV n xs k fee else 0) := rfl
    have HX : Hid (hHoldX n xs (fOf n hs) k fee = if hOk n xs (fOf n hs) k fee = true then aTake n xs k 1 (hV n xs k fee) else xs) := rfl
    have HF : Hid (hHoldF n xs (fOf n hs) k fee = if hOk n xs (fOf n hs) k fee = true then upd (fOf n hs) k (cAddN (fOf n hs k) (hV n xs k fee)) else fOf n hs) := rfl
    have HS : Hid (∀ v : Int, fOf n (hs.set k v) = upd (fOf n hs) k v) := fun v => fOf_set h.len hk v
    have hcell := h.cell hk
    have hn := h.acc.ok.most
    have ufr := hfU
    generalize hOk n xs (fOf n hs) k fee = ok at *
    generalize hHold n xs (fOf n hs) k fee = R at *
    generalize hHoldX n xs (fOf n hs) k fee = X at *
    generalize hHoldF n xs (fOf n hs) k fee = F at *
    generalize hV n xs k fee = v at *
    have hz1 : (v == 0) = false := by simpa using hz
    clear hz
    have HT := Lib.hid hT
    clear hT hE
    have VV := HV
    obtain ⟨fr, hfr⟩ : ∃ fr, fr = aFree n xs k 1 := ⟨_, rfl⟩
    rw [← hfr] at HV VV ufr
    have HFR := Lib.hid hfr
    clear hfr hfU
    by_cases hmin : fee ≤ fr
    · obtain rfl : v = fee := by rw [VV.out]; omega
      cases hb1 : cAddB (fOf n hs k) v
      · have ho : Hid (ok = false) := HO.out.trans hb1
        go_enter Try.func46, Try.ntmps46
        go_wp2_with fail
        refine (rfree_any h.acc _ _).mono ?_
        rw [← HFR.out]
        rintro e w' ⟨rfl, rfl⟩
        go_wp2_with fail
        refine (rof_any h k).mono ?_
        rintro e w' ⟨rfl, rfl⟩
        go_wp2_with fail
        refine (radd_any _ _ _ uf uv).mono ?_
        rintro e w' ⟨rfl, rfl⟩
        go_wp2_with fail
        go_ret
        exact ⟨hs, ret_int (by rw [HR.out, ho.out]; rfl), by rw [HX.out, ho.out]; exact h, by rw [HF.out, ho.out]; rfl, Chg.refl _ _⟩
      · have ho : Hid (ok = true) := HO.out.trans hb1
        have hw : Hid (IntKind.u64.wrap (fOf n hs k + v) = cAddN (fOf n hs k) v) := by
          show _ = _
          have t1 := uf.1; have t2 := uv.1
          unfold cAddB at hb1; simp at hb1
          rw [IntKind.wrap_u64]; unfold cAddN; rw [if_pos hb1]; omega
        go_enter Try.func46, Try.ntmps46
        go_wp2_with fail
        refine (rfree_any h.acc _ _).mono ?_
        rw [← HFR.out]
        rintro e w' ⟨rfl, rfl⟩
        go_wp2_with fail
        refine (rof_any h k).mono ?_
        rintro e w' ⟨rfl, rfl⟩
        go_wp2_with fail
        refine (radd_any _ _ _ uf uv).mono ?_
        rintro e w' ⟨rfl, rfl⟩
        go_wp2_with fail
        refine (rtake_any h.acc k 1 v uv).mono ?_
        rw [HT.out]
        rintro e w1 ⟨rfl, ha, hc1⟩
        have hd1 := h.hd.chg hc1 (by simp; omega)
        have hr1 := h.row.chg hc1 (by simp; omega)
        have x1 := hd1.at (i := 1) rfl
        have x2 : w1.cell? ⟨hb, k, none⟩ = some (.int .u64 (fOf n hs k)) := hc1.cell hcell (by simp; omega)
        have x3 := hr1.free k
        have kn : (k : Int) < n := by omega
        have k00 : (0 : Int) ≤ k := by omega
        clear hcell k0 k1
        go_wp2_with fail
        go_region
        all_goals
          go_wp2_with fail
          go_ret
          refine ⟨hs.set k (cAddN (fOf n hs k) v), ret_int (by rw [HR.out, ho.out]; rfl), ?_, by rw [HS.out, HF.out, ho.out]; rfl, ?_⟩
          · rw [HX.out, ho.out]
            have hc2 := (Chg.refl [hb] w1).setCell ⟨hb, k, none⟩ (.int .u64 (cAddN (fOf n hs k) v)) (by simp)
            have hrs := hr1.set k (.int .u64 (cAddN (fOf n hs k) v)) (by simp [h.len, hk])
            rw [← List.map_set] at hrs
            have hd2 := hd1.chg hc2 (by simp; omega)
            have ha2 := ha.chg hc2 (by simp; omega) (by simp; omega)
            first
              | exact ⟨ha2.drew, hd2, hrs, by simp [h.len], mem_set h.all (cAdd_U uf uv), ⟨d1, d2, d3, d4, d5⟩, h.ug⟩
              | (rw [hw.out]; exact ⟨ha2.drew, hd2, hrs, by simp [h.len], mem_set h.all (cAdd_U uf uv), ⟨d1, d2, d3, d4, d5⟩, h.ug⟩)
          · exact ((hc1.mono (by simp)).setCell _ _ (by simp)).drew
    · obtain rfl : v = fr := by rw [VV.out]; omega
      cases hb1 : cAddB (fOf n hs k) v
      · have ho : Hid (ok = false) := HO.out.trans hb1
        go_enter Try.func46, Try.ntmps46
        go_wp2_with fail
        refine (rfree_any h.acc _ _).mono ?_
        rw [← HFR.out]
        rintro e w' ⟨rfl, rfl⟩
        go_wp2_with fail
        refine (rof_any h k).mono ?_
        rintro e w' ⟨rfl, rfl⟩
        go_wp2_with fail
        refine (radd_any _ _ _ uf uv).mono ?_
        rintro e w' ⟨rfl, rfl⟩
        go_wp2_with fail
        go_ret
        exact ⟨hs, ret_int (by rw [HR.out, ho.out]; rfl), by rw [HX.out, ho.out]; exact h, by rw [HF.out, ho.out]; rfl, Chg.refl _ _⟩
      · have ho : Hid (ok = true) := HO.out.trans hb1
        have hw : Hid (IntKind.u64.wrap (fOf n hs k + v) = cAddN (fOf n hs k) v) := by
          show _ = _
          have t1 := uf.1; have t2 := uv.1
          unfold cAddB at hb1; simp at hb1
          rw [IntKind.wrap_u64]; unfold cAddN; rw [if_pos hb1]; omega
        go_enter Try.func46, Try.ntmps46
        go_wp2_with fail
        refine (rfree_any h.acc _ _).mono ?_
        rw [← HFR.out]
        rintro e w' ⟨rfl, rfl⟩
        go_wp2_with fail
        refine (rof_any h k).mono ?_
        rintro e w' ⟨rfl, rfl⟩
        go_wp2_with fail
        refine (radd_any _ _ _ uf uv).mono ?_
        rintro e w' ⟨rfl, rfl⟩
        go_wp2_with fail
        refine (rtake_any h.acc k 1 v uv).mono ?_
        rw [HT.out]
        rintro e w1 ⟨rfl, ha, hc1⟩
        have hd1 := h.hd.chg hc1 (by simp; omega)
        have hr1 := h.row.chg hc1 (by simp; omega)
        have x1 := hd1.at (i := 1) rfl
        have x2 : w1.cell? ⟨hb, k, none⟩ = some (.int .u64 (fOf n hs k)) := hc1.cell hcell (by simp; omega)
        have x3 := hr1.free k
        have kn : (k : Int) < n := by omega
        have k00 : (0 : Int) ≤ k := by omega
        clear hcell k0 k1
        go_wp2_with fail
        go_region
        all_goals
          go_wp2_with fail
          go_ret
          refine ⟨hs.set k (cAddN (fOf n hs k) v), ret_int (by rw [HR.out, ho.out]; rfl), ?_, by rw [HS.out, HF.out, ho.out]; rfl, ?_⟩
          · rw [HX.out, ho.out]
            have hc2 := (Chg.refl [hb] w1).setCell ⟨hb, k, none⟩ (.int .u64 (cAddN (fOf n hs k) v)) (by simp)
            have hrs := hr1.set k (.int .u64 (cAddN (fOf n hs k) v)) (by simp [h.len, hk])
            rw [← List.map_set] at hrs
            have hd2 := hd1.chg hc2 (by simp; omega)
            have ha2 := ha.chg hc2 (by simp; omega) (by simp; omega)
            first
              | exact ⟨ha2.drew, hd2, hrs, by simp [h.len], mem_set h.all (cAdd_U uf uv), ⟨d1, d2, d3, d4, d5⟩, h.ug⟩
              | (rw [hw.out]; exact ⟨ha2.drew, hd2, hrs, by simp [h.len], mem_set h.all (cAdd_U uf uv), ⟨d1, d2, d3, d4, d5⟩, h.ug⟩)
          · exact ((hc1.mono (by simp)).setCell _ _ (by simp)).drew
end Go.Proofs.Ytkjkkchpicehoaa
