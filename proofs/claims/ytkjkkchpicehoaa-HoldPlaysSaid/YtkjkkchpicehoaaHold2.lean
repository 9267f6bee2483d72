import Derived.Test.YtkjkkchpicehoaaHold
namespace Go.Proofs.Ytkjkkchpicehoaa
set_option linter.unusedVariables false
open Go Go.Proofs Go.RowKit Go.Maps

theorem Fee.maxm {w : World} {fb mb b s n : Nat} {xs : List Int} {m : Nat} {f : Int → Int} {got : Int} (h : Fee w fb mb b s n xs m f got) : True := trivial

set_option maxHeartbeats 1000000 in
/-- (*Fees).Hold. -/
theorem hold_any {w : World} {fb mb b s n : Nat} {xs : List Int} {m : Nat} {f : Int → Int} {got : Int} (h : Fee w fb mb b s n xs m f got) (c fee : Int) (hc : I c) (hf : U fee) (hm : m + 4 < maxLen) :
    Calls Try.prog 41 #[.pointer (some ⟨fb, 0, none⟩), .int .i64 c, .int .u64 fee] w fun e w' => e = .returned (.int .u64 (hHold n xs f c fee)) ∧ Fee w' fb mb b s n (hHoldX n xs f c fee) (m + 2) (hHoldF n xs f c fee) got ∧ Chg [fb, mb, s] w w' := by
  have k0 := h.hd.at (i := 0) rfl
  have k1 := h.hd.at (i := 1) rfl
  obtain ⟨d1, d2, d3, d4, d5⟩ := h.ne
  have uf := h.mp.U hc
  have uv := hV_U h.acc.ok c hf
  have HR : Hid (hHold n xs f c fee = if hOk n xs f c fee = true then hV n xs c fee else 0) := rfl
  have HX : Hid (hHoldX n xs f c fee = if hOk n xs f c fee = true then aTake n xs c 1 (hV n xs c fee) else xs) := rfl
  have HF : Hid (hHoldF n xs f c fee = if hOk n xs f c fee = true then upd f c (cAddN (f c) (hV n xs c fee)) else f) := rfl
  have HO : Hid (hOk n xs f c fee = (cAddB (f c) (hV n xs c fee) && decide (aTakeE n xs c 1 (hV n xs c fee) = 0))) := rfl
  have HV : Hid (hV n xs c fee = min fee (aFree n xs c 1)) := rfl
  generalize hOk n xs f c fee = ok at *
  generalize hHold n xs f c fee = R at *
  generalize hHoldX n xs f c fee = X at *
  generalize hHoldF n xs f c fee = F at *
  generalize hV n xs c fee = v at *
  by_cases hmin : fee ≤ aFree n xs c 1
  · obtain rfl : v = fee := by rw [HV.out]; omega
    cases hb : cAddB (f c) v
    · go_enter Try.func41, Try.ntmps41
      go_wp2_with fail
      refine (free_any h.acc _ _).mono ?_
      rintro e w' ⟨rfl, rfl⟩
      go_wp2_with (at_lookup; refine wpList_lookU _ rfl (.tmp 22) (.tmp 23) rfl mb m f rfl h.mp c rfl hc ?_)
      refine (add_any _ _ _ uf uv).mono ?_
      rintro e w' ⟨rfl, rfl⟩
      go_wp2_with fail
      go_ret
      have ho : ok = false := by rw [HO.out, hb]; rfl
      exact ⟨ret_int (by rw [HR.out, ho]; rfl), by rw [HX.out, HF.out, ho]; exact h.mono (by omega), Chg.refl _ _⟩
    · by_cases hE : aTakeE n xs c 1 v = 0
      · have HE := Lib.hid hE
        clear hE
        go_enter Try.func41, Try.ntmps41
        go_wp2_with fail
        refine (free_any h.acc _ _).mono ?_
        rintro e w' ⟨rfl, rfl⟩
        go_wp2_with (at_lookup; refine wpList_lookU _ rfl (.tmp 22) (.tmp 23) rfl mb m f rfl h.mp c rfl hc ?_)
        refine (add_any _ _ _ uf uv).mono ?_
        rintro e w' ⟨rfl, rfl⟩
        go_wp2_with fail
        refine (take_is h.acc c 1 v 0 _ uv HE.out rfl).mono ?_
        rintro e w1 ⟨rfl, ha, hc1⟩
        have hd1 := h.hd.chg hc1 (by simp; omega)
        have hm1 := h.mp.chg hc1 (by simp; omega)
        have q1 := hd1.at (i := 1) rfl
        go_wp2_with (at_mapUpdate; refine wpList_putU _ rfl (.tmp 44) (.tmp 45) (.tmp 46) rfl mb m f rfl hm1 (by omega) c _ rfl rfl hc (cAdd_U uf uv) ?_)
        intro w2 hm2 hc2
        go_wp2_with fail
        go_ret
        have ho : ok = true := by rw [HO.out, hb, HE.out]; rfl
        refine ⟨ret_int (by rw [HR.out, ho]; rfl), ?_, (hc1.mono (by simp)).trans (hc2.mono (by simp))⟩
        rw [HX.out, HF.out, ho]
        exact ⟨ha.chg hc2 (by simp; omega) (by simp; omega), hd1.chg hc2 (by simp; omega), hm2.mono (by omega), ⟨d1, d2, d3, d4, d5⟩, h.ug⟩
      · have hne : (aTakeE n xs c 1 v != 0) = true := by simpa using hE
        have HT : Hid (aTake n xs c 1 v = xs) := by show _ = _; unfold aTake; rw [if_neg hE]
        have HE := Lib.hid hE
        clear hE
        go_enter Try.func41, Try.ntmps41
        go_wp2_with fail
        refine (free_any h.acc _ _).mono ?_
        rintro e w' ⟨rfl, rfl⟩
        go_wp2_with (at_lookup; refine wpList_lookU _ rfl (.tmp 22) (.tmp 23) rfl mb m f rfl h.mp c rfl hc ?_)
        refine (add_any _ _ _ uf uv).mono ?_
        rintro e w' ⟨rfl, rfl⟩
        go_wp2_with fail
        refine (take_any h.acc c 1 v uv).mono ?_
        rintro e w1 ⟨rfl, ha, hc1⟩
        go_wp2_with fail
        go_ret
        have ho : ok = false := by rw [HO.out, hb]; simp [HE.out]
        refine ⟨ret_int (by rw [HR.out, ho]; rfl), ?_, hc1.mono (by simp)⟩
        rw [HX.out, HF.out, ho]
        rw [HT.out] at ha
        exact ⟨ha, h.hd.chg hc1 (by simp; omega), (h.mp.chg hc1 (by simp; omega)).mono (by omega), ⟨d1, d2, d3, d4, d5⟩, h.ug⟩
  · obtain rfl : v = aFree n xs c 1 := by rw [HV.out]; omega
    cases hb : cAddB (f c) (aFree n xs c 1)
    · go_enter Try.func41, Try.ntmps41
      go_wp2_with fail
      refine (free_any h.acc _ _).mono ?_
      rintro e w' ⟨rfl, rfl⟩
      go_wp2_with (at_lookup; refine wpList_lookU _ rfl (.tmp 22) (.tmp 23) rfl mb m f rfl h.mp c rfl hc ?_)
      refine (add_any _ _ _ uf uv).mono ?_
      rintro e w' ⟨rfl, rfl⟩
      go_wp2_with fail
      go_ret
      have ho : ok = false := by rw [HO.out, hb]; rfl
      exact ⟨ret_int (by rw [HR.out, ho]; rfl), by rw [HX.out, HF.out, ho]; exact h.mono (by omega), Chg.refl _ _⟩
    · by_cases hE : aTakeE n xs c 1 (aFree n xs c 1) = 0
      · have HE := Lib.hid hE
        clear hE
        go_enter Try.func41, Try.ntmps41
        go_wp2_with fail
        refine (free_any h.acc _ _).mono ?_
        rintro e w' ⟨rfl, rfl⟩
        go_wp2_with (at_lookup; refine wpList_lookU _ rfl (.tmp 22) (.tmp 23) rfl mb m f rfl h.mp c rfl hc ?_)
        refine (add_any _ _ _ uf uv).mono ?_
        rintro e w' ⟨rfl, rfl⟩
        go_wp2_with fail
        refine (take_is h.acc c 1 (aFree n xs c 1) 0 _ uv HE.out rfl).mono ?_
        rintro e w1 ⟨rfl, ha, hc1⟩
        have hd1 := h.hd.chg hc1 (by simp; omega)
        have hm1 := h.mp.chg hc1 (by simp; omega)
        have q1 := hd1.at (i := 1) rfl
        go_wp2_with (at_mapUpdate; refine wpList_putU _ rfl (.tmp 44) (.tmp 45) (.tmp 46) rfl mb m f rfl hm1 (by omega) c _ rfl rfl hc (cAdd_U uf uv) ?_)
        intro w2 hm2 hc2
        go_wp2_with fail
        go_ret
        have ho : ok = true := by rw [HO.out, hb, HE.out]; rfl
        refine ⟨ret_int (by rw [HR.out, ho]; rfl), ?_, (hc1.mono (by simp)).trans (hc2.mono (by simp))⟩
        rw [HX.out, HF.out, ho]
        exact ⟨ha.chg hc2 (by simp; omega) (by simp; omega), hd1.chg hc2 (by simp; omega), hm2.mono (by omega), ⟨d1, d2, d3, d4, d5⟩, h.ug⟩
      · have hne : (aTakeE n xs c 1 (aFree n xs c 1) != 0) = true := by simpa using hE
        have HT : Hid (aTake n xs c 1 (aFree n xs c 1) = xs) := by show _ = _; unfold aTake; rw [if_neg hE]
        have HE := Lib.hid hE
        clear hE
        go_enter Try.func41, Try.ntmps41
        go_wp2_with fail
        refine (free_any h.acc _ _).mono ?_
        rintro e w' ⟨rfl, rfl⟩
        go_wp2_with (at_lookup; refine wpList_lookU _ rfl (.tmp 22) (.tmp 23) rfl mb m f rfl h.mp c rfl hc ?_)
        refine (add_any _ _ _ uf uv).mono ?_
        rintro e w' ⟨rfl, rfl⟩
        go_wp2_with fail
        refine (take_any h.acc c 1 (aFree n xs c 1) uv).mono ?_
        rintro e w1 ⟨rfl, ha, hc1⟩
        go_wp2_with fail
        go_ret
        have ho : ok = false := by rw [HO.out, hb]; simp [HE.out]
        refine ⟨ret_int (by rw [HR.out, ho]; rfl), ?_, hc1.mono (by simp)⟩
        rw [HX.out, HF.out, ho]
        rw [HT.out] at ha
        exact ⟨ha, h.hd.chg hc1 (by simp; omega), (h.mp.chg hc1 (by simp; omega)).mono (by omega), ⟨d1, d2, d3, d4, d5⟩, h.ug⟩

set_option maxHeartbeats 1000000 in
/-- (*Fees).Forfeit. -/
theorem forfeit_any {w : World} {fb mb b s n : Nat} {xs : List Int} {m : Nat} {f : Int → Int} {got : Int} (h : Fee w fb mb b s n xs m f got) (c : Int) (hc : I c) (hm : m + 4 < maxLen) :
    Calls Try.prog 40 #[.pointer (some ⟨fb, 0, none⟩), .int .i64 c] w fun e w' => e = .returned (.int .u64 (fV f got c)) ∧ Fee w' fb mb b s n xs (m + 2) (fF f got c) (fGot f got c) ∧ Chg [fb, mb, s] w w' := by
  have k1 := h.hd.at (i := 1) rfl
  have k2 := h.hd.at (i := 2) rfl
  have fr := h.hd.free 2
  obtain ⟨d1, d2, d3, d4, d5⟩ := h.ne
  have uf := h.mp.U hc
  have HR : Hid (fV f got c = if cAddB got (f c) = true then f c else 0) := rfl
  have HG : Hid (fGot f got c = if cAddB got (f c) = true then cAddN got (f c) else got) := rfl
  have HF : Hid (fF f got c = if cAddB got (f c) = true then upd f c 0 else f) := rfl
  generalize fV f got c = R at *
  generalize fGot f got c = G at *
  generalize fF f got c = F at *
  cases hb : cAddB got (f c)
  · go_enter Try.func40, Try.ntmps40
    go_wp2_with (at_lookup; refine wpList_lookU _ rfl (.tmp 11) (.tmp 12) rfl mb m f rfl h.mp c rfl hc ?_)
    refine (add_any _ _ _ h.ug uf).mono ?_
    rintro e w' ⟨rfl, rfl⟩
    go_wp2_with fail
    go_ret
    exact ⟨ret_int (by rw [HR.out, hb]; rfl), by rw [HG.out, HF.out, hb]; exact h.mono (by omega), Chg.refl _ _⟩
  · have hst := h.hd.set 2 (.int .u64 (cAddN got (f c)))
    have hms : MapU (w.setCell ⟨fb, 2, none⟩ (.int .u64 (cAddN got (f c)))) mb m f := h.mp.chg ((Chg.refl [fb] w).setCell _ _ (by simp)) (by simp; omega)
    have hst1 := hst.at (i := 1) rfl
    go_enter Try.func40, Try.ntmps40
    go_wp2_with (first | (at_lookup; refine wpList_lookU _ rfl (.tmp 11) (.tmp 12) rfl mb m f rfl h.mp c rfl hc ?_) | (go_at_call 15; refine (add_any _ _ _ h.ug uf).mono ?_; rintro e w' ⟨rfl, rfl⟩) | (at_mapUpdate; refine wpList_putU _ rfl (.tmp 32) (.tmp 33) (.const (.int .u64 0)) rfl mb m f rfl hms ?_ c 0 rfl rfl hc ?_ ?_))
    · omega
    · simp [U]
    intro w2 hm2 hc2
    go_wp2_with fail
    go_ret
    have hc1 : Chg [fb, mb, s] w (w.setCell ⟨fb, 2, none⟩ (.int .u64 (cAddN got (f c)))) := (Chg.refl _ _).setCell _ _ (by simp)
    have ha := h.acc.chg ((Chg.refl [fb] w).setCell ⟨fb, 2, none⟩ (.int .u64 (cAddN got (f c))) (by simp)) (by simp; omega) (by simp; omega)
    refine ⟨ret_int (by rw [HR.out, hb]; rfl), ?_, hc1.trans (hc2.mono (by simp))⟩
    rw [HG.out, HF.out, hb]
    exact ⟨ha.chg hc2 (by simp; omega) (by simp; omega), hst.chg hc2 (by simp; omega), hm2.mono (by omega), ⟨d1, d2, d3, d4, d5⟩, cAdd_U h.ug uf⟩
end Go.Proofs.Ytkjkkchpicehoaa
