import Derived.Test.YtkjkkchpicehoaaHold2
namespace Go.Proofs.Ytkjkkchpicehoaa
set_option linter.unusedVariables false
open Go Go.Proofs Go.RowKit Go.Maps

set_option maxHeartbeats 2000000 in
/-- (*Fees).Settle. -/
theorem settle_any {w : World} {fb mb b s n : Nat} {xs : List Int} {m : Nat} {f : Int → Int} {got : Int} (h : Fee w fb mb b s n xs m f got) (c fee : Int) (hc : I c) (hf : U fee) (hm : m + 4 < maxLen) :
    Calls Try.prog 39 #[.pointer (some ⟨fb, 0, none⟩), .int .i64 c, .int .u64 fee] w fun e w' => e = .returned (.int .u64 (sV f got c fee)) ∧ Fee w' fb mb b s n (sX n xs f got c fee) (m + 2) (sF n xs f got c fee) (sGot f got c fee) ∧ Chg [fb, mb, s] w w' := by
  have k0 := h.hd.at (i := 0) rfl
  have k1 := h.hd.at (i := 1) rfl
  have k2 := h.hd.at (i := 2) rfl
  have fr := h.hd.free 2
  obtain ⟨d1, d2, d3, d4, d5⟩ := h.ne
  have uf := h.mp.U hc
  have uv := min_U hf uf
  have HR : Hid (sV f got c fee = if cAddB got (min fee (f c)) = true then min fee (f c) else 0) := rfl
  have HG : Hid (sGot f got c fee = if cAddB got (min fee (f c)) = true then cAddN got (min fee (f c)) else got) := rfl
  have HB : Hid (sBack f got c fee = f c - sV f got c fee) := rfl
  have HX : Hid (sX n xs f got c fee = aPut n xs c 1 (sBack f got c fee)) := rfl
  have HF : Hid (sF n xs f got c fee = if aPutE n xs c 1 (sBack f got c fee) = 0 then upd (upd f c (sBack f got c fee)) c 0 else upd f c (sBack f got c fee)) := rfl
  generalize sF n xs f got c fee = F at *
  generalize sX n xs f got c fee = X at *
  generalize sBack f got c fee = bk at *
  generalize sGot f got c fee = G at *
  generalize sV f got c fee = R at *
  obtain ⟨H, hH⟩ : ∃ H, H = f c := ⟨_, rfl⟩
  rw [← hH] at uf uv HR HG HB
  have HH := Lib.hid hH
  clear hH
  have v0 : Hid (min fee H ≤ H ∧ 0 ≤ min fee H) := by
    have := uf.1; have := hf.1
    exact ⟨by omega, by omega⟩
  have V : Hid (∃ v, v = min fee H) := ⟨_, rfl⟩
  obtain ⟨v, hv⟩ := V.out
  rw [← hv] at uv HR HG v0
  have HVV := Lib.hid hv
  clear hv
  have ug := h.ug
  have U0 := uf.1
  have U1 := uf.2
  by_cases hmin : fee ≤ H
  · obtain rfl : v = fee := by rw [HVV.out]; omega
    cases hb : cAddB got v
    · have er : R = 0 := by rw [HR.out, hb]; rfl
      have eg : G = got := by rw [HG.out, hb]; rfl
      have eb : bk = H := by rw [HB.out, er]; omega
      have ub : U H := by have := v0.out.1; have := v0.out.2; exact ⟨by omega, by omega⟩
      have ebw : Hid (IntKind.u64.wrap H = H) := by show _ = _; rw [IntKind.wrap_u64]; have := ub.1; have := ub.2; omega
      have ugv : U got := ug
      have ER := Lib.hid er
      have EG := Lib.hid eg
      have EB := Lib.hid eb
      clear er eg eb
      have hst := h.hd.set 2 (.int .u64 got)
      have hc1 : Chg [fb, mb, s] w (w.setCell ⟨fb, 2, none⟩ (.int .u64 got)) := (Chg.refl _ _).setCell _ _ (by simp)
      have hms : MapU (w.setCell ⟨fb, 2, none⟩ (.int .u64 got)) mb m f := h.mp.chg ((Chg.refl [fb] w).setCell _ _ (by simp)) (by simp; omega)
      have hst1 := hst.at (i := 1) rfl
      have hac := h.acc.chg ((Chg.refl [fb] w).setCell ⟨fb, 2, none⟩ (.int .u64 got) (by simp)) (by simp; omega) (by simp; omega)
      go_enter Try.func39, Try.ntmps39
      go_wp2_with (first | (at_lookup; refine wpList_lookU _ rfl (.tmp 14) (.tmp 15) rfl mb m f rfl h.mp c rfl hc ?_; rw [← HH.out]) | (go_at_call 15; refine (add_any _ _ _ ug uv).mono ?_; rintro e w' ⟨rfl, rfl⟩) | (at_mapUpdate; refine wpList_putU _ rfl (.tmp 42) (.tmp 43) (.tmp 46) rfl mb m f rfl hms ?_ c H rfl ?_ hc ub ?_))
      · omega
      · first | rfl | exact vint ebw.out
      intro w2 hm2 hc2
      have hc2' : Chg [fb, mb, s] w w2 := hc1.trans (hc2.mono (by simp))
      have hd2 := hst.chg hc2 (by simp; omega)
      have ha2 := hac.chg hc2 (by simp; omega) (by simp; omega)
      have x0 := hd2.at (i := 0) rfl
      by_cases hE : aPutE n xs c 1 H = 0
      · have HE := Lib.hid hE
        clear hE
        go_wp2_with fail
        try rw [ebw.out]
        refine (put_is ha2 c 1 H 0 _ ub HE.out rfl).mono ?_
        rintro e w3 ⟨rfl, ha3, hc3⟩
        have hd3 := hd2.chg hc3 (by simp; omega)
        have hm3 := hm2.chg hc3 (by simp; omega)
        have y1 := hd3.at (i := 1) rfl
        go_wp2_with (at_mapUpdate; refine wpList_putU _ rfl (.tmp 60) (.tmp 61) (.const (.int .u64 0)) rfl mb (m + 1) (upd f c H) rfl hm3 ?_ c 0 rfl rfl hc ?_ ?_)
        · omega
        · simp [U]
        intro w4 hm4 hc4
        go_wp2_with fail
        go_ret
        refine ⟨ret_int (by rw [ER.out]), ?_, (hc2'.trans (hc3.mono (by simp))).trans (hc4.mono (by simp))⟩
        rw [HX.out, HF.out, EG.out, EB.out, if_pos HE.out]
        exact ⟨ha3.chg hc4 (by simp; omega) (by simp; omega), hd3.chg hc4 (by simp; omega), hm4, ⟨d1, d2, d3, d4, d5⟩, ugv⟩
      · have hne : (aPutE n xs c 1 H == 0) = false := by simpa using hE
        have HE := Lib.hid hE
        clear hE
        go_wp2_with fail
        try rw [ebw.out]
        refine (put_any ha2 c 1 H ub).mono ?_
        rintro e w3 ⟨rfl, ha3, hc3⟩
        go_wp2_with fail
        go_ret
        refine ⟨ret_int (by rw [ER.out]), ?_, hc2'.trans (hc3.mono (by simp))⟩
        rw [HX.out, HF.out, EG.out, EB.out, if_neg HE.out]
        exact ⟨ha3, hd2.chg hc3 (by simp; omega), (hm2.chg hc3 (by simp; omega)).mono (by omega), ⟨d1, d2, d3, d4, d5⟩, ugv⟩
    · have er : R = v := by rw [HR.out, hb]; rfl
      have eg : G = (cAddN got v) := by rw [HG.out, hb]; rfl
      have eb : bk = (H - v) := by rw [HB.out, er]
      have ub : U (H - v) := by have := v0.out.1; have := v0.out.2; exact ⟨by omega, by omega⟩
      have ebw : Hid (IntKind.u64.wrap (H - v) = (H - v)) := by show _ = _; rw [IntKind.wrap_u64]; have := ub.1; have := ub.2; omega
      have ugv : U (cAddN got v) := cAdd_U ug uv
      have ER := Lib.hid er
      have EG := Lib.hid eg
      have EB := Lib.hid eb
      clear er eg eb
      have hst := h.hd.set 2 (.int .u64 (cAddN got v))
      have hc1 : Chg [fb, mb, s] w (w.setCell ⟨fb, 2, none⟩ (.int .u64 (cAddN got v))) := (Chg.refl _ _).setCell _ _ (by simp)
      have hms : MapU (w.setCell ⟨fb, 2, none⟩ (.int .u64 (cAddN got v))) mb m f := h.mp.chg ((Chg.refl [fb] w).setCell _ _ (by simp)) (by simp; omega)
      have hst1 := hst.at (i := 1) rfl
      have hac := h.acc.chg ((Chg.refl [fb] w).setCell ⟨fb, 2, none⟩ (.int .u64 (cAddN got v)) (by simp)) (by simp; omega) (by simp; omega)
      go_enter Try.func39, Try.ntmps39
      go_wp2_with (first | (at_lookup; refine wpList_lookU _ rfl (.tmp 14) (.tmp 15) rfl mb m f rfl h.mp c rfl hc ?_; rw [← HH.out]) | (go_at_call 15; refine (add_any _ _ _ ug uv).mono ?_; rintro e w' ⟨rfl, rfl⟩) | (at_mapUpdate; refine wpList_putU _ rfl (.tmp 42) (.tmp 43) (.tmp 46) rfl mb m f rfl hms ?_ c (H - v) rfl ?_ hc ub ?_))
      · omega
      · first | rfl | exact vint ebw.out
      intro w2 hm2 hc2
      have hc2' : Chg [fb, mb, s] w w2 := hc1.trans (hc2.mono (by simp))
      have hd2 := hst.chg hc2 (by simp; omega)
      have ha2 := hac.chg hc2 (by simp; omega) (by simp; omega)
      have x0 := hd2.at (i := 0) rfl
      by_cases hE : aPutE n xs c 1 (H - v) = 0
      · have HE := Lib.hid hE
        clear hE
        go_wp2_with fail
        try rw [ebw.out]
        refine (put_is ha2 c 1 (H - v) 0 _ ub HE.out rfl).mono ?_
        rintro e w3 ⟨rfl, ha3, hc3⟩
        have hd3 := hd2.chg hc3 (by simp; omega)
        have hm3 := hm2.chg hc3 (by simp; omega)
        have y1 := hd3.at (i := 1) rfl
        go_wp2_with (at_mapUpdate; refine wpList_putU _ rfl (.tmp 60) (.tmp 61) (.const (.int .u64 0)) rfl mb (m + 1) (upd f c (H - v)) rfl hm3 ?_ c 0 rfl rfl hc ?_ ?_)
        · omega
        · simp [U]
        intro w4 hm4 hc4
        go_wp2_with fail
        go_ret
        refine ⟨ret_int (by rw [ER.out]), ?_, (hc2'.trans (hc3.mono (by simp))).trans (hc4.mono (by simp))⟩
        rw [HX.out, HF.out, EG.out, EB.out, if_pos HE.out]
        exact ⟨ha3.chg hc4 (by simp; omega) (by simp; omega), hd3.chg hc4 (by simp; omega), hm4, ⟨d1, d2, d3, d4, d5⟩, ugv⟩
      · have hne : (aPutE n xs c 1 (H - v) == 0) = false := by simpa using hE
        have HE := Lib.hid hE
        clear hE
        go_wp2_with fail
        try rw [ebw.out]
        refine (put_any ha2 c 1 (H - v) ub).mono ?_
        rintro e w3 ⟨rfl, ha3, hc3⟩
        go_wp2_with fail
        go_ret
        refine ⟨ret_int (by rw [ER.out]), ?_, hc2'.trans (hc3.mono (by simp))⟩
        rw [HX.out, HF.out, EG.out, EB.out, if_neg HE.out]
        exact ⟨ha3, hd2.chg hc3 (by simp; omega), (hm2.chg hc3 (by simp; omega)).mono (by omega), ⟨d1, d2, d3, d4, d5⟩, ugv⟩
  · obtain rfl : v = H := by rw [HVV.out]; omega
    cases hb : cAddB got v
    · have er : R = 0 := by rw [HR.out, hb]; rfl
      have eg : G = got := by rw [HG.out, hb]; rfl
      have eb : bk = v := by rw [HB.out, er]; omega
      have ub : U v := by have := v0.out.1; have := v0.out.2; exact ⟨by omega, by omega⟩
      have ebw : Hid (IntKind.u64.wrap v = v) := by show _ = _; rw [IntKind.wrap_u64]; have := ub.1; have := ub.2; omega
      have ugv : U got := ug
      have ER := Lib.hid er
      have EG := Lib.hid eg
      have EB := Lib.hid eb
      clear er eg eb
      have hst := h.hd.set 2 (.int .u64 got)
      have hc1 : Chg [fb, mb, s] w (w.setCell ⟨fb, 2, none⟩ (.int .u64 got)) := (Chg.refl _ _).setCell _ _ (by simp)
      have hms : MapU (w.setCell ⟨fb, 2, none⟩ (.int .u64 got)) mb m f := h.mp.chg ((Chg.refl [fb] w).setCell _ _ (by simp)) (by simp; omega)
      have hst1 := hst.at (i := 1) rfl
      have hac := h.acc.chg ((Chg.refl [fb] w).setCell ⟨fb, 2, none⟩ (.int .u64 got) (by simp)) (by simp; omega) (by simp; omega)
      go_enter Try.func39, Try.ntmps39
      go_wp2_with (first | (at_lookup; refine wpList_lookU _ rfl (.tmp 14) (.tmp 15) rfl mb m f rfl h.mp c rfl hc ?_; rw [← HH.out]) | (go_at_call 15; refine (add_any _ _ _ ug uv).mono ?_; rintro e w' ⟨rfl, rfl⟩) | (at_mapUpdate; refine wpList_putU _ rfl (.tmp 42) (.tmp 43) (.tmp 46) rfl mb m f rfl hms ?_ c v rfl ?_ hc ub ?_))
      · omega
      · first | rfl | exact vint ebw.out
      intro w2 hm2 hc2
      have hc2' : Chg [fb, mb, s] w w2 := hc1.trans (hc2.mono (by simp))
      have hd2 := hst.chg hc2 (by simp; omega)
      have ha2 := hac.chg hc2 (by simp; omega) (by simp; omega)
      have x0 := hd2.at (i := 0) rfl
      by_cases hE : aPutE n xs c 1 v = 0
      · have HE := Lib.hid hE
        clear hE
        go_wp2_with fail
        try rw [ebw.out]
        refine (put_is ha2 c 1 v 0 _ ub HE.out rfl).mono ?_
        rintro e w3 ⟨rfl, ha3, hc3⟩
        have hd3 := hd2.chg hc3 (by simp; omega)
        have hm3 := hm2.chg hc3 (by simp; omega)
        have y1 := hd3.at (i := 1) rfl
        go_wp2_with (at_mapUpdate; refine wpList_putU _ rfl (.tmp 60) (.tmp 61) (.const (.int .u64 0)) rfl mb (m + 1) (upd f c v) rfl hm3 ?_ c 0 rfl rfl hc ?_ ?_)
        · omega
        · simp [U]
        intro w4 hm4 hc4
        go_wp2_with fail
        go_ret
        refine ⟨ret_int (by rw [ER.out]), ?_, (hc2'.trans (hc3.mono (by simp))).trans (hc4.mono (by simp))⟩
        rw [HX.out, HF.out, EG.out, EB.out, if_pos HE.out]
        exact ⟨ha3.chg hc4 (by simp; omega) (by simp; omega), hd3.chg hc4 (by simp; omega), hm4, ⟨d1, d2, d3, d4, d5⟩, ugv⟩
      · have hne : (aPutE n xs c 1 v == 0) = false := by simpa using hE
        have HE := Lib.hid hE
        clear hE
        go_wp2_with fail
        try rw [ebw.out]
        refine (put_any ha2 c 1 v ub).mono ?_
        rintro e w3 ⟨rfl, ha3, hc3⟩
        go_wp2_with fail
        go_ret
        refine ⟨ret_int (by rw [ER.out]), ?_, hc2'.trans (hc3.mono (by simp))⟩
        rw [HX.out, HF.out, EG.out, EB.out, if_neg HE.out]
        exact ⟨ha3, hd2.chg hc3 (by simp; omega), (hm2.chg hc3 (by simp; omega)).mono (by omega), ⟨d1, d2, d3, d4, d5⟩, ugv⟩
    · have er : R = v := by rw [HR.out, hb]; rfl
      have eg : G = (cAddN got v) := by rw [HG.out, hb]; rfl
      have eb : bk = 0 := by rw [HB.out, er]; omega
      have ub : U 0 := by have := v0.out.1; have := v0.out.2; exact ⟨by omega, by omega⟩
      have ebw : Hid (IntKind.u64.wrap 0 = 0) := by show _ = _; rw [IntKind.wrap_u64]; have := ub.1; have := ub.2; omega
      have ugv : U (cAddN got v) := cAdd_U ug uv
      have ER := Lib.hid er
      have EG := Lib.hid eg
      have EB := Lib.hid eb
      clear er eg eb
      have hst := h.hd.set 2 (.int .u64 (cAddN got v))
      have hc1 : Chg [fb, mb, s] w (w.setCell ⟨fb, 2, none⟩ (.int .u64 (cAddN got v))) := (Chg.refl _ _).setCell _ _ (by simp)
      have hms : MapU (w.setCell ⟨fb, 2, none⟩ (.int .u64 (cAddN got v))) mb m f := h.mp.chg ((Chg.refl [fb] w).setCell _ _ (by simp)) (by simp; omega)
      have hst1 := hst.at (i := 1) rfl
      have hac := h.acc.chg ((Chg.refl [fb] w).setCell ⟨fb, 2, none⟩ (.int .u64 (cAddN got v)) (by simp)) (by simp; omega) (by simp; omega)
      go_enter Try.func39, Try.ntmps39
      go_wp2_with (first | (at_lookup; refine wpList_lookU _ rfl (.tmp 14) (.tmp 15) rfl mb m f rfl h.mp c rfl hc ?_; rw [← HH.out]) | (go_at_call 15; refine (add_any _ _ _ ug uv).mono ?_; rintro e w' ⟨rfl, rfl⟩) | (at_mapUpdate; refine wpList_putU _ rfl (.tmp 42) (.tmp 43) (.tmp 46) rfl mb m f rfl hms ?_ c 0 rfl ?_ hc ub ?_))
      · omega
      · first | rfl | exact vint ebw.out
      intro w2 hm2 hc2
      have hc2' : Chg [fb, mb, s] w w2 := hc1.trans (hc2.mono (by simp))
      have hd2 := hst.chg hc2 (by simp; omega)
      have ha2 := hac.chg hc2 (by simp; omega) (by simp; omega)
      have x0 := hd2.at (i := 0) rfl
      by_cases hE : aPutE n xs c 1 0 = 0
      · have HE := Lib.hid hE
        clear hE
        go_wp2_with fail
        try rw [ebw.out]
        refine (put_is ha2 c 1 0 0 _ ub HE.out rfl).mono ?_
        rintro e w3 ⟨rfl, ha3, hc3⟩
        have hd3 := hd2.chg hc3 (by simp; omega)
        have hm3 := hm2.chg hc3 (by simp; omega)
        have y1 := hd3.at (i := 1) rfl
        go_wp2_with (at_mapUpdate; refine wpList_putU _ rfl (.tmp 60) (.tmp 61) (.const (.int .u64 0)) rfl mb (m + 1) (upd f c 0) rfl hm3 ?_ c 0 rfl rfl hc ?_ ?_)
        · omega
        · simp [U]
        intro w4 hm4 hc4
        go_wp2_with fail
        go_ret
        refine ⟨ret_int (by rw [ER.out]), ?_, (hc2'.trans (hc3.mono (by simp))).trans (hc4.mono (by simp))⟩
        rw [HX.out, HF.out, EG.out, EB.out, if_pos HE.out]
        exact ⟨ha3.chg hc4 (by simp; omega) (by simp; omega), hd3.chg hc4 (by simp; omega), hm4, ⟨d1, d2, d3, d4, d5⟩, ugv⟩
      · have hne : (aPutE n xs c 1 0 == 0) = false := by simpa using hE
        have HE := Lib.hid hE
        clear hE
        go_wp2_with fail
        try rw [ebw.out]
        refine (put_any ha2 c 1 0 ub).mono ?_
        rintro e w3 ⟨rfl, ha3, hc3⟩
        go_wp2_with fail
        go_ret
        refine ⟨ret_int (by rw [ER.out]), ?_, hc2'.trans (hc3.mono (by simp))⟩
        rw [HX.out, HF.out, EG.out, EB.out, if_neg HE.out]
        exact ⟨ha3, hd2.chg hc3 (by simp; omega), (hm2.chg hc3 (by simp; omega)).mono (by omega), ⟨d1, d2, d3, d4, d5⟩, ugv⟩
end Go.Proofs.Ytkjkkchpicehoaa
