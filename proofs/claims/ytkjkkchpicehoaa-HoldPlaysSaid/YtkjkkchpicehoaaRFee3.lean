import Derived.Test.YtkjkkchpicehoaaRFee2
import Derived.Deep.QuietTactic
import Derived.BigQuiet
namespace Go.Proofs.Ytkjkkchpicehoaa
set_option linter.unusedVariables false
open Go Go.Proofs Go.RowKit Go.Maps

theorem settle_zero {n : Nat} {xs : List Int} {f : Int → Int} {got : Int} (h : AOk n xs) (hg : U got) {c fee : Int} (hf : U fee) (h0 : f c = 0) : sV f got c fee = 0 ∧ sX n xs f got c fee = xs ∧ sF n xs f got c fee = f ∧ sGot f got c fee = got := by
  have m0 : min fee (f c) = 0 := by rw [h0]; have := hf.1; omega
  have b := (add_zero hg).2
  have a := (add_zero hg).1
  have e1 : sV f got c fee = 0 := by unfold sV; rw [m0, if_pos b]
  have e2 : sBack f got c fee = 0 := by unfold sBack; rw [e1, h0]; rfl
  have e3 : upd f c 0 = f := upd_self _ _ _ h0
  refine ⟨e1, by unfold sX; rw [e2, put_zero h], ?_, by unfold sGot; rw [m0, if_pos b, a]⟩
  unfold sF; rw [e2, e3, e3]; split <;> rfl

set_option maxHeartbeats 8000000 in
/-- Settle. -/
theorem rsettle_any {w : World} {fb hb b s n : Nat} {xs hs : List Int} {got : Int} (h : RFee w fb hb b s n xs hs got) (c fee : Int) (hf : U fee) :
    Calls Try.prog 44 #[.pointer (some ⟨fb, 0, none⟩), .int .i64 c, .int .u64 fee] w fun e w' => ∃ hs', e = .returned (.int .u64 (sV (fOf n hs) got c fee)) ∧ RFee w' fb hb b s n (sX n xs (fOf n hs) got c fee) hs' (sGot (fOf n hs) got c fee) ∧ fOf n hs' = sF n xs (fOf n hs) got c fee ∧ Chg [fb, hb, s] w w' := by
  have k0 := h.hd.at (i := 0) rfl
  have k1 := h.hd.at (i := 1) rfl
  have k2 := h.hd.at (i := 2) rfl
  have fr := h.hd.free 2
  obtain ⟨d1, d2, d3, d4, d5⟩ := h.ne
  have uf := h.f_U c
  have ug := h.ug
  by_cases h0 : fOf n hs c = 0
  · obtain ⟨e1, e2, e3, e4⟩ := settle_zero h.acc.ok ug hf h0
    have E1 := Lib.hid e1
    have E2 := Lib.hid e2
    have E3 := Lib.hid e3
    have E4 := Lib.hid e4
    have H0 := Lib.hid h0
    clear e1 e2 e3 e4 h0
    go_enter Try.func44, Try.ntmps44
    go_wp2_with fail
    refine (rof_any h c).mono ?_
    rw [H0.out]
    rintro e w' ⟨rfl, rfl⟩
    go_wp2_with fail
    go_ret
    exact ⟨hs, ret_int E1.out.symm, by rw [E2.out, E4.out]; exact h, E3.out.symm, Chg.refl _ _⟩
  · obtain ⟨k, rfl, hk⟩ := fOf_nat h0
    have HR : Hid (sV (fOf n hs) got k fee = if cAddB got (min fee (fOf n hs k)) = true then min fee (fOf n hs k) else 0) := rfl
    have HG : Hid (sGot (fOf n hs) got k fee = if cAddB got (min fee (fOf n hs k)) = true then cAddN got (min fee (fOf n hs k)) else got) := rfl
    have HB : Hid (sBack (fOf n hs) got k fee = fOf n hs k - sV (fOf n hs) got k fee) := rfl
    have HX : Hid (sX n xs (fOf n hs) got k fee = aPut n xs k 1 (sBack (fOf n hs) got k fee)) := rfl
    have HF : Hid (sF n xs (fOf n hs) got k fee = if aPutE n xs k 1 (sBack (fOf n hs) got k fee) = 0 then upd (upd (fOf n hs) k (sBack (fOf n hs) got k fee)) k 0 else upd (fOf n hs) k (sBack (fOf n hs) got k fee)) := rfl
    have HS : Hid (∀ v : Int, fOf n (hs.set k v) = upd (fOf n hs) k v) := fun v => fOf_set h.len hk v
    have HS2 : Hid (∀ v u : Int, fOf n ((hs.set k v).set k u) = upd (upd (fOf n hs) k v) k u) := fun v u => by
      show _ = _
      rw [fOf_set (by simp [h.len]) hk, fOf_set h.len hk]
    have hcell := h.cell hk
    have hn := h.acc.ok.most
    have kn : (k : Int) < n := by omega
    have k00 : (0 : Int) ≤ k := by omega
    generalize sF n xs (fOf n hs) got k fee = F at *
    generalize sX n xs (fOf n hs) got k fee = X at *
    generalize sBack (fOf n hs) got k fee = bk at *
    generalize sGot (fOf n hs) got k fee = G at *
    generalize sV (fOf n hs) got k fee = R at *
    obtain ⟨H, hH⟩ : ∃ H, H = fOf n hs k := ⟨_, rfl⟩
    rw [← hH] at uf HR HG HB h0
    have HH := Lib.hid hH
    clear hH
    have hne : (H == 0) = false := by simpa using h0
    clear h0
    have uv := min_U hf uf
    have v0 : Hid (min fee H ≤ H ∧ 0 ≤ min fee H) := by
      have := uf.1; have := hf.1
      exact ⟨by omega, by omega⟩
    have V : Hid (∃ v, v = min fee H) := ⟨_, rfl⟩
    obtain ⟨v, hv⟩ := V.out
    rw [← hv] at uv HR HG v0
    have HVV := Lib.hid hv
    clear hv
    have U0 := uf.1
    have U1 := uf.2
    by_cases hmin : H ≤ fee
    · obtain rfl : v = H := by rw [HVV.out]; omega
      cases hb1 : cAddB got v
      · have er : R = 0 := by rw [HR.out, hb1]; rfl
        have eg : G = got := by rw [HG.out, hb1]; rfl
        have eb : bk = v := by rw [HB.out, er]; omega
        have ub : U v := by have := v0.out.1; have := v0.out.2; exact ⟨by omega, by omega⟩
        have ebw : Hid (IntKind.u64.wrap v = v) := by show _ = _; rw [IntKind.wrap_u64]; have := ub.1; have := ub.2; omega
        have ugv : U got := ug
        have ER := Lib.hid er
        have EG := Lib.hid eg
        have EB := Lib.hid eb
        clear er eg eb
        go_enter Try.func44, Try.ntmps44
        go_wp2_with fail
        refine (rof_any h k).mono ?_
        rw [← HH.out]
        rintro e w' ⟨rfl, rfl⟩
        go_wp2_with fail
        refine (radd_any _ _ _ ug uv).mono ?_
        rintro e w' ⟨rfl, rfl⟩
        go_wp2_with fail
        go_quiet (fail)
        have hh := h.drewN nq
        have hcw : Chg [fb, hb, s] w (w.drewN nq) := (Chg.refl _ _).drewN _
        clear k0 k1 k2 fr hcell
        generalize hW0 : w.drewN nq = W0 at *
        clear hW0
        have hst := hh.hd.set 2 (.int .u64 got)
        have hc1 : Chg [fb, hb, s] W0 (W0.setCell ⟨fb, 2, none⟩ (.int .u64 got)) := (Chg.refl _ _).setCell _ _ (by simp)
        have hc1' : Chg [fb] W0 (W0.setCell ⟨fb, 2, none⟩ (.int .u64 got)) := (Chg.refl _ _).setCell _ _ (by simp)
        have hst1 := hst.at (i := 1) rfl
        have hst0 := hst.at (i := 0) rfl
        have hrw := hh.row.chg hc1' (by simp; omega)
        have hc2 : (W0.setCell ⟨fb, 2, none⟩ (.int .u64 got)).cell? ⟨hb, k, none⟩ = some (.int .u64 (fOf n hs k)) := hc1'.cell (hh.cell hk) (by simp; omega)
        have hfz := hrw.free k
        have hac := hh.acc.chg hc1' (by simp; omega) (by simp; omega)
        have k0 := hh.hd.at (i := 0) rfl
        have k1 := hh.hd.at (i := 1) rfl
        have k2 := hh.hd.at (i := 2) rfl
        have fr := hh.hd.free 2
        go_wp2_with fail
        try rw [ebw.out]
        have hcs : Chg [hb] (W0.setCell ⟨fb, 2, none⟩ (.int .u64 got)) ((W0.setCell ⟨fb, 2, none⟩ (.int .u64 got)).setCell ⟨hb, k, none⟩ (.int .u64 v)) := (Chg.refl _ _).setCell _ _ (by simp)
        have hd2 := hst.chg hcs (by simp; omega)
        have ha2 := hac.chg hcs (by simp; omega) (by simp; omega)
        have hr2 := hrw.set k (.int .u64 v) (by simp [h.len, hk])
        rw [← List.map_set] at hr2
        have hcs2 : Chg [fb, hb, s] W0 ((W0.setCell ⟨fb, 2, none⟩ (.int .u64 got)).setCell ⟨hb, k, none⟩ (.int .u64 v)) := hc1.setCell _ _ (by simp)
        generalize hW : (W0.setCell ⟨fb, 2, none⟩ (.int .u64 got)).setCell ⟨hb, k, none⟩ (.int .u64 v) = W at *
        by_cases hE : aPutE n xs k 1 v = 0
        · have HE := Lib.hid hE
          clear hE
          refine (rput_any ha2 k 1 v ub).mono ?_
          rw [HE.out]
          rintro e w3 ⟨rfl, ha3, hc3⟩
          have hd3 := hd2.chg hc3 (by simp; omega)
          have hr3 := hr2.chg hc3 (by simp; omega)
          have y1 := hd3.at (i := 1) rfl
          have y2 : w3.cell? ⟨hb, k, none⟩ = some (.int .u64 v) := hr3.at (by simp [h.len, hk])
          have y3 := hr3.free k
          clear hst1 hst0 hc2 hfz k0 k1 k2 fr
          go_wp2_with fail
          go_ret
          have hcz : Chg [hb] w3 (w3.setCell ⟨hb, k, none⟩ (.int .u64 0)) := (Chg.refl _ _).setCell _ _ (by simp)
          have hr4 := hr3.set k (.int .u64 0) (by simp [h.len, hk])
          rw [← List.map_set] at hr4
          refine ⟨(hs.set k v).set k 0, ret_int (by rw [ER.out]), ?_, by rw [HS2.out, HF.out, EB.out, if_pos HE.out], ((hcw.trans hcs2).trans (hc3.mono (by simp))).setCell _ _ (by simp)⟩
          rw [HX.out, EG.out, EB.out]
          exact ⟨ha3.chg hcz (by simp; omega) (by simp; omega), hd3.chg hcz (by simp; omega), hr4, by simp [h.len], mem_set (mem_set h.all ub) (by simp [U]), ⟨d1, d2, d3, d4, d5⟩, ugv⟩
        · have hne2 : (aPutE n xs k 1 v == 0) = false := by simpa using hE
          have HE := Lib.hid hE
          clear hE
          refine (rput_any ha2 k 1 v ub).mono ?_
          rintro e w3 ⟨rfl, ha3, hc3⟩
          clear hst1 hst0 hc2 hfz k0 k1 k2 fr
          go_wp2_with fail
          go_ret
          refine ⟨hs.set k v, ret_int (by rw [ER.out]), ?_, by rw [HS.out, HF.out, EB.out, if_neg HE.out], (hcw.trans hcs2).trans (hc3.mono (by simp))⟩
          rw [HX.out, EG.out, EB.out]
          exact ⟨ha3, hd2.chg hc3 (by simp; omega), hr2.chg hc3 (by simp; omega), by simp [h.len], mem_set h.all ub, ⟨d1, d2, d3, d4, d5⟩, ugv⟩
      · have er : R = v := by rw [HR.out, hb1]; rfl
        have eg : G = (cAddN got v) := by rw [HG.out, hb1]; rfl
        have eb : bk = 0 := by rw [HB.out, er]; omega
        have ub : U 0 := by have := v0.out.1; have := v0.out.2; exact ⟨by omega, by omega⟩
        have ebw : Hid (IntKind.u64.wrap 0 = 0) := by show _ = _; rw [IntKind.wrap_u64]; have := ub.1; have := ub.2; omega
        have ugv : U (cAddN got v) := cAdd_U ug uv
        have ER := Lib.hid er
        have EG := Lib.hid eg
        have EB := Lib.hid eb
        clear er eg eb
        go_enter Try.func44, Try.ntmps44
        go_wp2_with fail
        refine (rof_any h k).mono ?_
        rw [← HH.out]
        rintro e w' ⟨rfl, rfl⟩
        go_wp2_with fail
        refine (radd_any _ _ _ ug uv).mono ?_
        rintro e w' ⟨rfl, rfl⟩
        have hh := h
        have hcw : Chg [fb, hb, s] w w := Chg.refl _ _
        clear k0 k1 k2 fr hcell
        obtain ⟨W0, rfl⟩ : ∃ W0, W0 = w := ⟨_, rfl⟩
        have hst := hh.hd.set 2 (.int .u64 (cAddN got v))
        have hc1 : Chg [fb, hb, s] W0 (W0.setCell ⟨fb, 2, none⟩ (.int .u64 (cAddN got v))) := (Chg.refl _ _).setCell _ _ (by simp)
        have hc1' : Chg [fb] W0 (W0.setCell ⟨fb, 2, none⟩ (.int .u64 (cAddN got v))) := (Chg.refl _ _).setCell _ _ (by simp)
        have hst1 := hst.at (i := 1) rfl
        have hst0 := hst.at (i := 0) rfl
        have hrw := hh.row.chg hc1' (by simp; omega)
        have hc2 : (W0.setCell ⟨fb, 2, none⟩ (.int .u64 (cAddN got v))).cell? ⟨hb, k, none⟩ = some (.int .u64 (fOf n hs k)) := hc1'.cell (hh.cell hk) (by simp; omega)
        have hfz := hrw.free k
        have hac := hh.acc.chg hc1' (by simp; omega) (by simp; omega)
        have k0 := hh.hd.at (i := 0) rfl
        have k1 := hh.hd.at (i := 1) rfl
        have k2 := hh.hd.at (i := 2) rfl
        have fr := hh.hd.free 2
        go_wp2_with fail
        try rw [ebw.out]
        have hcs : Chg [hb] (W0.setCell ⟨fb, 2, none⟩ (.int .u64 (cAddN got v))) ((W0.setCell ⟨fb, 2, none⟩ (.int .u64 (cAddN got v))).setCell ⟨hb, k, none⟩ (.int .u64 0)) := (Chg.refl _ _).setCell _ _ (by simp)
        have hd2 := hst.chg hcs (by simp; omega)
        have ha2 := hac.chg hcs (by simp; omega) (by simp; omega)
        have hr2 := hrw.set k (.int .u64 0) (by simp [h.len, hk])
        rw [← List.map_set] at hr2
        have hcs2 : Chg [fb, hb, s] W0 ((W0.setCell ⟨fb, 2, none⟩ (.int .u64 (cAddN got v))).setCell ⟨hb, k, none⟩ (.int .u64 0)) := hc1.setCell _ _ (by simp)
        generalize hW : (W0.setCell ⟨fb, 2, none⟩ (.int .u64 (cAddN got v))).setCell ⟨hb, k, none⟩ (.int .u64 0) = W at *
        by_cases hE : aPutE n xs k 1 0 = 0
        · have HE := Lib.hid hE
          clear hE
          refine (rput_any ha2 k 1 0 ub).mono ?_
          rw [HE.out]
          rintro e w3 ⟨rfl, ha3, hc3⟩
          have hd3 := hd2.chg hc3 (by simp; omega)
          have hr3 := hr2.chg hc3 (by simp; omega)
          have y1 := hd3.at (i := 1) rfl
          have y2 : w3.cell? ⟨hb, k, none⟩ = some (.int .u64 0) := hr3.at (by simp [h.len, hk])
          have y3 := hr3.free k
          clear hst1 hst0 hc2 hfz k0 k1 k2 fr
          go_wp2_with fail
          go_ret
          have hcz : Chg [hb] w3 (w3.setCell ⟨hb, k, none⟩ (.int .u64 0)) := (Chg.refl _ _).setCell _ _ (by simp)
          have hr4 := hr3.set k (.int .u64 0) (by simp [h.len, hk])
          rw [← List.map_set] at hr4
          refine ⟨(hs.set k 0).set k 0, ret_int (by rw [ER.out]), ?_, by rw [HS2.out, HF.out, EB.out, if_pos HE.out], ((hcw.trans hcs2).trans (hc3.mono (by simp))).setCell _ _ (by simp)⟩
          rw [HX.out, EG.out, EB.out]
          exact ⟨ha3.chg hcz (by simp; omega) (by simp; omega), hd3.chg hcz (by simp; omega), hr4, by simp [h.len], mem_set (mem_set h.all ub) (by simp [U]), ⟨d1, d2, d3, d4, d5⟩, ugv⟩
        · have hne2 : (aPutE n xs k 1 0 == 0) = false := by simpa using hE
          have HE := Lib.hid hE
          clear hE
          refine (rput_any ha2 k 1 0 ub).mono ?_
          rintro e w3 ⟨rfl, ha3, hc3⟩
          clear hst1 hst0 hc2 hfz k0 k1 k2 fr
          go_wp2_with fail
          go_ret
          refine ⟨hs.set k 0, ret_int (by rw [ER.out]), ?_, by rw [HS.out, HF.out, EB.out, if_neg HE.out], (hcw.trans hcs2).trans (hc3.mono (by simp))⟩
          rw [HX.out, EG.out, EB.out]
          exact ⟨ha3, hd2.chg hc3 (by simp; omega), hr2.chg hc3 (by simp; omega), by simp [h.len], mem_set h.all ub, ⟨d1, d2, d3, d4, d5⟩, ugv⟩
    · obtain rfl : v = fee := by rw [HVV.out]; omega
      cases hb1 : cAddB got v
      · have er : R = 0 := by rw [HR.out, hb1]; rfl
        have eg : G = got := by rw [HG.out, hb1]; rfl
        have eb : bk = H := by rw [HB.out, er]; omega
        have ub : U H := by have := v0.out.1; have := v0.out.2; exact ⟨by omega, by omega⟩
        have ebw : Hid (IntKind.u64.wrap H = H) := by show _ = _; rw [IntKind.wrap_u64]; have := ub.1; have := ub.2; omega
        have ugv : U got := ug
        have ER := Lib.hid er
        have EG := Lib.hid eg
        have EB := Lib.hid eb
        clear er eg eb
        go_enter Try.func44, Try.ntmps44
        go_wp2_with fail
        refine (rof_any h k).mono ?_
        rw [← HH.out]
        rintro e w' ⟨rfl, rfl⟩
        go_wp2_with fail
        refine (radd_any _ _ _ ug uv).mono ?_
        rintro e w' ⟨rfl, rfl⟩
        go_wp2_with fail
        go_quiet (fail)
        have hh := h.drewN nq
        have hcw : Chg [fb, hb, s] w (w.drewN nq) := (Chg.refl _ _).drewN _
        clear k0 k1 k2 fr hcell
        generalize hW0 : w.drewN nq = W0 at *
        clear hW0
        have hst := hh.hd.set 2 (.int .u64 got)
        have hc1 : Chg [fb, hb, s] W0 (W0.setCell ⟨fb, 2, none⟩ (.int .u64 got)) := (Chg.refl _ _).setCell _ _ (by simp)
        have hc1' : Chg [fb] W0 (W0.setCell ⟨fb, 2, none⟩ (.int .u64 got)) := (Chg.refl _ _).setCell _ _ (by simp)
        have hst1 := hst.at (i := 1) rfl
        have hst0 := hst.at (i := 0) rfl
        have hrw := hh.row.chg hc1' (by simp; omega)
        have hc2 : (W0.setCell ⟨fb, 2, none⟩ (.int .u64 got)).cell? ⟨hb, k, none⟩ = some (.int .u64 (fOf n hs k)) := hc1'.cell (hh.cell hk) (by simp; omega)
        have hfz := hrw.free k
        have hac := hh.acc.chg hc1' (by simp; omega) (by simp; omega)
        have k0 := hh.hd.at (i := 0) rfl
        have k1 := hh.hd.at (i := 1) rfl
        have k2 := hh.hd.at (i := 2) rfl
        have fr := hh.hd.free 2
        go_wp2_with fail
        try rw [ebw.out]
        have hcs : Chg [hb] (W0.setCell ⟨fb, 2, none⟩ (.int .u64 got)) ((W0.setCell ⟨fb, 2, none⟩ (.int .u64 got)).setCell ⟨hb, k, none⟩ (.int .u64 H)) := (Chg.refl _ _).setCell _ _ (by simp)
        have hd2 := hst.chg hcs (by simp; omega)
        have ha2 := hac.chg hcs (by simp; omega) (by simp; omega)
        have hr2 := hrw.set k (.int .u64 H) (by simp [h.len, hk])
        rw [← List.map_set] at hr2
        have hcs2 : Chg [fb, hb, s] W0 ((W0.setCell ⟨fb, 2, none⟩ (.int .u64 got)).setCell ⟨hb, k, none⟩ (.int .u64 H)) := hc1.setCell _ _ (by simp)
        generalize hW : (W0.setCell ⟨fb, 2, none⟩ (.int .u64 got)).setCell ⟨hb, k, none⟩ (.int .u64 H) = W at *
        by_cases hE : aPutE n xs k 1 H = 0
        · have HE := Lib.hid hE
          clear hE
          refine (rput_any ha2 k 1 H ub).mono ?_
          rw [HE.out]
          rintro e w3 ⟨rfl, ha3, hc3⟩
          have hd3 := hd2.chg hc3 (by simp; omega)
          have hr3 := hr2.chg hc3 (by simp; omega)
          have y1 := hd3.at (i := 1) rfl
          have y2 : w3.cell? ⟨hb, k, none⟩ = some (.int .u64 H) := hr3.at (by simp [h.len, hk])
          have y3 := hr3.free k
          clear hst1 hst0 hc2 hfz k0 k1 k2 fr
          go_wp2_with fail
          go_ret
          have hcz : Chg [hb] w3 (w3.setCell ⟨hb, k, none⟩ (.int .u64 0)) := (Chg.refl _ _).setCell _ _ (by simp)
          have hr4 := hr3.set k (.int .u64 0) (by simp [h.len, hk])
          rw [← List.map_set] at hr4
          refine ⟨(hs.set k H).set k 0, ret_int (by rw [ER.out]), ?_, by rw [HS2.out, HF.out, EB.out, if_pos HE.out], ((hcw.trans hcs2).trans (hc3.mono (by simp))).setCell _ _ (by simp)⟩
          rw [HX.out, EG.out, EB.out]
          exact ⟨ha3.chg hcz (by simp; omega) (by simp; omega), hd3.chg hcz (by simp; omega), hr4, by simp [h.len], mem_set (mem_set h.all ub) (by simp [U]), ⟨d1, d2, d3, d4, d5⟩, ugv⟩
        · have hne2 : (aPutE n xs k 1 H == 0) = false := by simpa using hE
          have HE := Lib.hid hE
          clear hE
          refine (rput_any ha2 k 1 H ub).mono ?_
          rintro e w3 ⟨rfl, ha3, hc3⟩
          clear hst1 hst0 hc2 hfz k0 k1 k2 fr
          go_wp2_with fail
          go_ret
          refine ⟨hs.set k H, ret_int (by rw [ER.out]), ?_, by rw [HS.out, HF.out, EB.out, if_neg HE.out], (hcw.trans hcs2).trans (hc3.mono (by simp))⟩
          rw [HX.out, EG.out, EB.out]
          exact ⟨ha3, hd2.chg hc3 (by simp; omega), hr2.chg hc3 (by simp; omega), by simp [h.len], mem_set h.all ub, ⟨d1, d2, d3, d4, d5⟩, ugv⟩
      · have er : R = v := by rw [HR.out, hb1]; rfl
        have eg : G = (cAddN got v) := by rw [HG.out, hb1]; rfl
        have eb : bk = (H - v) := by rw [HB.out, er]
        have ub : U (H - v) := by have := v0.out.1; have := v0.out.2; exact ⟨by omega, by omega⟩
        have ebw : Hid (IntKind.u64.wrap (H - v) = (H - v)) := by show _ = _; rw [IntKind.wrap_u64]; have := ub.1; have := ub.2; omega
        have ugv : U (cAddN got v) := cAdd_U ug uv
        have ER := Lib.hid er
        have EG := Lib.hid eg
        have EB := Lib.hid eb
        clear er eg eb
        go_enter Try.func44, Try.ntmps44
        go_wp2_with fail
        refine (rof_any h k).mono ?_
        rw [← HH.out]
        rintro e w' ⟨rfl, rfl⟩
        go_wp2_with fail
        refine (radd_any _ _ _ ug uv).mono ?_
        rintro e w' ⟨rfl, rfl⟩
        have hh := h
        have hcw : Chg [fb, hb, s] w w := Chg.refl _ _
        clear k0 k1 k2 fr hcell
        obtain ⟨W0, rfl⟩ : ∃ W0, W0 = w := ⟨_, rfl⟩
        have hst := hh.hd.set 2 (.int .u64 (cAddN got v))
        have hc1 : Chg [fb, hb, s] W0 (W0.setCell ⟨fb, 2, none⟩ (.int .u64 (cAddN got v))) := (Chg.refl _ _).setCell _ _ (by simp)
        have hc1' : Chg [fb] W0 (W0.setCell ⟨fb, 2, none⟩ (.int .u64 (cAddN got v))) := (Chg.refl _ _).setCell _ _ (by simp)
        have hst1 := hst.at (i := 1) rfl
        have hst0 := hst.at (i := 0) rfl
        have hrw := hh.row.chg hc1' (by simp; omega)
        have hc2 : (W0.setCell ⟨fb, 2, none⟩ (.int .u64 (cAddN got v))).cell? ⟨hb, k, none⟩ = some (.int .u64 (fOf n hs k)) := hc1'.cell (hh.cell hk) (by simp; omega)
        have hfz := hrw.free k
        have hac := hh.acc.chg hc1' (by simp; omega) (by simp; omega)
        have k0 := hh.hd.at (i := 0) rfl
        have k1 := hh.hd.at (i := 1) rfl
        have k2 := hh.hd.at (i := 2) rfl
        have fr := hh.hd.free 2
        go_wp2_with fail
        try rw [ebw.out]
        have hcs : Chg [hb] (W0.setCell ⟨fb, 2, none⟩ (.int .u64 (cAddN got v))) ((W0.setCell ⟨fb, 2, none⟩ (.int .u64 (cAddN got v))).setCell ⟨hb, k, none⟩ (.int .u64 (H - v))) := (Chg.refl _ _).setCell _ _ (by simp)
        have hd2 := hst.chg hcs (by simp; omega)
        have ha2 := hac.chg hcs (by simp; omega) (by simp; omega)
        have hr2 := hrw.set k (.int .u64 (H - v)) (by simp [h.len, hk])
        rw [← List.map_set] at hr2
        have hcs2 : Chg [fb, hb, s] W0 ((W0.setCell ⟨fb, 2, none⟩ (.int .u64 (cAddN got v))).setCell ⟨hb, k, none⟩ (.int .u64 (H - v))) := hc1.setCell _ _ (by simp)
        generalize hW : (W0.setCell ⟨fb, 2, none⟩ (.int .u64 (cAddN got v))).setCell ⟨hb, k, none⟩ (.int .u64 (H - v)) = W at *
        by_cases hE : aPutE n xs k 1 (H - v) = 0
        · have HE := Lib.hid hE
          clear hE
          refine (rput_any ha2 k 1 (H - v) ub).mono ?_
          rw [HE.out]
          rintro e w3 ⟨rfl, ha3, hc3⟩
          have hd3 := hd2.chg hc3 (by simp; omega)
          have hr3 := hr2.chg hc3 (by simp; omega)
          have y1 := hd3.at (i := 1) rfl
          have y2 : w3.cell? ⟨hb, k, none⟩ = some (.int .u64 (H - v)) := hr3.at (by simp [h.len, hk])
          have y3 := hr3.free k
          clear hst1 hst0 hc2 hfz k0 k1 k2 fr
          go_wp2_with fail
          go_ret
          have hcz : Chg [hb] w3 (w3.setCell ⟨hb, k, none⟩ (.int .u64 0)) := (Chg.refl _ _).setCell _ _ (by simp)
          have hr4 := hr3.set k (.int .u64 0) (by simp [h.len, hk])
          rw [← List.map_set] at hr4
          refine ⟨(hs.set k (H - v)).set k 0, ret_int (by rw [ER.out]), ?_, by rw [HS2.out, HF.out, EB.out, if_pos HE.out], ((hcw.trans hcs2).trans (hc3.mono (by simp))).setCell _ _ (by simp)⟩
          rw [HX.out, EG.out, EB.out]
          exact ⟨ha3.chg hcz (by simp; omega) (by simp; omega), hd3.chg hcz (by simp; omega), hr4, by simp [h.len], mem_set (mem_set h.all ub) (by simp [U]), ⟨d1, d2, d3, d4, d5⟩, ugv⟩
        · have hne2 : (aPutE n xs k 1 (H - v) == 0) = false := by simpa using hE
          have HE := Lib.hid hE
          clear hE
          refine (rput_any ha2 k 1 (H - v) ub).mono ?_
          rintro e w3 ⟨rfl, ha3, hc3⟩
          clear hst1 hst0 hc2 hfz k0 k1 k2 fr
          go_wp2_with fail
          go_ret
          refine ⟨hs.set k (H - v), ret_int (by rw [ER.out]), ?_, by rw [HS.out, HF.out, EB.out, if_neg HE.out], (hcw.trans hcs2).trans (hc3.mono (by simp))⟩
          rw [HX.out, EG.out, EB.out]
          exact ⟨ha3, hd2.chg hc3 (by simp; omega), hr2.chg hc3 (by simp; omega), by simp [h.len], mem_set h.all ub, ⟨d1, d2, d3, d4, d5⟩, ugv⟩
end Go.Proofs.Ytkjkkchpicehoaa
