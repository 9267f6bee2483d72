
import Derived.Test.YteabcpmpcbjicaaGreatMemA
import Derived.Test.YteabcpmpcbjicaaGreatAcctA
namespace Go.Proofs.YteabcpmpcbjicaaGreat
set_option linter.unusedVariables false
open Go Go.Proofs Go.RowKit Go.Maps

/-- Fees in memory: the struct's block fb, the map's block mb, its accounts. -/
structure Fee (w : World) (fb mb b s n : Nat) (xs : List Int) (m : Nat) (f : Int → Int) (got : Int) : Prop where
  acc : Acc w b s n xs
  hd : Blk w fb 205 [.pointer (some ⟨b, 0, none⟩), .map (some mb), .int .u64 got]
  mp : MapU w mb m f
  ne : fb ≠ b ∧ fb ≠ s ∧ fb ≠ mb ∧ mb ≠ b ∧ mb ≠ s
  ug : U got

theorem Fee.chg {w w' : World} {fb mb b s n : Nat} {xs : List Int} {m : Nat} {f : Int → Int} {got : Int} {S : List Nat} (h : Fee w fb mb b s n xs m f got) (g : Chg S w w') (h1 : fb ∉ S) (h2 : mb ∉ S) (h3 : b ∉ S) (h4 : s ∉ S) : Fee w' fb mb b s n xs m f got :=
  ⟨h.acc.chg g h3 h4, h.hd.chg g h1, h.mp.chg g h2, h.ne, h.ug⟩
theorem Fee.mono {w : World} {fb mb b s n : Nat} {xs : List Int} {m m' : Nat} {f : Int → Int} {got : Int} (h : Fee w fb mb b s n xs m f got) (hm : m ≤ m') : Fee w fb mb b s n xs m' f got := ⟨h.acc, h.hd, h.mp.mono hm, h.ne, h.ug⟩
theorem Fee.drew {w : World} {fb mb b s n : Nat} {xs : List Int} {m : Nat} {f : Int → Int} {got : Int} (h : Fee w fb mb b s n xs m f got) : Fee w.drew fb mb b s n xs m f got := ⟨h.acc.drew, h.hd, h.mp, h.ne, h.ug⟩
theorem Fee.drewN {w : World} {fb mb b s n : Nat} {xs : List Int} {m : Nat} {f : Int → Int} {got : Int} (h : Fee w fb mb b s n xs m f got) (k : Nat) : Fee (w.drewN k) fb mb b s n xs m f got := ⟨h.acc.drewN k, h.hd, h.mp, h.ne, h.ug⟩

/-! What the calls come to. -/
def hV (n : Nat) (xs : List Int) (c fee : Int) : Int := min fee (aFree n xs c 1)
def hOk (n : Nat) (xs : List Int) (f : Int → Int) (c fee : Int) : Bool := cAddB (f c) (hV n xs c fee) && decide (aTakeE n xs c 1 (hV n xs c fee) = 0)
def hHold (n : Nat) (xs : List Int) (f : Int → Int) (c fee : Int) : Int := if hOk n xs f c fee = true then hV n xs c fee else 0
def hHoldX (n : Nat) (xs : List Int) (f : Int → Int) (c fee : Int) : List Int := if hOk n xs f c fee = true then aTake n xs c 1 (hV n xs c fee) else xs
def hHoldF (n : Nat) (xs : List Int) (f : Int → Int) (c fee : Int) : Int → Int := if hOk n xs f c fee = true then upd f c (cAddN (f c) (hV n xs c fee)) else f

def sV (f : Int → Int) (got c fee : Int) : Int := if cAddB got (min fee (f c)) = true then min fee (f c) else 0
def sGot (f : Int → Int) (got c fee : Int) : Int := if cAddB got (min fee (f c)) = true then cAddN got (min fee (f c)) else got
def sBack (f : Int → Int) (got c fee : Int) : Int := f c - sV f got c fee
def sX (n : Nat) (xs : List Int) (f : Int → Int) (got c fee : Int) : List Int := aPut n xs c 1 (sBack f got c fee)
def sF (n : Nat) (xs : List Int) (f : Int → Int) (got c fee : Int) : Int → Int := if aPutE n xs c 1 (sBack f got c fee) = 0 then upd (upd f c (sBack f got c fee)) c 0 else upd f c (sBack f got c fee)

def fV (f : Int → Int) (got c : Int) : Int := if cAddB got (f c) = true then f c else 0
def fGot (f : Int → Int) (got c : Int) : Int := if cAddB got (f c) = true then cAddN got (f c) else got
def fF (f : Int → Int) (got c : Int) : Int → Int := if cAddB got (f c) = true then upd f c 0 else f

theorem aFree_U {n : Nat} {xs : List Int} (h : AOk n xs) (c a : Int) : U (aFree n xs c a) := by
  unfold aFree; split
  · exact h.get _ _
  · simp [U]
theorem min_U {a b : Int} (ha : U a) (hb : U b) : U (min a b) := by
  obtain ⟨h1, h2⟩ := ha; obtain ⟨h3, h4⟩ := hb
  refine ⟨?_, ?_⟩ <;> omega
theorem hV_U {n : Nat} {xs : List Int} (h : AOk n xs) (c : Int) {fee : Int} (hf : U fee) : U (hV n xs c fee) := min_U hf (aFree_U h c 1)

/-- (*Fees).Got. -/
theorem got_any {w : World} {fb mb b s n : Nat} {xs : List Int} {m : Nat} {f : Int → Int} {got : Int} (h : Fee w fb mb b s n xs m f got) :
    Calls Tryz.prog 98 #[.pointer (some ⟨fb, 0, none⟩)] w fun e w' => e = .returned (.int .u64 got) ∧ w = w' := by
  have h2 := h.hd.at (i := 2) rfl
  go_enter Tryz.func98, Tryz.ntmps98
  go_wp2
  go_ret
  exact ⟨rfl, rfl⟩
/-- New. -/
theorem feeNew_any {w : World} {b s n : Nat} {xs : List Int} (h : Acc w b s n xs) :
    Calls Tryz.prog 71 #[.pointer (some ⟨b, 0, none⟩)] w fun e w' => ∃ fb mb, e = .returned (.pointer (some ⟨fb, 0, none⟩)) ∧ Fee w' fb mb b s n xs 0 (fun _ => 0) 0 ∧ Chg [] w w' ∧ w.heap.size ≤ fb ∧ w.heap.size ≤ mb := by
  have hmm := @run_makeMap Tryz.prog
  have hl := h.lt
  go_enter Tryz.func71, Tryz.ntmps71
  go_wp2
  go_ret
  refine ⟨w.heap.size + 1, w.heap.size, rfl, ⟨(h.alloc _).alloc _, ?_, (MapU.new w).alloc _, ⟨by omega, by omega, by omega, by omega, by omega⟩, by simp [U]⟩, ((Chg.refl _ _).alloc _).alloc _, by omega, by omega⟩
  have := Blk.new (w.alloc (.map #[] 0)) [.pointer (some ⟨b, 0, none⟩), .map (some w.heap.size), .int .u64 0] 205
  simpa using this
end Go.Proofs.YteabcpmpcbjicaaGreat

namespace Go.Proofs.YteabcpmpcbjicaaGreat
set_option linter.unusedVariables false
open Go Go.Proofs Go.RowKit Go.Maps

theorem Fee.maxm {w : World} {fb mb b s n : Nat} {xs : List Int} {m : Nat} {f : Int → Int} {got : Int} (h : Fee w fb mb b s n xs m f got) : True := trivial

set_option maxHeartbeats 1000000 in
/-- (*Fees).Hold. -/
theorem hold_any {w : World} {fb mb b s n : Nat} {xs : List Int} {m : Nat} {f : Int → Int} {got : Int} (h : Fee w fb mb b s n xs m f got) (c fee : Int) (hc : I c) (hf : U fee) (hm : m + 4 < maxLen) :
    Calls Tryz.prog 74 #[.pointer (some ⟨fb, 0, none⟩), .int .i64 c, .int .u64 fee] w fun e w' => e = .returned (.int .u64 (hHold n xs f c fee)) ∧ Fee w' fb mb b s n (hHoldX n xs f c fee) (m + 2) (hHoldF n xs f c fee) got ∧ Chg [fb, mb, s] w w' := by
  have k0 := h.hd.at (i := 0) rfl
  have k1 := h.hd.at (i := 1) rfl
  obtain ⟨d1, d2, d3, d4, d5⟩ := h.ne
  have uf := h.mp.U hc
  have uv := hV_U h.acc.ok c hf
  have HR : Hid (hHold n xs f c fee = if hOk n xs f c fee = true then hV n xs c fee else 0) := rfl
  have HX : Hid (hHoldX n xs f c fee = if hOk n xs f c fee = true then aTake n xs c 1 (hV n xs c fee) else xs) := rfl
  have HF : Hid (hHoldF n xs f c fee = if hOk n xs f c fee = true then upd f c (cAddN (f c) (hV n xs c fee)) else f) := rfl
  have HO : Hid (hOk n xs f c fee = (cAddB (f c) (hV n xs c fee) && decide (aTakeE n xs c 1 (hV n xs c fee) = 0))) := rfl
  have HV : Hid (hV n xs c fee = min fee (aFree n xs c 1)) := rfl
  generalize hOk n xs f c fee = ok at *
  generalize hHold n xs f c fee = R at *
  generalize hHoldX n xs f c fee = X at *
  generalize hHoldF n xs f c fee = F at *
  generalize hV n xs c fee = v at *
  by_cases hmin : fee ≤ aFree n xs c 1
  · obtain rfl : v = fee := by rw [HV.out]; omega
    cases hb : cAddB (f c) v
    · go_enter Tryz.func74, Tryz.ntmps74
      go_wp2_with fail
      refine (free_any h.acc _ _).mono ?_
      rintro e w' ⟨rfl, rfl⟩
      go_wp2_with (at_lookup; refine wpList_lookU _ rfl (.tmp 22) (.tmp 23) rfl mb m f rfl h.mp c rfl hc ?_)
      refine (add_any _ _ _ uf uv).mono ?_
      rintro e w' ⟨rfl, rfl⟩
      go_wp2_with fail
      go_ret
      have ho : ok = false := by rw [HO.out, hb]; rfl
      exact ⟨ret_int (by rw [HR.out, ho]; rfl), by rw [HX.out, HF.out, ho]; exact h.mono (by omega), Chg.refl _ _⟩
    · by_cases hE : aTakeE n xs c 1 v = 0
      · have HE := Lib.hid hE
        clear hE
        go_enter Tryz.func74, Tryz.ntmps74
        go_wp2_with fail
        refine (free_any h.acc _ _).mono ?_
        rintro e w' ⟨rfl, rfl⟩
        go_wp2_with (at_lookup; refine wpList_lookU _ rfl (.tmp 22) (.tmp 23) rfl mb m f rfl h.mp c rfl hc ?_)
        refine (add_any _ _ _ uf uv).mono ?_
        rintro e w' ⟨rfl, rfl⟩
        go_wp2_with fail
        refine (take_is h.acc c 1 v 0 _ uv HE.out rfl).mono ?_
        rintro e w1 ⟨rfl, ha, hc1⟩
        have hd1 := h.hd.chg hc1 (by simp; omega)
        have hm1 := h.mp.chg hc1 (by simp; omega)
        have q1 := hd1.at (i := 1) rfl
        go_wp2_with (at_mapUpdate; refine wpList_putU _ rfl (.tmp 44) (.tmp 45) (.tmp 46) rfl mb m f rfl hm1 (by omega) c _ rfl rfl hc (cAdd_U uf uv) ?_)
        intro w2 hm2 hc2
        go_wp2_with fail
        go_ret
        have ho : ok = true := by rw [HO.out, hb, HE.out]; rfl
        refine ⟨ret_int (by rw [HR.out, ho]; rfl), ?_, (hc1.mono (by simp)).trans (hc2.mono (by simp))⟩
        rw [HX.out, HF.out, ho]
        exact ⟨ha.chg hc2 (by simp; omega) (by simp; omega), hd1.chg hc2 (by simp; omega), hm2.mono (by omega), ⟨d1, d2, d3, d4, d5⟩, h.ug⟩
      · have hne : (aTakeE n xs c 1 v != 0) = true := by simpa using hE
        have HT : Hid (aTake n xs c 1 v = xs) := by show _ = _; unfold aTake; rw [if_neg hE]
        have HE := Lib.hid hE
        clear hE
        go_enter Tryz.func74, Tryz.ntmps74
        go_wp2_with fail
        refine (free_any h.acc _ _).mono ?_
        rintro e w' ⟨rfl, rfl⟩
        go_wp2_with (at_lookup; refine wpList_lookU _ rfl (.tmp 22) (.tmp 23) rfl mb m f rfl h.mp c rfl hc ?_)
        refine (add_any _ _ _ uf uv).mono ?_
        rintro e w' ⟨rfl, rfl⟩
        go_wp2_with fail
        refine (take_any h.acc c 1 v uv).mono ?_
        rintro e w1 ⟨rfl, ha, hc1⟩
        go_wp2_with fail
        go_ret
        have ho : ok = false := by rw [HO.out, hb]; simp [HE.out]
        refine ⟨ret_int (by rw [HR.out, ho]; rfl), ?_, hc1.mono (by simp)⟩
        rw [HX.out, HF.out, ho]
        rw [HT.out] at ha
        exact ⟨ha, h.hd.chg hc1 (by simp; omega), (h.mp.chg hc1 (by simp; omega)).mono (by omega), ⟨d1, d2, d3, d4, d5⟩, h.ug⟩
  · obtain rfl : v = aFree n xs c 1 := by rw [HV.out]; omega
    cases hb : cAddB (f c) (aFree n xs c 1)
    · go_enter Tryz.func74, Tryz.ntmps74
      go_wp2_with fail
      refine (free_any h.acc _ _).mono ?_
      rintro e w' ⟨rfl, rfl⟩
      go_wp2_with (at_lookup; refine wpList_lookU _ rfl (.tmp 22) (.tmp 23) rfl mb m f rfl h.mp c rfl hc ?_)
      refine (add_any _ _ _ uf uv).mono ?_
      rintro e w' ⟨rfl, rfl⟩
      go_wp2_with fail
      go_ret
      have ho : ok = false := by rw [HO.out, hb]; rfl
      exact ⟨ret_int (by rw [HR.out, ho]; rfl), by rw [HX.out, HF.out, ho]; exact h.mono (by omega), Chg.refl _ _⟩
    · by_cases hE : aTakeE n xs c 1 (aFree n xs c 1) = 0
      · have HE := Lib.hid hE
        clear hE
        go_enter Tryz.func74, Tryz.ntmps74
        go_wp2_with fail
        refine (free_any h.acc _ _).mono ?_
        rintro e w' ⟨rfl, rfl⟩
        go_wp2_with (at_lookup; refine wpList_lookU _ rfl (.tmp 22) (.tmp 23) rfl mb m f rfl h.mp c rfl hc ?_)
        refine (add_any _ _ _ uf uv).mono ?_
        rintro e w' ⟨rfl, rfl⟩
        go_wp2_with fail
        refine (take_is h.acc c 1 (aFree n xs c 1) 0 _ uv HE.out rfl).mono ?_
        rintro e w1 ⟨rfl, ha, hc1⟩
        have hd1 := h.hd.chg hc1 (by simp; omega)
        have hm1 := h.mp.chg hc1 (by simp; omega)
        have q1 := hd1.at (i := 1) rfl
        go_wp2_with (at_mapUpdate; refine wpList_putU _ rfl (.tmp 44) (.tmp 45) (.tmp 46) rfl mb m f rfl hm1 (by omega) c _ rfl rfl hc (cAdd_U uf uv) ?_)
        intro w2 hm2 hc2
        go_wp2_with fail
        go_ret
        have ho : ok = true := by rw [HO.out, hb, HE.out]; rfl
        refine ⟨ret_int (by rw [HR.out, ho]; rfl), ?_, (hc1.mono (by simp)).trans (hc2.mono (by simp))⟩
        rw [HX.out, HF.out, ho]
        exact ⟨ha.chg hc2 (by simp; omega) (by simp; omega), hd1.chg hc2 (by simp; omega), hm2.mono (by omega), ⟨d1, d2, d3, d4, d5⟩, h.ug⟩
      · have hne : (aTakeE n xs c 1 (aFree n xs c 1) != 0) = true := by simpa using hE
        have HT : Hid (aTake n xs c 1 (aFree n xs c 1) = xs) := by show _ = _; unfold aTake; rw [if_neg hE]
        have HE := Lib.hid hE
        clear hE
        go_enter Tryz.func74, Tryz.ntmps74
        go_wp2_with fail
        refine (free_any h.acc _ _).mono ?_
        rintro e w' ⟨rfl, rfl⟩
        go_wp2_with (at_lookup; refine wpList_lookU _ rfl (.tmp 22) (.tmp 23) rfl mb m f rfl h.mp c rfl hc ?_)
        refine (add_any _ _ _ uf uv).mono ?_
        rintro e w' ⟨rfl, rfl⟩
        go_wp2_with fail
        refine (take_any h.acc c 1 (aFree n xs c 1) uv).mono ?_
        rintro e w1 ⟨rfl, ha, hc1⟩
        go_wp2_with fail
        go_ret
        have ho : ok = false := by rw [HO.out, hb]; simp [HE.out]
        refine ⟨ret_int (by rw [HR.out, ho]; rfl), ?_, hc1.mono (by simp)⟩
        rw [HX.out, HF.out, ho]
        rw [HT.out] at ha
        exact ⟨ha, h.hd.chg hc1 (by simp; omega), (h.mp.chg hc1 (by simp; omega)).mono (by omega), ⟨d1, d2, d3, d4, d5⟩, h.ug⟩

set_option maxHeartbeats 1000000 in
/-- (*Fees).Forfeit. -/
theorem forfeit_any {w : World} {fb mb b s n : Nat} {xs : List Int} {m : Nat} {f : Int → Int} {got : Int} (h : Fee w fb mb b s n xs m f got) (c : Int) (hc : I c) (hm : m + 4 < maxLen) :
    Calls Tryz.prog 77 #[.pointer (some ⟨fb, 0, none⟩), .int .i64 c] w fun e w' => e = .returned (.int .u64 (fV f got c)) ∧ Fee w' fb mb b s n xs (m + 2) (fF f got c) (fGot f got c) ∧ Chg [fb, mb, s] w w' := by
  have k1 := h.hd.at (i := 1) rfl
  have k2 := h.hd.at (i := 2) rfl
  have fr := h.hd.free 2
  obtain ⟨d1, d2, d3, d4, d5⟩ := h.ne
  have uf := h.mp.U hc
  have HR : Hid (fV f got c = if cAddB got (f c) = true then f c else 0) := rfl
  have HG : Hid (fGot f got c = if cAddB got (f c) = true then cAddN got (f c) else got) := rfl
  have HF : Hid (fF f got c = if cAddB got (f c) = true then upd f c 0 else f) := rfl
  generalize fV f got c = R at *
  generalize fGot f got c = G at *
  generalize fF f got c = F at *
  cases hb : cAddB got (f c)
  · go_enter Tryz.func77, Tryz.ntmps77
    go_wp2_with (at_lookup; refine wpList_lookU _ rfl (.tmp 11) (.tmp 12) rfl mb m f rfl h.mp c rfl hc ?_)
    refine (add_any _ _ _ h.ug uf).mono ?_
    rintro e w' ⟨rfl, rfl⟩
    go_wp2_with fail
    go_ret
    exact ⟨ret_int (by rw [HR.out, hb]; rfl), by rw [HG.out, HF.out, hb]; exact h.mono (by omega), Chg.refl _ _⟩
  · have hst := h.hd.set 2 (.int .u64 (cAddN got (f c)))
    have hms : MapU (w.setCell ⟨fb, 2, none⟩ (.int .u64 (cAddN got (f c)))) mb m f := h.mp.chg ((Chg.refl [fb] w).setCell _ _ (by simp)) (by simp; omega)
    have hst1 := hst.at (i := 1) rfl
    go_enter Tryz.func77, Tryz.ntmps77
    go_wp2_with (first | (at_lookup; refine wpList_lookU _ rfl (.tmp 11) (.tmp 12) rfl mb m f rfl h.mp c rfl hc ?_) | (go_at_call 125; refine (add_any _ _ _ h.ug uf).mono ?_; rintro e w' ⟨rfl, rfl⟩) | (at_mapUpdate; refine wpList_putU _ rfl (.tmp 32) (.tmp 33) (.const (.int .u64 0)) rfl mb m f rfl hms ?_ c 0 rfl rfl hc ?_ ?_))
    · omega
    · simp [U]
    intro w2 hm2 hc2
    go_wp2_with fail
    go_ret
    have hc1 : Chg [fb, mb, s] w (w.setCell ⟨fb, 2, none⟩ (.int .u64 (cAddN got (f c)))) := (Chg.refl _ _).setCell _ _ (by simp)
    have ha := h.acc.chg ((Chg.refl [fb] w).setCell ⟨fb, 2, none⟩ (.int .u64 (cAddN got (f c))) (by simp)) (by simp; omega) (by simp; omega)
    refine ⟨ret_int (by rw [HR.out, hb]; rfl), ?_, hc1.trans (hc2.mono (by simp))⟩
    rw [HG.out, HF.out, hb]
    exact ⟨ha.chg hc2 (by simp; omega) (by simp; omega), hst.chg hc2 (by simp; omega), hm2.mono (by omega), ⟨d1, d2, d3, d4, d5⟩, cAdd_U h.ug uf⟩
end Go.Proofs.YteabcpmpcbjicaaGreat

namespace Go.Proofs.YteabcpmpcbjicaaGreat
set_option linter.unusedVariables false
open Go Go.Proofs Go.RowKit Go.Maps

set_option maxHeartbeats 2000000 in
/-- (*Fees).Settle. -/
theorem settle_any {w : World} {fb mb b s n : Nat} {xs : List Int} {m : Nat} {f : Int → Int} {got : Int} (h : Fee w fb mb b s n xs m f got) (c fee : Int) (hc : I c) (hf : U fee) (hm : m + 4 < maxLen) :
    Calls Tryz.prog 76 #[.pointer (some ⟨fb, 0, none⟩), .int .i64 c, .int .u64 fee] w fun e w' => e = .returned (.int .u64 (sV f got c fee)) ∧ Fee w' fb mb b s n (sX n xs f got c fee) (m + 2) (sF n xs f got c fee) (sGot f got c fee) ∧ Chg [fb, mb, s] w w' := by
  have k0 := h.hd.at (i := 0) rfl
  have k1 := h.hd.at (i := 1) rfl
  have k2 := h.hd.at (i := 2) rfl
  have fr := h.hd.free 2
  obtain ⟨d1, d2, d3, d4, d5⟩ := h.ne
  have uf := h.mp.U hc
  have uv := min_U hf uf
  have HR : Hid (sV f got c fee = if cAddB got (min fee (f c)) = true then min fee (f c) else 0) := rfl
  have HG : Hid (sGot f got c fee = if cAddB got (min fee (f c)) = true then cAddN got (min fee (f c)) else got) := rfl
  have HB : Hid (sBack f got c fee = f c - sV f got c fee) := rfl
  have HX : Hid (sX n xs f got c fee = aPut n xs c 1 (sBack f got c fee)) := rfl
  have HF : Hid (sF n xs f got c fee = if aPutE n xs c 1 (sBack f got c fee) = 0 then upd (upd f c (sBack f got c fee)) c 0 else upd f c (sBack f got c fee)) := rfl
  generalize sF n xs f got c fee = F at *
  generalize sX n xs f got c fee = X at *
  generalize sBack f got c fee = bk at *
  generalize sGot f got c fee = G at *
  generalize sV f got c fee = R at *
  obtain ⟨H, hH⟩ : ∃ H, H = f c := ⟨_, rfl⟩
  rw [← hH] at uf uv HR HG HB
  have HH := Lib.hid hH
  clear hH
  have v0 : Hid (min fee H ≤ H ∧ 0 ≤ min fee H) := by
    have := uf.1; have := hf.1
    exact ⟨by omega, by omega⟩
  have V : Hid (∃ v, v = min fee H) := ⟨_, rfl⟩
  obtain ⟨v, hv⟩ := V.out
  rw [← hv] at uv HR HG v0
  have HVV := Lib.hid hv
  clear hv
  have ug := h.ug
  have U0 := uf.1
  have U1 := uf.2
  by_cases hmin : fee ≤ H
  · obtain rfl : v = fee := by rw [HVV.out]; omega
    cases hb : cAddB got v
    · have er : R = 0 := by rw [HR.out, hb]; rfl
      have eg : G = got := by rw [HG.out, hb]; rfl
      have eb : bk = H := by rw [HB.out, er]; omega
      have ub : U H := by have := v0.out.1; have := v0.out.2; exact ⟨by omega, by omega⟩
      have ebw : Hid (IntKind.u64.wrap H = H) := by show _ = _; rw [IntKind.wrap_u64]; have := ub.1; have := ub.2; omega
      have ugv : U got := ug
      have ER := Lib.hid er
      have EG := Lib.hid eg
      have EB := Lib.hid eb
      clear er eg eb
      have hst := h.hd.set 2 (.int .u64 got)
      have hc1 : Chg [fb, mb, s] w (w.setCell ⟨fb, 2, none⟩ (.int .u64 got)) := (Chg.refl _ _).setCell _ _ (by simp)
      have hms : MapU (w.setCell ⟨fb, 2, none⟩ (.int .u64 got)) mb m f := h.mp.chg ((Chg.refl [fb] w).setCell _ _ (by simp)) (by simp; omega)
      have hst1 := hst.at (i := 1) rfl
      have hac := h.acc.chg ((Chg.refl [fb] w).setCell ⟨fb, 2, none⟩ (.int .u64 got) (by simp)) (by simp; omega) (by simp; omega)
      go_enter Tryz.func76, Tryz.ntmps76
      go_wp2_with (first | (at_lookup; refine wpList_lookU _ rfl (.tmp 14) (.tmp 15) rfl mb m f rfl h.mp c rfl hc ?_; rw [← HH.out]) | (go_at_call 125; refine (add_any _ _ _ ug uv).mono ?_; rintro e w' ⟨rfl, rfl⟩) | (at_mapUpdate; refine wpList_putU _ rfl (.tmp 42) (.tmp 43) (.tmp 46) rfl mb m f rfl hms ?_ c H rfl ?_ hc ub ?_))
      · omega
      · first | rfl | exact vint ebw.out
      intro w2 hm2 hc2
      have hc2' : Chg [fb, mb, s] w w2 := hc1.trans (hc2.mono (by simp))
      have hd2 := hst.chg hc2 (by simp; omega)
      have ha2 := hac.chg hc2 (by simp; omega) (by simp; omega)
      have x0 := hd2.at (i := 0) rfl
      by_cases hE : aPutE n xs c 1 H = 0
      · have HE := Lib.hid hE
        clear hE
        go_wp2_with fail
        try rw [ebw.out]
        refine (put_is ha2 c 1 H 0 _ ub HE.out rfl).mono ?_
        rintro e w3 ⟨rfl, ha3, hc3⟩
        have hd3 := hd2.chg hc3 (by simp; omega)
        have hm3 := hm2.chg hc3 (by simp; omega)
        have y1 := hd3.at (i := 1) rfl
        go_wp2_with (at_mapUpdate; refine wpList_putU _ rfl (.tmp 60) (.tmp 61) (.const (.int .u64 0)) rfl mb (m + 1) (upd f c H) rfl hm3 ?_ c 0 rfl rfl hc ?_ ?_)
        · omega
        · simp [U]
        intro w4 hm4 hc4
        go_wp2_with fail
        go_ret
        refine ⟨ret_int (by rw [ER.out]), ?_, (hc2'.trans (hc3.mono (by simp))).trans (hc4.mono (by simp))⟩
        rw [HX.out, HF.out, EG.out, EB.out, if_pos HE.out]
        exact ⟨ha3.chg hc4 (by simp; omega) (by simp; omega), hd3.chg hc4 (by simp; omega), hm4, ⟨d1, d2, d3, d4, d5⟩, ugv⟩
      · have hne : (aPutE n xs c 1 H == 0) = false := by simpa using hE
        have HE := Lib.hid hE
        clear hE
        go_wp2_with fail
        try rw [ebw.out]
        refine (put_any ha2 c 1 H ub).mono ?_
        rintro e w3 ⟨rfl, ha3, hc3⟩
        go_wp2_with fail
        go_ret
        refine ⟨ret_int (by rw [ER.out]), ?_, hc2'.trans (hc3.mono (by simp))⟩
        rw [HX.out, HF.out, EG.out, EB.out, if_neg HE.out]
        exact ⟨ha3, hd2.chg hc3 (by simp; omega), (hm2.chg hc3 (by simp; omega)).mono (by omega), ⟨d1, d2, d3, d4, d5⟩, ugv⟩
    · have er : R = v := by rw [HR.out, hb]; rfl
      have eg : G = (cAddN got v) := by rw [HG.out, hb]; rfl
      have eb : bk = (H - v) := by rw [HB.out, er]
      have ub : U (H - v) := by have := v0.out.1; have := v0.out.2; exact ⟨by omega, by omega⟩
      have ebw : Hid (IntKind.u64.wrap (H - v) = (H - v)) := by show _ = _; rw [IntKind.wrap_u64]; have := ub.1; have := ub.2; omega
      have ugv : U (cAddN got v) := cAdd_U ug uv
      have ER := Lib.hid er
      have EG := Lib.hid eg
      have EB := Lib.hid eb
      clear er eg eb
      have hst := h.hd.set 2 (.int .u64 (cAddN got v))
      have hc1 : Chg [fb, mb, s] w (w.setCell ⟨fb, 2, none⟩ (.int .u64 (cAddN got v))) := (Chg.refl _ _).setCell _ _ (by simp)
      have hms : MapU (w.setCell ⟨fb, 2, none⟩ (.int .u64 (cAddN got v))) mb m f := h.mp.chg ((Chg.refl [fb] w).setCell _ _ (by simp)) (by simp; omega)
      have hst1 := hst.at (i := 1) rfl
      have hac := h.acc.chg ((Chg.refl [fb] w).setCell ⟨fb, 2, none⟩ (.int .u64 (cAddN got v)) (by simp)) (by simp; omega) (by simp; omega)
      go_enter Tryz.func76, Tryz.ntmps76
      go_wp2_with (first | (at_lookup; refine wpList_lookU _ rfl (.tmp 14) (.tmp 15) rfl mb m f rfl h.mp c rfl hc ?_; rw [← HH.out]) | (go_at_call 125; refine (add_any _ _ _ ug uv).mono ?_; rintro e w' ⟨rfl, rfl⟩) | (at_mapUpdate; refine wpList_putU _ rfl (.tmp 42) (.tmp 43) (.tmp 46) rfl mb m f rfl hms ?_ c (H - v) rfl ?_ hc ub ?_))
      · omega
      · first | rfl | exact vint ebw.out
      intro w2 hm2 hc2
      have hc2' : Chg [fb, mb, s] w w2 := hc1.trans (hc2.mono (by simp))
      have hd2 := hst.chg hc2 (by simp; omega)
      have ha2 := hac.chg hc2 (by simp; omega) (by simp; omega)
      have x0 := hd2.at (i := 0) rfl
      by_cases hE : aPutE n xs c 1 (H - v) = 0
      · have HE := Lib.hid hE
        clear hE
        go_wp2_with fail
        try rw [ebw.out]
        refine (put_is ha2 c 1 (H - v) 0 _ ub HE.out rfl).mono ?_
        rintro e w3 ⟨rfl, ha3, hc3⟩
        have hd3 := hd2.chg hc3 (by simp; omega)
        have hm3 := hm2.chg hc3 (by simp; omega)
        have y1 := hd3.at (i := 1) rfl
        go_wp2_with (at_mapUpdate; refine wpList_putU _ rfl (.tmp 60) (.tmp 61) (.const (.int .u64 0)) rfl mb (m + 1) (upd f c (H - v)) rfl hm3 ?_ c 0 rfl rfl hc ?_ ?_)
        · omega
        · simp [U]
        intro w4 hm4 hc4
        go_wp2_with fail
        go_ret
        refine ⟨ret_int (by rw [ER.out]), ?_, (hc2'.trans (hc3.mono (by simp))).trans (hc4.mono (by simp))⟩
        rw [HX.out, HF.out, EG.out, EB.out, if_pos HE.out]
        exact ⟨ha3.chg hc4 (by simp; omega) (by simp; omega), hd3.chg hc4 (by simp; omega), hm4, ⟨d1, d2, d3, d4, d5⟩, ugv⟩
      · have hne : (aPutE n xs c 1 (H - v) == 0) = false := by simpa using hE
        have HE := Lib.hid hE
        clear hE
        go_wp2_with fail
        try rw [ebw.out]
        refine (put_any ha2 c 1 (H - v) ub).mono ?_
        rintro e w3 ⟨rfl, ha3, hc3⟩
        go_wp2_with fail
        go_ret
        refine ⟨ret_int (by rw [ER.out]), ?_, hc2'.trans (hc3.mono (by simp))⟩
        rw [HX.out, HF.out, EG.out, EB.out, if_neg HE.out]
        exact ⟨ha3, hd2.chg hc3 (by simp; omega), (hm2.chg hc3 (by simp; omega)).mono (by omega), ⟨d1, d2, d3, d4, d5⟩, ugv⟩
  · obtain rfl : v = H := by rw [HVV.out]; omega
    cases hb : cAddB got v
    · have er : R = 0 := by rw [HR.out, hb]; rfl
      have eg : G = got := by rw [HG.out, hb]; rfl
      have eb : bk = v := by rw [HB.out, er]; omega
      have ub : U v := by have := v0.out.1; have := v0.out.2; exact ⟨by omega, by omega⟩
      have ebw : Hid (IntKind.u64.wrap v = v) := by show _ = _; rw [IntKind.wrap_u64]; have := ub.1; have := ub.2; omega
      have ugv : U got := ug
      have ER := Lib.hid er
      have EG := Lib.hid eg
      have EB := Lib.hid eb
      clear er eg eb
      have hst := h.hd.set 2 (.int .u64 got)
      have hc1 : Chg [fb, mb, s] w (w.setCell ⟨fb, 2, none⟩ (.int .u64 got)) := (Chg.refl _ _).setCell _ _ (by simp)
      have hms : MapU (w.setCell ⟨fb, 2, none⟩ (.int .u64 got)) mb m f := h.mp.chg ((Chg.refl [fb] w).setCell _ _ (by simp)) (by simp; omega)
      have hst1 := hst.at (i := 1) rfl
      have hac := h.acc.chg ((Chg.refl [fb] w).setCell ⟨fb, 2, none⟩ (.int .u64 got) (by simp)) (by simp; omega) (by simp; omega)
      go_enter Tryz.func76, Tryz.ntmps76
      go_wp2_with (first | (at_lookup; refine wpList_lookU _ rfl (.tmp 14) (.tmp 15) rfl mb m f rfl h.mp c rfl hc ?_; rw [← HH.out]) | (go_at_call 125; refine (add_any _ _ _ ug uv).mono ?_; rintro e w' ⟨rfl, rfl⟩) | (at_mapUpdate; refine wpList_putU _ rfl (.tmp 42) (.tmp 43) (.tmp 46) rfl mb m f rfl hms ?_ c v rfl ?_ hc ub ?_))
      · omega
      · first | rfl | exact vint ebw.out
      intro w2 hm2 hc2
      have hc2' : Chg [fb, mb, s] w w2 := hc1.trans (hc2.mono (by simp))
      have hd2 := hst.chg hc2 (by simp; omega)
      have ha2 := hac.chg hc2 (by simp; omega) (by simp; omega)
      have x0 := hd2.at (i := 0) rfl
      by_cases hE : aPutE n xs c 1 v = 0
      · have HE := Lib.hid hE
        clear hE
        go_wp2_with fail
        try rw [ebw.out]
        refine (put_is ha2 c 1 v 0 _ ub HE.out rfl).mono ?_
        rintro e w3 ⟨rfl, ha3, hc3⟩
        have hd3 := hd2.chg hc3 (by simp; omega)
        have hm3 := hm2.chg hc3 (by simp; omega)
        have y1 := hd3.at (i := 1) rfl
        go_wp2_with (at_mapUpdate; refine wpList_putU _ rfl (.tmp 60) (.tmp 61) (.const (.int .u64 0)) rfl mb (m + 1) (upd f c v) rfl hm3 ?_ c 0 rfl rfl hc ?_ ?_)
        · omega
        · simp [U]
        intro w4 hm4 hc4
        go_wp2_with fail
        go_ret
        refine ⟨ret_int (by rw [ER.out]), ?_, (hc2'.trans (hc3.mono (by simp))).trans (hc4.mono (by simp))⟩
        rw [HX.out, HF.out, EG.out, EB.out, if_pos HE.out]
        exact ⟨ha3.chg hc4 (by simp; omega) (by simp; omega), hd3.chg hc4 (by simp; omega), hm4, ⟨d1, d2, d3, d4, d5⟩, ugv⟩
      · have hne : (aPutE n xs c 1 v == 0) = false := by simpa using hE
        have HE := Lib.hid hE
        clear hE
        go_wp2_with fail
        try rw [ebw.out]
        refine (put_any ha2 c 1 v ub).mono ?_
        rintro e w3 ⟨rfl, ha3, hc3⟩
        go_wp2_with fail
        go_ret
        refine ⟨ret_int (by rw [ER.out]), ?_, hc2'.trans (hc3.mono (by simp))⟩
        rw [HX.out, HF.out, EG.out, EB.out, if_neg HE.out]
        exact ⟨ha3, hd2.chg hc3 (by simp; omega), (hm2.chg hc3 (by simp; omega)).mono (by omega), ⟨d1, d2, d3, d4, d5⟩, ugv⟩
    · have er : R = v := by rw [HR.out, hb]; rfl
      have eg : G = (cAddN got v) := by rw [HG.out, hb]; rfl
      have eb : bk = 0 := by rw [HB.out, er]; omega
      have ub : U 0 := by have := v0.out.1; have := v0.out.2; exact ⟨by omega, by omega⟩
      have ebw : Hid (IntKind.u64.wrap 0 = 0) := by show _ = _; rw [IntKind.wrap_u64]; have := ub.1; have := ub.2; omega
      have ugv : U (cAddN got v) := cAdd_U ug uv
      have ER := Lib.hid er
      have EG := Lib.hid eg
      have EB := Lib.hid eb
      clear er eg eb
      have hst := h.hd.set 2 (.int .u64 (cAddN got v))
      have hc1 : Chg [fb, mb, s] w (w.setCell ⟨fb, 2, none⟩ (.int .u64 (cAddN got v))) := (Chg.refl _ _).setCell _ _ (by simp)
      have hms : MapU (w.setCell ⟨fb, 2, none⟩ (.int .u64 (cAddN got v))) mb m f := h.mp.chg ((Chg.refl [fb] w).setCell _ _ (by simp)) (by simp; omega)
      have hst1 := hst.at (i := 1) rfl
      have hac := h.acc.chg ((Chg.refl [fb] w).setCell ⟨fb, 2, none⟩ (.int .u64 (cAddN got v)) (by simp)) (by simp; omega) (by simp; omega)
      go_enter Tryz.func76, Tryz.ntmps76
      go_wp2_with (first | (at_lookup; refine wpList_lookU _ rfl (.tmp 14) (.tmp 15) rfl mb m f rfl h.mp c rfl hc ?_; rw [← HH.out]) | (go_at_call 125; refine (add_any _ _ _ ug uv).mono ?_; rintro e w' ⟨rfl, rfl⟩) | (at_mapUpdate; refine wpList_putU _ rfl (.tmp 42) (.tmp 43) (.tmp 46) rfl mb m f rfl hms ?_ c 0 rfl ?_ hc ub ?_))
      · omega
      · first | rfl | exact vint ebw.out
      intro w2 hm2 hc2
      have hc2' : Chg [fb, mb, s] w w2 := hc1.trans (hc2.mono (by simp))
      have hd2 := hst.chg hc2 (by simp; omega)
      have ha2 := hac.chg hc2 (by simp; omega) (by simp; omega)
      have x0 := hd2.at (i := 0) rfl
      by_cases hE : aPutE n xs c 1 0 = 0
      · have HE := Lib.hid hE
        clear hE
        go_wp2_with fail
        try rw [ebw.out]
        refine (put_is ha2 c 1 0 0 _ ub HE.out rfl).mono ?_
        rintro e w3 ⟨rfl, ha3, hc3⟩
        have hd3 := hd2.chg hc3 (by simp; omega)
        have hm3 := hm2.chg hc3 (by simp; omega)
        have y1 := hd3.at (i := 1) rfl
        go_wp2_with (at_mapUpdate; refine wpList_putU _ rfl (.tmp 60) (.tmp 61) (.const (.int .u64 0)) rfl mb (m + 1) (upd f c 0) rfl hm3 ?_ c 0 rfl rfl hc ?_ ?_)
        · omega
        · simp [U]
        intro w4 hm4 hc4
        go_wp2_with fail
        go_ret
        refine ⟨ret_int (by rw [ER.out]), ?_, (hc2'.trans (hc3.mono (by simp))).trans (hc4.mono (by simp))⟩
        rw [HX.out, HF.out, EG.out, EB.out, if_pos HE.out]
        exact ⟨ha3.chg hc4 (by simp; omega) (by simp; omega), hd3.chg hc4 (by simp; omega), hm4, ⟨d1, d2, d3, d4, d5⟩, ugv⟩
      · have hne : (aPutE n xs c 1 0 == 0) = false := by simpa using hE
        have HE := Lib.hid hE
        clear hE
        go_wp2_with fail
        try rw [ebw.out]
        refine (put_any ha2 c 1 0 ub).mono ?_
        rintro e w3 ⟨rfl, ha3, hc3⟩
        go_wp2_with fail
        go_ret
        refine ⟨ret_int (by rw [ER.out]), ?_, hc2'.trans (hc3.mono (by simp))⟩
        rw [HX.out, HF.out, EG.out, EB.out, if_neg HE.out]
        exact ⟨ha3, hd2.chg hc3 (by simp; omega), (hm2.chg hc3 (by simp; omega)).mono (by omega), ⟨d1, d2, d3, d4, d5⟩, ugv⟩
end Go.Proofs.YteabcpmpcbjicaaGreat

namespace Go.Proofs.YteabcpmpcbjicaaGreat
set_option linter.unusedVariables false
open Go Go.Proofs Go.RowKit Go.Maps

theorem hold_is {w : World} {fb mb b s n : Nat} {xs : List Int} {m : Nat} {f : Int → Int} {got : Int} (h : Fee w fb mb b s n xs m f got) (c fee : Int) (r : Int) (X : List Int) (F : Int → Int) (hc : I c) (hf : U fee) (hm : m + 4 < maxLen) (h1 : hHold n xs f c fee = r) (h2 : hHoldX n xs f c fee = X) (h3 : hHoldF n xs f c fee = F) :
    Calls Tryz.prog 74 #[.pointer (some ⟨fb, 0, none⟩), .int .i64 c, .int .u64 fee] w fun e w' => e = .returned (.int .u64 r) ∧ Fee w' fb mb b s n X (m + 2) F got ∧ Chg [fb, mb, s] w w' := by
  subst h1; subst h2; subst h3; exact hold_any h c fee hc hf hm
theorem settle_is {w : World} {fb mb b s n : Nat} {xs : List Int} {m : Nat} {f : Int → Int} {got : Int} (h : Fee w fb mb b s n xs m f got) (c fee : Int) (r g : Int) (X : List Int) (F : Int → Int) (hc : I c) (hf : U fee) (hm : m + 4 < maxLen) (h1 : sV f got c fee = r) (h2 : sX n xs f got c fee = X) (h3 : sF n xs f got c fee = F) (h4 : sGot f got c fee = g) :
    Calls Tryz.prog 76 #[.pointer (some ⟨fb, 0, none⟩), .int .i64 c, .int .u64 fee] w fun e w' => e = .returned (.int .u64 r) ∧ Fee w' fb mb b s n X (m + 2) F g ∧ Chg [fb, mb, s] w w' := by
  subst h1; subst h2; subst h3; subst h4; exact settle_any h c fee hc hf hm
theorem forfeit_is {w : World} {fb mb b s n : Nat} {xs : List Int} {m : Nat} {f : Int → Int} {got : Int} (h : Fee w fb mb b s n xs m f got) (c : Int) (r g : Int) (F : Int → Int) (hc : I c) (hm : m + 4 < maxLen) (h1 : fV f got c = r) (h3 : fF f got c = F) (h4 : fGot f got c = g) :
    Calls Tryz.prog 77 #[.pointer (some ⟨fb, 0, none⟩), .int .i64 c] w fun e w' => e = .returned (.int .u64 r) ∧ Fee w' fb mb b s n xs (m + 2) F g ∧ Chg [fb, mb, s] w w' := by
  subst h1; subst h3; subst h4; exact forfeit_any h c hc hm
theorem Fee.lo {w w' : World} {fb mb b s : Nat} {S : List Nat} (hc : Chg [] w w') : True := trivial

end Go.Proofs.YteabcpmpcbjicaaGreat
