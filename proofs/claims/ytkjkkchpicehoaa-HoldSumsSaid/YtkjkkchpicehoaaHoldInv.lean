import Derived.Test.YtkjkkchpicehoaaHold
namespace Go.Proofs.Ytkjkkchpicehoaa
set_option linter.unusedVariables false
open Go Go.Proofs Go.RowKit Go.Maps

def g1 (xs : List Int) (k : Int) : Int := aGet xs k 1
theorem g1_set {n : Nat} {xs : List Int} (h : AOk n xs) {f k : Int} (hf : 0 ≤ f ∧ f < n) (hk : 0 ≤ k ∧ k < n) (v : Int) : g1 (xs.set (aAt f 1) v) k = if k = f then v else g1 xs k := by
  have hl := h.len
  unfold g1 aGet aAt
  simp only [List.getD, List.getElem?_set]
  by_cases e : k = f
  · subst e
    have : k.toNat * 2 + (1 : Int).toNat < xs.length := by simp; omega
    simp at this
    simp [this]
  · rw [if_neg e, if_neg (by simp; omega)]
theorem aErr31 {k : Int} (h : 0 ≤ k ∧ k < 3) : aErr 3 k 1 = 0 := by
  unfold aErr; rw [if_pos (by unfold aHas; simp; omega), if_pos (by unfold aAsset; simp)]
theorem aErr33 : aErr 3 3 1 = 2 := by decide

/-- What the clients' Quote, what is held of them and what was got come to. -/
structure Inv (S : Int) (xs : List Int) (f : Int → Int) (got : Int) : Prop where
  ok : AOk 3 xs
  sm : S < 4611686018427387904
  gt : 0 ≤ got
  f0 : 0 ≤ f 0
  f1 : 0 ≤ f 1
  f2 : 0 ≤ f 2
  f3 : f 3 = 0
  sum : got + f 0 + f 1 + f 2 + g1 xs 0 + g1 xs 1 + g1 xs 2 = S

theorem Inv.nn {S : Int} {xs : List Int} {f : Int → Int} {got : Int} (h : Inv S xs f got) (k : Int) : 0 ≤ g1 xs k := (h.ok.get k 1).1
theorem c4 {c : Int} (hc : 0 ≤ c ∧ c < 4) : c = 0 ∨ c = 1 ∨ c = 2 ∨ c = 3 := by omega
theorem Inv.fc {S : Int} {xs : List Int} {f : Int → Int} {got : Int} (h : Inv S xs f got) {c : Int} (hc : 0 ≤ c ∧ c < 4) : 0 ≤ f c ∧ got + f c ≤ S ∧ f c < 4611686018427387904 := by
  have := h.nn 0; have := h.nn 1; have := h.nn 2
  have := h.sm; have := h.gt; have := h.f0; have := h.f1; have := h.f2; have := h.f3; have := h.sum
  rcases c4 hc with rfl | rfl | rfl | rfl <;> refine ⟨?_, ?_, ?_⟩ <;> omega
theorem Inv.free {S : Int} {xs : List Int} {f : Int → Int} {got : Int} (h : Inv S xs f got) {c : Int} (hc : 0 ≤ c ∧ c < 4) : aFree 3 xs c 1 = if c = 3 then 0 else g1 xs c := by
  unfold aFree
  by_cases e : c = 3
  · subst e; rw [if_pos rfl, if_neg (by decide)]
  · rw [if_neg e, if_pos (aErr31 (by omega))]; rfl

theorem Inv.hold {S : Int} {xs : List Int} {f : Int → Int} {got : Int} (h : Inv S xs f got) {c fee : Int} (hc : 0 ≤ c ∧ c < 4) (hf : U fee) :
    hHold 3 xs f c fee = min fee (aFree 3 xs c 1) ∧ Inv S (hHoldX 3 xs f c fee) (hHoldF 3 xs f c fee) got ∧ hHoldF 3 xs f c fee c = f c + min fee (aFree 3 xs c 1) ∧ aFree 3 (hHoldX 3 xs f c fee) c 1 = aFree 3 xs c 1 - min fee (aFree 3 xs c 1) := by
  have n0 := h.nn 0; have n1 := h.nn 1; have n2 := h.nn 2
  have h1 := h.sm; have h2 := h.gt; have h3 := h.f0; have h4 := h.f1; have h5 := h.f2; have h6 := h.f3; have h7 := h.sum
  have hfr := h.free hc
  have hfee := hf.1
  by_cases e : c = 3
  · subst e
    rw [if_pos rfl] at hfr
    have hv : hV 3 xs 3 fee = 0 := by unfold hV; rw [hfr]; omega
    have ht : aTakeE 3 xs 3 1 0 = 2 := by unfold aTakeE; rw [aErr33]; rfl
    have ho : hOk 3 xs f 3 fee = false := by unfold hOk; rw [hv, ht]; simp
    have m0 : min fee 0 = 0 := by omega
    have x1 : hHoldX 3 xs f 3 fee = xs := by unfold hHoldX; rw [ho]; rfl
    have x2 : hHoldF 3 xs f 3 fee = f := by unfold hHoldF; rw [ho]; rfl
    rw [x1, x2, hfr, m0]
    exact ⟨by unfold hHold; rw [ho]; rfl, h, by omega, by omega⟩
  · have hc3 : 0 ≤ c ∧ c < 3 := by omega
    rw [if_neg e] at hfr
    have gc : g1 xs c ≤ S ∧ f c + g1 xs c ≤ S := by rcases c4 hc with rfl | rfl | rfl | rfl <;> refine ⟨?_, ?_⟩ <;> omega
    have nc := h.nn c
    have fc := h.fc hc
    rw [hfr]
    obtain ⟨v, hv⟩ : ∃ v, v = min fee (g1 xs c) := ⟨_, rfl⟩
    rw [← hv]
    have hvv : hV 3 xs c fee = v := by unfold hV; rw [hfr, hv]
    have b1 : cAddB (f c) v = true := by unfold cAddB; simp; omega
    have a1 : cAddN (f c) v = f c + v := by unfold cAddN; rw [if_pos (by omega)]
    have b2 : cSubB (g1 xs c) v = true := by unfold cSubB; simp; omega
    have a2 : cSubN (g1 xs c) v = g1 xs c - v := by unfold cSubN; rw [if_pos (by omega)]
    have ht : aTakeE 3 xs c 1 v = 0 := by unfold aTakeE; rw [if_pos (aErr31 hc3)]; show (if cSubB (g1 xs c) v = true then _ else _) = _; rw [if_pos b2]
    have ho : hOk 3 xs f c fee = true := by unfold hOk; rw [hvv, b1, ht]; rfl
    have hx : hHoldX 3 xs f c fee = xs.set (aAt c 1) (g1 xs c - v) := by
      unfold hHoldX aTake; rw [if_pos ho, hvv, if_pos ht]; show xs.set _ (cSubN (g1 xs c) v) = _; rw [a2]
    have hF : hHoldF 3 xs f c fee = upd f c (f c + v) := by unfold hHoldF; rw [if_pos ho, hvv, a1]
    have hok : AOk 3 (xs.set (aAt c 1) (g1 xs c - v)) := h.ok.set _ ⟨by omega, by omega⟩
    have q0 := g1_set h.ok (f := c) (k := 0) hc3 (by omega) (g1 xs c - v)
    have q1 := g1_set h.ok (f := c) (k := 1) hc3 (by omega) (g1 xs c - v)
    have q2 := g1_set h.ok (f := c) (k := 2) hc3 (by omega) (g1 xs c - v)
    have qc := g1_set h.ok (f := c) (k := c) hc3 (by omega) (g1 xs c - v)
    rw [if_pos rfl] at qc
    have hI : Inv S (xs.set (aAt c 1) (g1 xs c - v)) (upd f c (f c + v)) got := by
      unfold upd
      rcases c4 hc with rfl | rfl | rfl | rfl
      · exact ⟨hok, h1, h2, by simp; omega, by simpa using h4, by simpa using h5, by simpa using h6, by rw [q0, q1, q2]; simp; omega⟩
      · exact ⟨hok, h1, h2, by simpa using h3, by simp; omega, by simpa using h5, by simpa using h6, by rw [q0, q1, q2]; simp; omega⟩
      · exact ⟨hok, h1, h2, by simpa using h3, by simpa using h4, by simp; omega, by simpa using h6, by rw [q0, q1, q2]; simp; omega⟩
      · omega
    rw [hx, hF]
    refine ⟨by unfold hHold; rw [if_pos ho, hvv], hI, by rw [upd_same], ?_⟩
    rw [hI.free hc, if_neg e, qc]

theorem Inv.settle {S : Int} {xs : List Int} {f : Int → Int} {got : Int} (h : Inv S xs f got) {c fee : Int} (hc : 0 ≤ c ∧ c < 4) (hf : U fee) :
    sV f got c fee = min fee (f c) ∧ Inv S (sX 3 xs f got c fee) (sF 3 xs f got c fee) (sGot f got c fee) ∧ sF 3 xs f got c fee c = 0 ∧ sGot f got c fee = got + min fee (f c) := by
  have n0 := h.nn 0; have n1 := h.nn 1; have n2 := h.nn 2
  have h1 := h.sm; have h2 := h.gt; have h3 := h.f0; have h4 := h.f1; have h5 := h.f2; have h6 := h.f3; have h7 := h.sum
  have hfee := hf.1
  have fc := h.fc hc
  have b1 : cAddB got (min fee (f c)) = true := by unfold cAddB; simp; omega
  have a1 : cAddN got (min fee (f c)) = got + min fee (f c) := by unfold cAddN; rw [if_pos (by omega)]
  have e1 : sV f got c fee = min fee (f c) := by unfold sV; rw [if_pos b1]
  have e2 : sGot f got c fee = got + min fee (f c) := by unfold sGot; rw [if_pos b1, a1]
  obtain ⟨bk, hbk⟩ : ∃ bk, bk = f c - min fee (f c) := ⟨_, rfl⟩
  have e3 : sBack f got c fee = bk := by unfold sBack; rw [e1, hbk]
  rw [e1, e2]
  by_cases e : c = 3
  · subst e
    have hb0 : bk = 0 := by omega
    subst hb0
    have hE : aPutE 3 xs 3 1 0 = 2 := by unfold aPutE; rw [aErr33]; rfl
    have hx : sX 3 xs f got 3 fee = xs := by unfold sX aPut; rw [e3, hE]; rfl
    have hF : sF 3 xs f got 3 fee = upd f 3 0 := by unfold sF; rw [e3, hE, if_neg (by decide)]
    rw [hx, hF]
    refine ⟨rfl, ⟨h.ok, h1, by omega, ?_, ?_, ?_, upd_same _ _ _, ?_⟩, upd_same _ _ _, rfl⟩ <;> simp [upd] <;> omega
  · have hc3 : 0 ≤ c ∧ c < 3 := by omega
    have nc := h.nn c
    have gc : f c + g1 xs c ≤ S := by rcases c4 hc with rfl | rfl | rfl | rfl <;> omega
    have b2 : cAddB (g1 xs c) bk = true := by unfold cAddB; simp; omega
    have a2 : cAddN (g1 xs c) bk = g1 xs c + bk := by unfold cAddN; rw [if_pos (by omega)]
    have hE : aPutE 3 xs c 1 bk = 0 := by unfold aPutE; rw [if_pos (aErr31 hc3)]; show (if cAddB (g1 xs c) bk = true then _ else _) = _; rw [if_pos b2]
    have hx : sX 3 xs f got c fee = xs.set (aAt c 1) (g1 xs c + bk) := by
      unfold sX aPut; rw [e3, if_pos hE]; show xs.set _ (cAddN (g1 xs c) bk) = _; rw [a2]
    have hF : sF 3 xs f got c fee = upd (upd f c bk) c 0 := by unfold sF; rw [e3, if_pos hE]
    have hok : AOk 3 (xs.set (aAt c 1) (g1 xs c + bk)) := h.ok.set _ ⟨by omega, by omega⟩
    have q0 := g1_set h.ok (f := c) (k := 0) hc3 (by omega) (g1 xs c + bk)
    have q1 := g1_set h.ok (f := c) (k := 1) hc3 (by omega) (g1 xs c + bk)
    have q2 := g1_set h.ok (f := c) (k := 2) hc3 (by omega) (g1 xs c + bk)
    rw [hx, hF]
    refine ⟨rfl, ?_, upd_same _ _ _, rfl⟩
    unfold upd
    rcases c4 hc with rfl | rfl | rfl | rfl
    · exact ⟨hok, h1, by omega, by simp, by simpa using h4, by simpa using h5, by simpa using h6, by rw [q0, q1, q2]; simp; omega⟩
    · exact ⟨hok, h1, by omega, by simpa using h3, by simp, by simpa using h5, by simpa using h6, by rw [q0, q1, q2]; simp; omega⟩
    · exact ⟨hok, h1, by omega, by simpa using h3, by simpa using h4, by simp, by simpa using h6, by rw [q0, q1, q2]; simp; omega⟩
    · omega

theorem Inv.forfeit {S : Int} {xs : List Int} {f : Int → Int} {got : Int} (h : Inv S xs f got) {c : Int} (hc : 0 ≤ c ∧ c < 4) :
    fV f got c = f c ∧ Inv S xs (fF f got c) (fGot f got c) ∧ fF f got c c = 0 ∧ fGot f got c = got + f c := by
  have n0 := h.nn 0; have n1 := h.nn 1; have n2 := h.nn 2
  have h1 := h.sm; have h2 := h.gt; have h3 := h.f0; have h4 := h.f1; have h5 := h.f2; have h6 := h.f3; have h7 := h.sum
  have fc := h.fc hc
  have b1 : cAddB got (f c) = true := by unfold cAddB; simp; omega
  have a1 : cAddN got (f c) = got + f c := by unfold cAddN; rw [if_pos (by omega)]
  have e1 : fV f got c = f c := by unfold fV; rw [if_pos b1]
  have e2 : fGot f got c = got + f c := by unfold fGot; rw [if_pos b1, a1]
  have e3 : fF f got c = upd f c 0 := by unfold fF; rw [if_pos b1]
  rw [e1, e2, e3]
  refine ⟨rfl, ?_, upd_same _ _ _, rfl⟩
  unfold upd
  rcases c4 hc with rfl | rfl | rfl | rfl
  · exact ⟨h.ok, h1, by omega, by simp, by simpa using h4, by simpa using h5, by simpa using h6, by simp; omega⟩
  · exact ⟨h.ok, h1, by omega, by simpa using h3, by simp, by simpa using h5, by simpa using h6, by simp; omega⟩
  · exact ⟨h.ok, h1, by omega, by simpa using h3, by simpa using h4, by simp, by simpa using h6, by simp; omega⟩
  · exact ⟨h.ok, h1, by omega, by simpa using h3, by simpa using h4, by simpa using h5, by simp, by simp; omega⟩
end Go.Proofs.Ytkjkkchpicehoaa
