import Derived.Test.YtkjkkchpicehoaaAcct5
import Derived.Test.YtkjkkchpicehoaaShell
import Derived.Deep.QuietTactic
import Derived.BigQuiet
namespace Go.Proofs.Ytkjkkchpicehoaa
set_option linter.unusedVariables false
open Go Go.Proofs Go.RowKit

theorem aGet_set {n : Nat} {xs : List Int} (h : AOk n xs) {f k : Int} (hf : 0 ≤ f ∧ f < n) (hk : 0 ≤ k ∧ k < n) (v : Int) : aGet (xs.set (aAt f 0) v) k 0 = if k = f then v else aGet xs k 0 := by
  have hl := h.len
  unfold aGet aAt
  simp only [List.getD, List.getElem?_set]
  by_cases e : k = f
  · subst e
    have : k.toNat * 2 + (0 : Int).toNat < xs.length := by simp; omega
    simp at this
    simp [this]
  · rw [if_neg e, if_neg (by simp; omega)]
theorem aCol4 (xs : List Int) : isum (aCol 4 xs 0) = aGet xs 0 0 + aGet xs 1 0 + aGet xs 2 0 + aGet xs 3 0 := by
  simp [aCol, List.range, List.range.loop, isum]; omega
theorem aErr4 {k : Nat} (h : k < 4) : aErr 4 k 0 = 0 := by
  unfold aErr; rw [if_pos (by unfold aHas; simp; omega), if_pos (by unfold aAsset; simp)]

/-- One move: what is taken of one and put to another one. -/
theorem move_facts {xs : List Int} (h : AOk 4 xs) {f t : Nat} (hf : f < 4) (ht : t < 4) {v : Int} (hv : U v) (hs : isum (aCol 4 xs 0) < 18446744073709551616) :
    (aFree 4 xs f 0 = aGet xs f 0) ∧ (v ≤ aGet xs f 0 → aTakeE 4 xs f 0 v = 0 ∧ aPutE 4 (aTake 4 xs f 0 v) t 0 v = 0 ∧ isum (aCol 4 (aPut 4 (aTake 4 xs f 0 v) t 0 v) 0) = isum (aCol 4 xs 0)) ∧
      (¬ v ≤ aGet xs f 0 → aTakeE 4 xs f 0 v = 4 ∧ aTake 4 xs f 0 v = xs) := by
  have e0 := aErr4 hf
  have e1 := aErr4 ht
  have g0 := (h.get 0 0).1
  have g1 := (h.get 1 0).1
  have g2 := (h.get 2 0).1
  have g3 := (h.get 3 0).1
  have gf := h.get f 0
  rw [aCol4] at hs
  refine ⟨by unfold aFree; rw [if_pos e0], fun hle => ?_, fun hle => ?_⟩
  · have hb : cSubB (aGet xs f 0) v = true := by unfold cSubB; simpa using hle
    have hE : aTakeE 4 xs f 0 v = 0 := by unfold aTakeE; rw [if_pos e0, if_pos hb]
    have hT : aTake 4 xs f 0 v = xs.set (aAt f 0) (aGet xs f 0 - v) := by unfold aTake; rw [if_pos hE]; unfold cSubN; rw [if_pos hle]
    have ho := h.take f 0 hv
    rw [hT] at ho ⊢
    have hg : aGet (xs.set (aAt f 0) (aGet xs f 0 - v)) t 0 = if (t : Int) = f then aGet xs f 0 - v else aGet xs t 0 := aGet_set h (by omega) (by omega) _
    have hsum : aGet xs f 0 ≤ aGet xs 0 0 + aGet xs 1 0 + aGet xs 2 0 + aGet xs 3 0 ∧ (t ≠ f → aGet xs f 0 + aGet xs t 0 ≤ aGet xs 0 0 + aGet xs 1 0 + aGet xs 2 0 + aGet xs 3 0) := by
      have : (f = 0 ∨ f = 1 ∨ f = 2 ∨ f = 3) ∧ (t = 0 ∨ t = 1 ∨ t = 2 ∨ t = 3) := by omega
      obtain ⟨h1 | h1 | h1 | h1, h2 | h2 | h2 | h2⟩ := this <;> subst h1 <;> subst h2 <;> simp <;> omega
    have hlt : aGet (xs.set (aAt f 0) (aGet xs f 0 - v)) t 0 + v < 18446744073709551616 := by
      rw [hg]; split
      · omega
      · rename_i hne; have := hsum.2 (by omega); omega
    have hb2 : cAddB (aGet (xs.set (aAt f 0) (aGet xs f 0 - v)) t 0) v = true := by unfold cAddB; simpa using hlt
    have hE2 : aPutE 4 (xs.set (aAt f 0) (aGet xs f 0 - v)) t 0 v = 0 := by unfold aPutE; rw [if_pos e1, if_pos hb2]
    refine ⟨hE, hE2, ?_⟩
    unfold aPut
    rw [if_pos hE2]
    unfold cAddN
    rw [if_pos hlt, hg, aCol4, aCol4]
    have s0 := aGet_set ho (f := t) (k := 0) (by omega) (by omega) ((if (t : Int) = f then aGet xs f 0 - v else aGet xs t 0) + v)
    have s1 := aGet_set ho (f := t) (k := 1) (by omega) (by omega) ((if (t : Int) = f then aGet xs f 0 - v else aGet xs t 0) + v)
    have s2 := aGet_set ho (f := t) (k := 2) (by omega) (by omega) ((if (t : Int) = f then aGet xs f 0 - v else aGet xs t 0) + v)
    have s3 := aGet_set ho (f := t) (k := 3) (by omega) (by omega) ((if (t : Int) = f then aGet xs f 0 - v else aGet xs t 0) + v)
    have r0 := aGet_set h (f := f) (k := 0) (by omega) (by omega) (aGet xs f 0 - v)
    have r1 := aGet_set h (f := f) (k := 1) (by omega) (by omega) (aGet xs f 0 - v)
    have r2 := aGet_set h (f := f) (k := 2) (by omega) (by omega) (aGet xs f 0 - v)
    have r3 := aGet_set h (f := f) (k := 3) (by omega) (by omega) (aGet xs f 0 - v)
    rw [s0, s1, s2, s3, r0, r1, r2, r3]
    have : (f = 0 ∨ f = 1 ∨ f = 2 ∨ f = 3) ∧ (t = 0 ∨ t = 1 ∨ t = 2 ∨ t = 3) := by omega
    obtain ⟨h1 | h1 | h1 | h1, h2 | h2 | h2 | h2⟩ := this <;> subst h1 <;> subst h2 <;> simp <;> omega
  · have hb : cSubB (aGet xs f 0) v = false := by unfold cSubB; simpa using hle
    have hE : aTakeE 4 xs f 0 v = 4 := by unfold aTakeE; rw [if_pos e0, hb]; rfl
    exact ⟨hE, by unfold aTake; rw [hE, if_neg (by decide)]⟩

/-- What lies in the first places: each at most an eighth of what a number holds. -/
def Small (xs : List Int) (i : Nat) : Prop := ∀ k : Int, 0 ≤ k → k < 4 → aGet xs k 0 < 2305843009213693952 ∧ ((i : Int) ≤ k → aGet xs k 0 = 0)
theorem Small.step {xs : List Int} (h : AOk 4 xs) {i : Nat} (hs : Small xs i) (hi : i < 4) {v : Int} (hv : U v) : Small (aPut 4 xs i 0 (v / 8)) (i + 1) := by
  have h0 := hs i (by omega) (by omega)
  have e0 := h0.2 (by omega)
  have hv8 := shr_U hv 8 (by omega)
  have v0 := hv.2
  have v1 := hv.1
  have hb : cAddB (aGet xs i 0) (v / 8) = true := by unfold cAddB; rw [e0]; simp; omega
  have hE : aPutE 4 xs i 0 (v / 8) = 0 := by unfold aPutE; rw [if_pos (aErr4 hi), if_pos hb]
  intro k h1 h2
  unfold aPut
  rw [if_pos hE, aGet_set h (by omega) (by omega)]
  by_cases e : k = i
  · rw [if_pos e]
    refine ⟨?_, fun h3 => by omega⟩
    rw [e0]; unfold cAddN; rw [if_pos (by omega)]; omega
  · rw [if_neg e]
    exact ⟨(hs k h1 h2).1, fun h3 => (hs k h1 h2).2 (by omega)⟩
theorem Small.start : Small (zeros (4 * 2)) 0 := by
  intro k h1 h2
  have : k = 0 ∨ k = 1 ∨ k = 2 ∨ k = 3 := by omega
  rcases this with rfl | rfl | rfl | rfl <;> decide
theorem Small.sum {xs : List Int} {i : Nat} (h : AOk 4 xs) (hs : Small xs i) : isum (aCol 4 xs 0) < 18446744073709551616 := by
  have h0 := (hs 0 (by omega) (by omega)).1
  have h1 := (hs 1 (by omega) (by omega)).1
  have h2 := (hs 2 (by omega) (by omega)).1
  have h3 := (hs 3 (by omega) (by omega)).1
  rw [aCol4]; omega
theorem sum_is4 {xs : List Int} (h : AOk 4 xs) {S : Int} (hS : isum (aCol 4 xs 0) = S) (hlt : S < 18446744073709551616) : aSumN 4 xs 0 = S ∧ aSumB 4 xs 0 = true := by
  obtain ⟨f1, f2⟩ := sum_facts _ (aCol_U h 4 0)
  rw [hS, if_pos hlt] at f1
  rw [hS] at f2
  refine ⟨by unfold aSumN; rw [if_pos (by decide)]; exact f1, by unfold aSumB; rw [f2]; simp [hlt]; decide⟩

theorem Acc.drewN {w : World} {b s n : Nat} {xs : List Int} (h : Acc w b s n xs) (m : Nat) : Acc (w.drewN m) b s n xs := ⟨h.ok, h.ne, h.head, h.row⟩

set_option maxRecDepth 100000 in
set_option maxHeartbeats 4000000 in
theorem moves_walk (a0 a1 : Option Addr) (n0 cap0 n1 cap1 : Nat) (z : List Int) (w : World) (hn0 : n0 = z.length) (hzm : n0 ≤ 9223372036854775807) (hU : ∀ x ∈ z, U x) (hr0 : Row64 w a0 z) (h1 : SRec [none, some .i64, some .i64, some .u64] w a1 n1 cap1) :
    Calls Try.prog 9 #[.slice a0 n0 cap0, .slice a1 n1 cap1] w fun e w' => e = .returned (.bool true) ∧ Below w.heap.size w w' := by
  subst hn0
  have HU := Lib.hid hU; clear hU
  have HR := Lib.hid hr0; clear hr0
  have n1m : n1 ≤ 9223372036854775807 := by have := h1.1; have := h1.2.1; omega
  have H1 := Lib.hid h1; clear h1
  go_enter Try.func9, Try.ntmps9
  go_wp2_with fail
  refine (new_is 4 4 (zeros (4 * 2)) _ (by decide) rfl).mono ?_
  rintro e w1 ⟨b, s, rfl, g1, c1, g2, g3⟩
  go_wp2_with fail
  go_loopw [6] (fun i wr => ∃ k : Nat, k ≤ 4 ∧ k ≤ z.length ∧ i = .int .i64 k ∧ Chg [] w wr ∧ ∃ xs, Acc wr b s 4 xs ∧ Small xs k) (fun i _ => 4 - (intOf i).toNat)
  case atStart => exact ⟨0, by omega, by omega, rfl, c1, _, g1, Small.start⟩
  case round =>
    obtain ⟨k, hk, hkz, rfl, hc, xs, hacc, hsm⟩ := hrel
    clear g1 c1
    by_cases hlt : k < z.length ∧ k < 4
    · obtain ⟨hlt1, hlt2⟩ := hlt
      obtain ⟨b0, off, rfl, hcell⟩ := row64_cell (row64_below HR.out hc.below) hlt1
      have hv := HU.out _ (mem_getD hlt1)
      have v0 := hv.1
      generalize z.getD k 0 = v at *
      go_wp2_with fail
      refine (put_any hacc k 0 (v / 8) (shr_U hv 8 (by omega))).mono ?_
      rintro e w2 ⟨rfl, hacc2, hc2⟩
      have hc3 : Chg [] w w2 := hc.trans' hc2 (by simpa using g2)
      have hs2 := hsm.step hacc.ok hlt2 hv
      clear hc2 hacc hc hsm hcell
      go_wp2_with fail
      go_roundw
      case rel => exact ⟨k + 1, by omega, by omega, by go_num, hc3, _, hacc2, hs2⟩
      case measure => simp [intOf]; omega
    · have hsum := hsm.sum hacc.ok
      obtain ⟨S, hS⟩ : ∃ S, S = isum (aCol 4 xs 0) := ⟨_, rfl⟩
      have HS : Hid (isum (aCol 4 xs 0) = S) := hS.symm
      have hSlt : S < 18446744073709551616 := by omega
      clear hS hsum hsm
      obtain ⟨e1, e2⟩ := sum_is4 hacc.ok HS.out hSlt
      have E1 := Lib.hid e1
      have E2 := Lib.hid e2
      clear e1 e2
      have hdec : (decide (k < z.length) && decide (k < 4)) = false := by simp; omega
      by_cases hlt1 : k < z.length
      all_goals
        go_wp2_with fail
        refine (sumA_is hacc 0 S true E1.out E2.out).mono ?_
        rintro e w2 ⟨rfl, hc2⟩
        have hacc2 := hacc.chg hc2 (by simp) (by simp)
        have hc3 : Chg [] w w2 := hc.trans hc2
        go_wp2_with fail
        clear hc hc2 hacc
        go_loopw [9] (fun i wr => ∃ k : Nat, k ≤ n1 ∧ i = .int .i64 k ∧ Chg [] w wr ∧ ∃ xs, Acc wr b s 4 xs ∧ Hid (isum (aCol 4 xs 0) = S)) (fun i _ => n1 - (intOf i).toNat)
        case atStart => exact ⟨0, by omega, rfl, hc3, _, hacc2, HS⟩
        case round =>
          clear hacc2 HS E1 E2 hc3
          obtain ⟨m, hm, rfl, hc, ys, hacc, HS⟩ := hrel
          by_cases hlt2 : m < n1 ∧ m < 30
          · obtain ⟨hm1, hm2⟩ := hlt2
            obtain ⟨b1, off, t0, cc, ss, v, rfl, ic, is, hv, Q⟩ := H1.out.get_biiu hm1
            obtain ⟨_, q1, q2, q3⟩ := Q wr hc.below
            obtain ⟨f, hf, hf4⟩ := and3_i64 cc
            obtain ⟨t, ht, ht4⟩ := and3_i64 ss
            go_wp2_with fail
            go_quiet (fail)
            obtain ⟨p1, p2, p3⟩ := move_facts hacc.ok hf4 ht4 hv (by rw [HS.out]; exact hSlt)
            obtain ⟨y0, hy0⟩ : ∃ y, y = aGet ys f 0 := ⟨_, rfl⟩
            obtain ⟨y1, hy1⟩ : ∃ y, y = aFree 4 ys t 0 := ⟨_, rfl⟩
            rw [← hy0] at p1 p2 p3
            have Y0 := Lib.hid p1
            have Y1 := Lib.hid hy1.symm
            have P2 := Lib.hid p2
            have P3 := Lib.hid p3
            clear p1 p2 p3 hy0 hy1
            go_wp2_with fail
            refine (free_is (hacc.drewN _) f 0 y0 Y0.out).mono ?_
            rintro e w3 ⟨rfl, rfl⟩
            go_wp2_with fail
            refine (free_is (hacc.drewN _) t 0 y1 Y1.out).mono ?_
            rintro e w3 ⟨rfl, rfl⟩
            go_wp2_with fail
            by_cases hle : v ≤ y0
            · refine (take_is (hacc.drewN _) f 0 v 0 _ hv (P2.out hle).1 rfl).mono ?_
              rintro e w3 ⟨rfl, hacc3, hc3⟩
              have hc4 : Chg [] w w3 := (hc.drewN _).trans' hc3 (by simpa using g2)
              have q4 := (Q _ hc4.below).2.2.2
              go_wp2_with fail
              refine (put_is hacc3 t 0 v 0 _ hv (P2.out hle).2.1 rfl).mono ?_
              rintro e w4 ⟨rfl, hacc4, hc4'⟩
              have hc5 : Chg [] w w4 := hc4.trans' hc4' (by simpa using g2)
              have HS2 : Hid (isum (aCol 4 (aPut 4 (aTake 4 ys f 0 v) t 0 v) 0) = S) := (P2.out hle).2.2.trans HS.out
              generalize aPut 4 (aTake 4 ys f 0 v) t 0 v = zs at *
              obtain ⟨e1, e2⟩ := sum_is4 hacc4.ok HS2.out hSlt
              have E1 := Lib.hid e1
              have E2 := Lib.hid e2
              clear e1 e2 hacc3 hc3 hc4' q4 q1 q2 q3 hacc hc
              go_wp2_with fail
              refine (sumA_is hacc4 0 S true E1.out E2.out).mono ?_
              rintro e w5 ⟨rfl, hc6⟩
              have hacc5 := hacc4.chg hc6 (by simp) (by simp)
              have hc7 : Chg [] w w5 := hc5.trans hc6
              clear hc6 hc5 hacc4
              go_wp2_with fail
              go_roundw
              case rel => exact ⟨m + 1, by omega, by go_num, hc7, _, hacc5, HS2⟩
              case measure => simp [intOf]; omega
            · obtain ⟨T0, T1⟩ := P3.out (by omega)
              have T0 := Lib.hid T0
              have T1 := Lib.hid T1
              refine (take_is (hacc.drewN _) f 0 v 4 ys hv T0.out T1.out).mono ?_
              rintro e w3 ⟨rfl, hacc3, hc3⟩
              have hc4 : Chg [] w w3 := (hc.drewN _).trans' hc3 (by simpa using g2)
              have q4 := (Q _ hc4.below).2.2.2
              go_wp2_with fail
              refine (free_is hacc3 f 0 y0 Y0.out).mono ?_
              rintro e w' ⟨rfl, rfl⟩
              go_wp2_with fail
              refine (free_is hacc3 t 0 y1 Y1.out).mono ?_
              rintro e w' ⟨rfl, rfl⟩
              obtain ⟨e1, e2⟩ := sum_is4 hacc3.ok HS.out hSlt
              have E1 := Lib.hid e1
              have E2 := Lib.hid e2
              clear e1 e2 hc3 q4 q1 q2 q3 hacc hc
              go_wp2_with fail
              refine (sumA_is hacc3 0 S true E1.out E2.out).mono ?_
              rintro e w5 ⟨rfl, hc6⟩
              have hacc5 := hacc3.chg hc6 (by simp) (by simp)
              have hc7 : Chg [] w w5 := hc4.trans hc6
              clear hc6 hc4 hacc3
              go_wp2_with fail
              go_roundw
              case rel => exact ⟨m + 1, by omega, by go_num, hc7, _, hacc5, HS⟩
              case measure => simp [intOf]; omega
          · by_cases hm1 : m < n1
            all_goals
              go_wp2_with fail
              refine (awake6 _).mono ?_
              rintro e w' ⟨rfl, hw⟩
              go_wp2_with fail
              go_ret
              exact ⟨rfl, hc.below.trans (hw.mono hc.size)⟩
end Go.Proofs.Ytkjkkchpicehoaa
