import Derived.Test.YtkjkkchpicehoaaHoldInv
import Derived.Test.YtkjkkchpicehoaaHold4
import Derived.Test.YtkjkkchpicehoaaShell
import Derived.Deep.QuietTactic
import Derived.BigQuiet
namespace Go.Proofs.Ytkjkkchpicehoaa
set_option linter.unusedVariables false
open Go Go.Proofs Go.RowKit Go.Maps

def pS (got : Int) (f : Int → Int) (xs : List Int) : Nat → Int
  | 0 => got
  | j + 1 => pS got f xs j + f j + g1 xs j
theorem Inv.ps3 {S : Int} {xs : List Int} {f : Int → Int} {got : Int} (h : Inv S xs f got) : pS got f xs 3 = S := by
  have := h.sum; simp only [pS]; simp; omega
theorem Inv.ps {S : Int} {xs : List Int} {f : Int → Int} {got : Int} (h : Inv S xs f got) {j : Nat} (hj : j < 3) :
    IntKind.u64.wrap (pS got f xs j + f j) = pS got f xs j + f j ∧ IntKind.u64.wrap (pS got f xs j + f j + aFree 3 xs j 1) = pS got f xs (j + 1) := by
  have n0 := h.nn 0; have n1 := h.nn 1; have n2 := h.nn 2
  have h1 := h.sm; have h2 := h.gt; have h3 := h.f0; have h4 := h.f1; have h5 := h.f2; have h7 := h.sum
  have hfr := h.free (c := j) (by omega)
  rw [if_neg (by omega)] at hfr
  rw [hfr, IntKind.wrap_u64, IntKind.wrap_u64]
  have : j = 0 ∨ j = 1 ∨ j = 2 := by omega
  rcases this with rfl | rfl | rfl <;> simp only [pS] <;> simp <;> refine ⟨?_, ?_⟩ <;> omega

/-- What lies in the first places. -/
structure Pre (xs : List Int) (k : Nat) (S : Int) : Prop where
  ok : AOk 3 xs
  lt : ∀ j : Int, 0 ≤ j → j < 3 → g1 xs j < 1152921504606846976
  z : ∀ j : Int, (k : Int) ≤ j → j < 3 → g1 xs j = 0
  sum : S = g1 xs 0 + g1 xs 1 + g1 xs 2
theorem Pre.start : Pre (zeros (3 * 2)) 0 0 := by
  have e : ∀ j : Int, 0 ≤ j → j < 3 → g1 (zeros (3 * 2)) j = 0 := fun j h1 h2 => by
    have : j = 0 ∨ j = 1 ∨ j = 2 := by omega
    rcases this with rfl | rfl | rfl <;> rfl
  exact ⟨zeros_ok 3 (by omega), fun j h1 h2 => by rw [e j h1 h2]; decide, fun j h1 h2 => e j (by omega) h2, by rw [e 0 (by omega) (by omega), e 1 (by omega) (by omega), e 2 (by omega) (by omega)]; rfl⟩
theorem Pre.step {xs : List Int} {k : Nat} {S : Int} (h : Pre xs k S) (hk : k < 3) {v : Int} (hv : U v) : Pre (aPut 3 xs k 1 (v / 16)) (k + 1) (S + v / 16) ∧ IntKind.u64.wrap (S + v / 16) = S + v / 16 := by
  have z := h.z k (by omega) (by omega)
  have v0 := hv.1; have v1 := hv.2
  have b1 : cAddB (aGet xs k 1) (v / 16) = true := by show cAddB (g1 xs k) _ = _; rw [z]; unfold cAddB; simp; omega
  have a1 : cAddN (aGet xs k 1) (v / 16) = v / 16 := by show cAddN (g1 xs k) _ = _; rw [z]; unfold cAddN; rw [if_pos (by omega)]; omega
  have hE : aPutE 3 xs k 1 (v / 16) = 0 := by unfold aPutE; rw [if_pos (aErr31 (by omega)), if_pos b1]
  have hx : aPut 3 xs k 1 (v / 16) = xs.set (aAt k 1) (v / 16) := by unfold aPut; rw [if_pos hE, a1]
  have q := fun (j : Int) (hj : 0 ≤ j ∧ j < 3) => g1_set h.ok (f := k) (k := j) (by omega) hj (v / 16)
  have l0 := h.lt 0 (by omega) (by omega); have l1 := h.lt 1 (by omega) (by omega); have l2 := h.lt 2 (by omega) (by omega)
  have n0 : 0 ≤ g1 xs 0 := (h.ok.get 0 1).1
  have n1 : 0 ≤ g1 xs 1 := (h.ok.get 1 1).1
  have n2 : 0 ≤ g1 xs 2 := (h.ok.get 2 1).1
  have hs := h.sum
  rw [hx]
  refine ⟨⟨h.ok.set _ ⟨by omega, by omega⟩, fun j h1 h2 => ?_, fun j h1 h2 => ?_, ?_⟩, by rw [IntKind.wrap_u64]; omega⟩
  · rw [q j (by omega)]; split
    · omega
    · exact h.lt j h1 h2
  · rw [q j (by omega), if_neg (by omega)]; exact h.z j (by omega) h2
  · rw [q 0 (by omega), q 1 (by omega), q 2 (by omega)]
    have : k = 0 ∨ k = 1 ∨ k = 2 := by omega
    rcases this with rfl | rfl | rfl <;> simp at z ⊢ <;> omega
theorem Pre.inv {xs : List Int} {k : Nat} {S : Int} (h : Pre xs k S) : Inv S xs (fun _ => 0) 0 := by
  have l0 := h.lt 0 (by omega) (by omega); have l1 := h.lt 1 (by omega) (by omega); have l2 := h.lt 2 (by omega) (by omega)
  have hs := h.sum
  exact ⟨h.ok, by omega, by omega, by simp, by simp, by simp, rfl, by simp; omega⟩
theorem Fee.put {w w' : World} {fb mb b s n : Nat} {xs ys : List Int} {m : Nat} {f : Int → Int} {got : Int} (h : Fee w fb mb b s n xs m f got) (g : Chg [s] w w') (ha : Acc w' b s n ys) : Fee w' fb mb b s n ys m f got :=
  ⟨ha, h.hd.chg g (by have := h.ne; simp; omega), h.mp.chg g (by have := h.ne; simp; omega), h.ne, h.ug⟩

set_option maxRecDepth 100000 in
set_option maxHeartbeats 8000000 in
theorem sums7_walk (a0 a1 : Option Addr) (n0 cap0 n1 cap1 : Nat) (z : List Int) (w : World) (hn0 : n0 = z.length) (hzm : n0 ≤ 9223372036854775807) (hU : ∀ x ∈ z, U x) (hr0 : Row64 w a0 z) (h1 : SRec [some .i64, some .i64, some .u64] w a1 n1 cap1) :
    Calls Try.prog 12 #[.slice a0 n0 cap0, .slice a1 n1 cap1] w fun e w' => e = .returned (.bool true) ∧ Below w.heap.size w w' := by
  subst hn0
  have HU := Lib.hid hU; clear hU
  have HR := Lib.hid hr0; clear hr0
  have n1m : n1 ≤ 9223372036854775807 := by have := h1.1; have := h1.2.1; omega
  have H1 := Lib.hid h1; clear h1
  go_enter Try.func12, Try.ntmps12
  go_wp2_with fail
  refine (new_is 3 3 (zeros (3 * 2)) _ (by decide) rfl).mono ?_
  rintro e w1 ⟨b, s, rfl, h1, c1, q1, q2⟩
  go_wp2_with fail
  refine (feeNew_any h1).mono ?_
  rintro e w2 ⟨fb, mb, rfl, h2, c2, q3, q4⟩
  have z1 := c1.size
  have c2 := c1.trans c2
  have hS : ∀ x ∈ [fb, mb, s], x ∈ ([] : List Nat) ∨ w.heap.size ≤ x := by simp; omega
  have hS1 : ∀ x ∈ [s], x ∈ ([] : List Nat) ∨ w.heap.size ≤ x := by simp; omega
  have HS := Lib.hid hS
  have HS1 := Lib.hid hS1
  clear c1 h1 q1 q2 q3 q4 z1 hS hS1
  go_wp2_with fail
  go_loopw [7, 8] (fun v i wr => ∃ (k : Nat) (xs : List Int) (S : Int), k ≤ 3 ∧ k ≤ z.length ∧ i = .int .i64 k ∧ v = .int .u64 S ∧ Chg [] w wr ∧ Fee wr fb mb b s 3 xs 0 (fun _ => 0) 0 ∧ Pre xs k S) (fun _ i _ => 3 - (intOf i).toNat)
  case atStart => exact ⟨0, _, 0, by omega, by omega, rfl, rfl, c2, h2, Pre.start⟩
  case round =>
    clear c2 h2
    obtain ⟨k, xs, S, hk, hkz, rfl, rfl, hc, hF, hP⟩ := hrel
    by_cases hlt : k < z.length ∧ k < 3
    · obtain ⟨hlt1, hlt2⟩ := hlt
      obtain ⟨b0, off, rfl, hcell⟩ := row64_cell (row64_below HR.out hc.below) hlt1
      have hv := HU.out _ (mem_getD hlt1)
      have hcs : ∀ w', Chg [] w w' → w'.cell? ⟨b0, off + k, none⟩ = some (.int .u64 (z.getD k 0)) := fun w' h => by
        obtain ⟨b9, o9, e, h9⟩ := row64_cell (row64_below HR.out h.below) hlt1
        injection e with e
        injection e with e1 e2
        subst e1; subst e2; exact h9
      have HC := Lib.hid hcs
      clear hcs
      generalize z.getD k 0 = v at *
      obtain ⟨hP2, hw2⟩ := hP.step hlt2 hv
      have HW2 := Lib.hid hw2
      clear hw2
      go_wp2_with fail
      refine (put_any hF.acc k 1 (v / 16) (shr_U hv 16 (by omega))).mono ?_
      rintro e w3 ⟨rfl, h3, c3⟩
      have hF3 := hF.put c3 h3
      have hc3 : Chg [] w w3 := hc.trans' c3 HS1.out
      have hcell2 := HC.out w3 hc3
      clear hcell h3 c3 hF hc HC hP
      go_wp2_with fail
      go_roundw
      case rel => exact ⟨k + 1, _, _, by omega, by omega, by go_num, by first | rfl | exact vint HW2.out, hc3, hF3, hP2⟩
      case measure => simp [intOf]; omega
    · have hI := hP.inv
      clear hP
      by_cases hlt1 : k < z.length
      all_goals
        go_wp2_with fail
        go_loopw [9] (fun i wr => ∃ (m : Nat) (xs : List Int) (f : Int → Int) (got : Int) (mm : Nat), m ≤ n1 ∧ m ≤ 40 ∧ i = .int .i64 m ∧ Chg [] w wr ∧ Fee wr fb mb b s 3 xs mm f got ∧ Inv S xs f got ∧ mm ≤ 2 * m) (fun i _ => 40 - (intOf i).toNat)
        case atStart => exact ⟨0, _, _, _, 0, by omega, by omega, rfl, hc, hF, hI, by omega⟩
        case round =>
          clear hF hI hc xs
          obtain ⟨m, xs, f, got, mm, hm, hm40, rfl, hc, hF, hI, hmm⟩ := hrel
          have hmx : mm + 4 < maxLen := by unfold maxLen; omega
          have HMX := Lib.hid hmx
          clear hmx
          by_cases hlt2 : m < n1 ∧ m < 40
          · obtain ⟨hm1, hm2⟩ := hlt2
            obtain ⟨b1, off, kd, cc, v, rfl, ik, ic, hv, Q⟩ := H1.out.get_iiu hm1
            obtain ⟨q0, q1, q2⟩ := Q wr hc.below
            obtain ⟨c, hcc, hc4⟩ := and3_i64 cc
            obtain ⟨t, hkk, ht4⟩ := and3_i64 kd
            have hcr : 0 ≤ (c : Int) ∧ (c : Int) < 4 := by omega
            have Ic : I (c : Int) := ⟨by omega, by omega⟩
            have HCR := Lib.hid hcr
            clear hcr
            rcases (by omega : t = 0 ∨ t = 1 ∨ 2 ≤ t) with rfl | rfl | ht2
            · obtain ⟨e1, e2, e3, e4⟩ := hI.settle HCR.out hv
              have hv0 : min v (f c) ≤ f c ∧ min v (f c) ≤ v := by omega
              obtain ⟨r, hr⟩ : ∃ r, r = min v (f c) := ⟨_, rfl⟩
              rw [← hr] at e1 e4 hv0
              obtain ⟨hr1, hr2⟩ := hv0
              have bF := hI.fc HCR.out
              have hwr : IntKind.u64.wrap (got + r) = sGot f got c v := by rw [e4, IntKind.wrap_u64]; have := hI.gt; have := hI.sm; have := hv.1; omega
              have nr1 : decide (f c < r) = false := by simp; omega
              have nr2 : decide (v < r) = false := by simp; omega
              have E1 := Lib.hid e1
              have E3 := Lib.hid e3
              clear e1 e3 e4 hr hr1 hr2 bF
              go_wp2_with fail
              refine (held_any hF c Ic).mono ?_
              rintro e w' ⟨rfl, rfl⟩
              go_wp2_with fail
              refine (got_any hF).mono ?_
              rintro e w' ⟨rfl, rfl⟩
              go_wp2_with fail
              refine (settle_is hF c v r _ _ _ Ic hv HMX.out E1.out rfl rfl rfl).mono ?_
              rintro e w3 ⟨rfl, hF3, c3⟩
              have hc9 : Chg [] w w3 := hc.trans' c3 HS.out
              have q5 := (Q w3 hc9.below).2.2
              generalize sGot f got c v = got9 at *
              go_wp2_with fail
              refine (got_any hF3).mono ?_
              rintro e w' ⟨rfl, rfl⟩
              go_wp2_with fail
              refine (held_is hF3 c 0 Ic E3.out).mono ?_
              rintro e w' ⟨rfl, rfl⟩
              have hI9 := e2
              have hF9 := hF3
              generalize sX 3 xs f got c v = xs9 at *
              generalize sF 3 xs f got c v = f9 at *
              clear q0 q1 q2 q5 hF hc hI c3 e2 hF3 E1 E3 nr1 nr2 hwr
              have hc := hc9
              go_wp2_with fail
              refine (got_any hF9).mono ?_
              rintro e w' ⟨rfl, rfl⟩
              go_wp2_with fail
              go_loop [17, 18] (fun p i => ∃ j : Nat, j ≤ 3 ∧ i = .int .i64 j ∧ p = .int .u64 (pS got9 f9 xs9 j)) (fun _ i => 3 - (intOf i).toNat)
              case atStart => exact ⟨0, by omega, rfl, rfl⟩
              case round =>
                obtain ⟨j, hj, rfl, rfl⟩ := hrel
                by_cases hj3 : j < 3
                · obtain ⟨w1, w2⟩ := hI9.ps hj3
                  have W1 := Lib.hid w1
                  have W2 := Lib.hid w2
                  clear w1 w2
                  go_wp2_with fail
                  refine (held_any hF9 j ⟨by omega, by omega⟩).mono ?_
                  rintro e w' ⟨rfl, rfl⟩
                  go_wp2_with fail
                  refine (free_any hF9.acc j 1).mono ?_
                  rintro e w' ⟨rfl, rfl⟩
                  go_wp2_with fail
                  go_round
                  case rel => exact ⟨j + 1, by omega, by go_num, vint (by rw [W1.out, W2.out])⟩
                  case measure => simp [intOf]; omega
                · obtain rfl : j = 3 := by omega
                  have HP : Hid (pS got9 f9 xs9 3 = S) := hI9.ps3
                  have hps := HP.out
                  go_wp2_with fail
                  go_roundw
                  case rel => exact ⟨m + 1, _, _, _, _, by omega, by omega, by go_num, hc9, hF9, hI9, by omega⟩
                  case measure => simp [intOf]; omega
            · obtain ⟨e1, e2, e3, e4⟩ := hI.forfeit HCR.out
              have bF := hI.fc HCR.out
              have hwr : IntKind.u64.wrap (got + f c) = fGot f got c := by rw [e4, IntKind.wrap_u64]; have := hI.gt; have := hI.sm; omega
              have E1 := Lib.hid e1
              have E3 := Lib.hid e3
              clear e1 e3 e4 bF
              go_wp2_with fail
              refine (held_any hF c Ic).mono ?_
              rintro e w' ⟨rfl, rfl⟩
              go_wp2_with fail
              refine (got_any hF).mono ?_
              rintro e w' ⟨rfl, rfl⟩
              go_wp2_with fail
              refine (forfeit_is hF c _ _ _ Ic HMX.out E1.out rfl rfl).mono ?_
              rintro e w3 ⟨rfl, hF3, c3⟩
              have hc9 : Chg [] w w3 := hc.trans' c3 HS.out
              generalize fGot f got c = got9 at *
              go_wp2_with fail
              refine (got_any hF3).mono ?_
              rintro e w' ⟨rfl, rfl⟩
              go_wp2_with fail
              refine (held_is hF3 c 0 Ic E3.out).mono ?_
              rintro e w' ⟨rfl, rfl⟩
              have hI9 := e2
              have hF9 := hF3
              obtain ⟨xs9, hxs9⟩ : ∃ y, y = xs := ⟨_, rfl⟩
              rw [← hxs9] at hI9 hF9
              generalize fF f got c = f9 at *
              clear q0 q1 q2 hF hc hI c3 e2 hF3 E1 E3 hwr hxs9
              have hc := hc9
              go_wp2_with fail
              refine (got_any hF9).mono ?_
              rintro e w' ⟨rfl, rfl⟩
              go_wp2_with fail
              go_loop [17, 18] (fun p i => ∃ j : Nat, j ≤ 3 ∧ i = .int .i64 j ∧ p = .int .u64 (pS got9 f9 xs9 j)) (fun _ i => 3 - (intOf i).toNat)
              case atStart => exact ⟨0, by omega, rfl, rfl⟩
              case round =>
                obtain ⟨j, hj, rfl, rfl⟩ := hrel
                by_cases hj3 : j < 3
                · obtain ⟨w1, w2⟩ := hI9.ps hj3
                  have W1 := Lib.hid w1
                  have W2 := Lib.hid w2
                  clear w1 w2
                  go_wp2_with fail
                  refine (held_any hF9 j ⟨by omega, by omega⟩).mono ?_
                  rintro e w' ⟨rfl, rfl⟩
                  go_wp2_with fail
                  refine (free_any hF9.acc j 1).mono ?_
                  rintro e w' ⟨rfl, rfl⟩
                  go_wp2_with fail
                  go_round
                  case rel => exact ⟨j + 1, by omega, by go_num, vint (by rw [W1.out, W2.out])⟩
                  case measure => simp [intOf]; omega
                · obtain rfl : j = 3 := by omega
                  have HP : Hid (pS got9 f9 xs9 3 = S) := hI9.ps3
                  have hps := HP.out
                  go_wp2_with fail
                  go_roundw
                  case rel => exact ⟨m + 1, _, _, _, _, by omega, by omega, by go_num, hc9, hF9, hI9, by omega⟩
                  case measure => simp [intOf]; omega
            · have ht0 : ((t : Int) == 0) = false := by rw [beq_eq_false_iff_ne]; omega
              have ht1 : ((t : Int) == 1) = false := by rw [beq_eq_false_iff_ne]; omega
              obtain ⟨e1, e2, e3, e4⟩ := hI.hold HCR.out hv
              have bF := hI.fc HCR.out
              have hfr := hI.free HCR.out
              have hfU := aFree_U hI.ok c 1
              obtain ⟨fr, hfr'⟩ : ∃ fr, fr = aFree 3 xs c 1 := ⟨_, rfl⟩
              rw [← hfr'] at e1 e3 e4 hfU
              have FR := Lib.hid hfr'.symm
              clear hfr hfr'
              obtain ⟨r, hr⟩ : ∃ r, r = min v fr := ⟨_, rfl⟩
              rw [← hr] at e1 e3 e4
              have fr0 := hfU.1
              have v0 := hv.1
              have hw1 : IntKind.u64.wrap (f c + r) = hHoldF 3 xs f c v c := by
                have t1 := hfU.2; have t2 := (e2.fc HCR.out).2.2
                rw [e3] at t2 ⊢
                rw [IntKind.wrap_u64]; omega
              have hw2 : IntKind.u64.wrap (fr - r) = aFree 3 (hHoldX 3 xs f c v) c 1 := by
                have := hfU.2
                rw [e4, IntKind.wrap_u64]; omega
              have E1 := Lib.hid e1
              have HR2 := Lib.hid hr
              have E4 := Lib.hid e4
              clear e1 e3 e4 hr bF
              by_cases hle : fr ≤ v
              · obtain rfl : r = fr := by rw [HR2.out]; omega
                have Z : Hid (aFree 3 (hHoldX 3 xs f c v) c 1 = 0) := by show _ = _; rw [E4.out]; omega
                clear hw2
                go_wp2_with fail
                refine (held_any hF c Ic).mono ?_
                rintro e w' ⟨rfl, rfl⟩
                go_wp2_with fail
                refine (got_any hF).mono ?_
                rintro e w' ⟨rfl, rfl⟩
                go_wp2_with fail
                refine (free_is hF.acc c 1 _ FR.out).mono ?_
                rintro e w' ⟨rfl, rfl⟩
                go_wp2_with fail
                refine (hold_is hF c _ r _ _ Ic hv HMX.out E1.out rfl rfl).mono ?_
                rintro e w3 ⟨rfl, hF3, c3⟩
                have hc9 : Chg [] w w3 := hc.trans' c3 HS.out
                have q5 := (Q w3 hc9.below).2.2
                go_wp2_with fail
                refine (held_any hF3 c Ic).mono ?_
                rintro e w' ⟨rfl, rfl⟩
                go_wp2_with fail
                refine (free_is hF3.acc c 1 0 Z.out).mono ?_
                rintro e w' ⟨rfl, rfl⟩
                go_wp2_with fail
                refine (got_any hF3).mono ?_
                rintro e w' ⟨rfl, rfl⟩
                have hI9 := e2
                have hF9 := hF3
                clear q0 q1 q2 q5 hF hc hI c3 e2 hF3 E1 hw1
                
                have hc := hc9
                go_wp2_with fail
                refine (got_any hF9).mono ?_
                rintro e w' ⟨rfl, rfl⟩
                go_wp2_with fail
                go_loop [17, 18] (fun p i => ∃ j : Nat, j ≤ 3 ∧ i = .int .i64 j ∧ p = .int .u64 (pS got (hHoldF 3 xs f c v) (hHoldX 3 xs f c v) j)) (fun _ i => 3 - (intOf i).toNat)
                case atStart => exact ⟨0, by omega, rfl, rfl⟩
                case round =>
                  obtain ⟨j, hj, rfl, rfl⟩ := hrel
                  by_cases hj3 : j < 3
                  · obtain ⟨w1, w2⟩ := hI9.ps hj3
                    have W1 := Lib.hid w1
                    have W2 := Lib.hid w2
                    clear w1 w2
                    go_wp2_with fail
                    refine (held_any hF9 j ⟨by omega, by omega⟩).mono ?_
                    rintro e w' ⟨rfl, rfl⟩
                    go_wp2_with fail
                    refine (free_any hF9.acc j 1).mono ?_
                    rintro e w' ⟨rfl, rfl⟩
                    go_wp2_with fail
                    go_round
                    case rel => exact ⟨j + 1, by omega, by go_num, vint (by rw [W1.out, W2.out])⟩
                    case measure => simp [intOf]; omega
                  · obtain rfl : j = 3 := by omega
                    have HP : Hid (pS got (hHoldF 3 xs f c v) (hHoldX 3 xs f c v) 3 = S) := hI9.ps3
                    have hps := HP.out
                    go_wp2_with fail
                    go_roundw
                    case rel => exact ⟨m + 1, _, _, _, _, by omega, by omega, by go_num, hc9, hF9, hI9, by omega⟩
                    case measure => simp [intOf]; omega
              · obtain rfl : r = v := by rw [HR2.out]; omega
                go_wp2_with fail
                refine (held_any hF c Ic).mono ?_
                rintro e w' ⟨rfl, rfl⟩
                go_wp2_with fail
                refine (got_any hF).mono ?_
                rintro e w' ⟨rfl, rfl⟩
                go_wp2_with fail
                refine (free_is hF.acc c 1 _ FR.out).mono ?_
                rintro e w' ⟨rfl, rfl⟩
                go_wp2_with fail
                refine (hold_is hF c _ r _ _ Ic hv HMX.out E1.out rfl rfl).mono ?_
                rintro e w3 ⟨rfl, hF3, c3⟩
                have hc9 : Chg [] w w3 := hc.trans' c3 HS.out
                have q5 := (Q w3 hc9.below).2.2
                go_wp2_with fail
                refine (held_any hF3 c Ic).mono ?_
                rintro e w' ⟨rfl, rfl⟩
                go_wp2_with fail
                refine (free_any hF3.acc c 1).mono ?_
                rintro e w' ⟨rfl, rfl⟩
                go_wp2_with fail
                refine (got_any hF3).mono ?_
                rintro e w' ⟨rfl, rfl⟩
                have hI9 := e2
                have hF9 := hF3
                clear q0 q1 q2 q5 hF hc hI c3 e2 hF3 E1 hw1 hw2
                
                have hc := hc9
                go_wp2_with fail
                refine (got_any hF9).mono ?_
                rintro e w' ⟨rfl, rfl⟩
                go_wp2_with fail
                go_loop [17, 18] (fun p i => ∃ j : Nat, j ≤ 3 ∧ i = .int .i64 j ∧ p = .int .u64 (pS got (hHoldF 3 xs f c r) (hHoldX 3 xs f c r) j)) (fun _ i => 3 - (intOf i).toNat)
                case atStart => exact ⟨0, by omega, rfl, rfl⟩
                case round =>
                  obtain ⟨j, hj, rfl, rfl⟩ := hrel
                  by_cases hj3 : j < 3
                  · obtain ⟨w1, w2⟩ := hI9.ps hj3
                    have W1 := Lib.hid w1
                    have W2 := Lib.hid w2
                    clear w1 w2
                    go_wp2_with fail
                    refine (held_any hF9 j ⟨by omega, by omega⟩).mono ?_
                    rintro e w' ⟨rfl, rfl⟩
                    go_wp2_with fail
                    refine (free_any hF9.acc j 1).mono ?_
                    rintro e w' ⟨rfl, rfl⟩
                    go_wp2_with fail
                    go_round
                    case rel => exact ⟨j + 1, by omega, by go_num, vint (by rw [W1.out, W2.out])⟩
                    case measure => simp [intOf]; omega
                  · obtain rfl : j = 3 := by omega
                    have HP : Hid (pS got (hHoldF 3 xs f c r) (hHoldX 3 xs f c r) 3 = S) := hI9.ps3
                    have hps := HP.out
                    go_wp2_with fail
                    go_roundw
                    case rel => exact ⟨m + 1, _, _, _, _, by omega, by omega, by go_num, hc9, hF9, hI9, by omega⟩
                    case measure => simp [intOf]; omega
          · by_cases hm1 : m < n1
            all_goals
              go_wp2_with fail
              refine (awake7 _).mono ?_
              rintro e w' ⟨rfl, hw⟩
              go_wp2_with fail
              go_ret
              exact ⟨rfl, hc.below.trans (hw.mono hc.size)⟩
end Go.Proofs.Ytkjkkchpicehoaa
