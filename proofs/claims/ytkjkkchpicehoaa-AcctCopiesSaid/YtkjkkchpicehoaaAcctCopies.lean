import Derived.Test.YtkjkkchpicehoaaAcct5
import Derived.Test.YtkjkkchpicehoaaShell
import Derived.Deep.QuietTactic
import Derived.BigQuiet
import Derived.Deep.CutBlock
import Derived.Deep.RegionHeld3
namespace Go.Proofs.Ytkjkkchpicehoaa
set_option linter.unusedVariables false
open Go Go.Proofs Go.RowKit

theorem Acc.drewN {w : World} {b s n : Nat} {xs : List Int} (h : Acc w b s n xs) (m : Nat) : Acc (w.drewN m) b s n xs := ⟨h.ok, h.ne, h.head, h.row⟩

theorem Acc.drew {w : World} {b s n : Nat} {xs : List Int} (h : Acc w b s n xs) : Acc w.drew b s n xs := ⟨h.ok, h.ne, h.head, h.row⟩
/-- Three accounts, apart. -/
structure Three (w : World) (B : Nat) (b1 s1 b2 s2 : Nat) (xs ys : List Int) : Prop where
  one : Acc w b1 s1 3 xs
  two : Acc w b2 s2 3 ys
  lo : B ≤ b1 ∧ B ≤ s1 ∧ B ≤ b2 ∧ B ≤ s2
  apart : b1 ≠ b2 ∧ b1 ≠ s2 ∧ s1 ≠ b2 ∧ s1 ≠ s2

set_option maxRecDepth 100000 in
set_option maxHeartbeats 4000000 in
theorem copies_walk (a0 a1 : Option Addr) (n0 cap0 n1 cap1 : Nat) (z : List Int) (w : World) (hn0 : n0 = z.length) (hzm : n0 ≤ 9223372036854775807) (hU : ∀ x ∈ z, U x) (hr0 : Row64 w a0 z) (h1 : SRec [none, some .i64, some .i64, some .u64] w a1 n1 cap1) :
    Calls Try.prog 10 #[.slice a0 n0 cap0, .slice a1 n1 cap1] w fun e w' => e = .returned (.bool true) ∧ Below w.heap.size w w' := by
  subst hn0
  have HU := Lib.hid hU; clear hU
  have HR := Lib.hid hr0; clear hr0
  have n1m : n1 ≤ 9223372036854775807 := by have := h1.1; have := h1.2.1; omega
  have H1 := Lib.hid h1; clear h1
  go_enter Try.func10, Try.ntmps10
  go_wp2_with fail
  refine (new_is 3 3 (zeros (3 * 2)) _ (by decide) rfl).mono ?_
  rintro e w1 ⟨b, s, rfl, g1, c1, g2, g3⟩
  go_wp2_with fail
  refine (new_is 3 3 (zeros (3 * 2)) _ (by decide) rfl).mono ?_
  rintro e w2 ⟨b', s', rfl, g1', c2, g2', g3'⟩
  have T : Three w2 w.heap.size b s b' s' (zeros (3 * 2)) (zeros (3 * 2)) := by
    have hl := g1.lt
    have := c1.size
    exact ⟨g1.chg c2 (by simp) (by simp), g1', ⟨by omega, by omega, by omega, by omega⟩, ⟨by omega, by omega, by omega, by omega⟩⟩
  have c12 := c1.trans c2
  clear g1 c1 g2 g3 g1' c2 g2' g3'
  go_wp2_with fail
  go_loopw [7] (fun i wr => ∃ k : Nat, k ≤ 6 ∧ k ≤ z.length ∧ i = .int .i64 k ∧ Chg [] w wr ∧ ∃ xs, Three wr w.heap.size b s b' s' xs xs) (fun i _ => 6 - (intOf i).toNat)
  case atStart => exact ⟨0, by omega, by omega, rfl, c12, _, T⟩
  case round =>
    obtain ⟨k, hk, hkz, rfl, hc, xs, hT⟩ := hrel
    clear T c12
    obtain ⟨l1, l2, l3, l4⟩ := hT.lo
    obtain ⟨p1, p2, p3, p4⟩ := hT.apart
    by_cases hlt : k < z.length ∧ k < 6
    · obtain ⟨hlt1, hlt2⟩ := hlt
      obtain ⟨b0, off, rfl, hcell⟩ := row64_cell (row64_below HR.out hc.below) hlt1
      have hv := HU.out _ (mem_getD hlt1)
      have v0 := hv.1
      have hcs : ∀ w', Chg [] w w' → w'.cell? ⟨b0, off + k, none⟩ = some (.int .u64 (z.getD k 0)) := fun w' h => by
        obtain ⟨b9, o9, e, h9⟩ := row64_cell (row64_below HR.out h.below) hlt1
        injection e with e
        injection e with e1 e2
        subst e1; subst e2; exact h9
      have HS := Lib.hid hcs
      clear hcs
      generalize z.getD k 0 = v at *
      go_wp2_with fail
      refine (put_any hT.one _ _ (v / 16) (shr_U hv 16 (by omega))).mono ?_
      rintro e w3 ⟨rfl, h3, c3⟩
      have h3' := hT.two.chg c3 (by simp; omega) (by simp; omega)
      have c3' : Chg [] w w3 := hc.trans' c3 (by simp; omega)
      have hcell2 := HS.out w3 c3'
      go_wp2_with fail
      refine (put_any h3' _ _ (v / 16) (shr_U hv 16 (by omega))).mono ?_
      rintro e w4 ⟨rfl, h4, c4⟩
      have h4' := h3.chg c4 (by simp; omega) (by simp; omega)
      have c4' : Chg [] w w4 := c3'.trans' c4 (by simp; omega)
      have T4 : Three w4 w.heap.size b s b' s' _ _ := ⟨h4', h4, ⟨l1, l2, l3, l4⟩, ⟨p1, p2, p3, p4⟩⟩
      clear hcell hcell2 h3 c3 h3' c3' h4 h4' c4 hc hT HS
      go_wp2_with fail
      go_roundw
      case rel => exact ⟨k + 1, by omega, by omega, by go_num, c4', _, T4⟩
      case measure => simp [intOf]; omega
    · by_cases hlt1 : k < z.length
      all_goals
        go_wp2_with fail
        refine (copy_any hT.one).mono ?_
        rintro e w3 ⟨bb, sb, rfl, h3, c3, q1, q2⟩
        have z1 := hT.one.lt
        have z2 := hT.two.lt
        have z3 := hc.size
        have T3 : Three w3 w.heap.size bb sb b' s' xs xs := ⟨h3, hT.two.chg c3 (by simp) (by simp), ⟨by omega, by omega, by omega, by omega⟩, ⟨by omega, by omega, by omega, by omega⟩⟩
        have hA := hT.one.chg c3 (by simp) (by simp)
        have c3' : Chg [] w w3 := hc.trans c3
        have ap : b ≠ bb ∧ b ≠ sb ∧ s ≠ bb ∧ s ≠ sb := ⟨by omega, by omega, by omega, by omega⟩
        clear h3 c3 q1 q2 hT hc z1 z2 z3
        go_wp2_with fail
        go_loopw [9] (fun i wr => ∃ m : Nat, m ≤ n1 ∧ i = .int .i64 m ∧ Chg [] w wr ∧ (∃ xa, Acc wr b s 3 xa) ∧ ∃ ys, Three wr w.heap.size bb sb b' s' ys ys) (fun i _ => n1 - (intOf i).toNat)
        case atStart => exact ⟨0, by omega, rfl, c3', ⟨_, hA⟩, _, T3⟩
        case round =>
          clear T3 c3' hA
          obtain ⟨m, hm, rfl, hc, ⟨xa, hA⟩, ys, hT⟩ := hrel
          obtain ⟨m1, m2, m3, m4⟩ := hT.lo
          obtain ⟨r1, r2, r3, r4⟩ := hT.apart
          obtain ⟨r5, r6, r7, r8⟩ := ap
          by_cases hlt2 : m < n1 ∧ m < 20
          · obtain ⟨hm1, hm2⟩ := hlt2
            obtain ⟨b1, off, t0, cc, ss, v, rfl, ic, is, hv, Q⟩ := H1.out.get_biiu hm1
            obtain ⟨q0, q1, q2, q3⟩ := Q wr hc.below
            obtain ⟨f, hf, hf4⟩ := and3_i64 cc
            obtain ⟨t, ht, ht4⟩ := and1_i64 ss
            go_wp2_with fail
            go_quiet (fail)
            have hT5 : Three (wr.drewN nq) w.heap.size bb sb b' s' ys ys := ⟨hT.one.drewN _, hT.two.drewN _, hT.lo, hT.apart⟩
            have hA5 := hA.drewN nq
            have hc5 : Chg [] w (wr.drewN nq) := hc.drewN _
            generalize hW : wr.drewN nq = W at *
            clear hT hA hc hW q0 q1 q2 q3
            obtain ⟨q0, q1, q2, q3⟩ := Q W hc5.below
            cases t0 with
            | true =>
              go_wp2_with fail
              have hT6 : Three W.drew w.heap.size bb sb b' s' ys ys := ⟨hT5.one.drew, hT5.two.drew, hT5.lo, hT5.apart⟩
              have hc6 : Chg [] w W.drew := hc5.drew
              have hA6 := hA5.drew
              go_region_held3 (fun w' => w'.cell? ⟨b1, off + m * 4 + 3, none⟩ = some (.int .u64 v)) (first | go_keep | exact (Q _ c6'.below).2.2.2 | exact (Q _ c7'.below).2.2.2)
                (first
                  | ((go_at_call 26; (with_reducible refine (take_any hT6.one f t v hv).mono ?_); rintro e w6 ⟨rfl, h6, c6⟩; have c6' : Chg [] w w6 := hc6.trans' c6 (by simp; omega); have h6' := hT6.two.chg c6 (by simp; omega) (by simp; omega)))
                  | ((go_at_call 26; (with_reducible refine (take_any h6' f t v hv).mono ?_); rintro e w7 ⟨rfl, h7, c7⟩; have c7' : Chg [] w w7 := c6'.trans' c7 (by simp; omega))))
              have hT9 : Three w7 w.heap.size bb sb b' s' (aTake 3 ys f t v) (aTake 3 ys f t v) := ⟨h6.chg c7 (by simp; omega) (by simp; omega), h7, hT5.lo, hT5.apart⟩
              have hA9 := (hA6.chg c6 (by simp; omega) (by simp; omega)).chg c7 (by simp; omega) (by simp; omega)
              have hc9 := c7'
              generalize aTake 3 ys f t v = vs at *
              clear hT5 hA5 hc5 hT6 hc6 hA6 q0 q1 q2 q3 h6 c6 c6' h6' h7 c7 c7'
              obtain ⟨W9, rfl⟩ : ∃ W9, W9 = w7 := ⟨_, rfl⟩
              go_wp2_with fail
              obtain ⟨j1, j2⟩ := (⟨hT9.one, hT9.two⟩ : Acc W9 bb sb 3 vs ∧ Acc W9 b' s' 3 vs)
              go_loop [12] (fun i => ∃ j : Nat, j ≤ 3 ∧ i = .int .i64 j) (fun i => 3 - (intOf i).toNat)
              case atStart => exact ⟨0, by omega, rfl⟩
              case round =>
                obtain ⟨j, hj, rfl⟩ := hrel
                by_cases hj3 : j < 3
                · go_wp2_with fail
                  refine (free_any j1 j 0).mono ?_
                  rintro e w' ⟨rfl, rfl⟩
                  go_wp2_with fail
                  refine (free_any j2 j 0).mono ?_
                  rintro e w' ⟨rfl, rfl⟩
                  go_wp2_with fail
                  refine (free_any j1 j 1).mono ?_
                  rintro e w' ⟨rfl, rfl⟩
                  go_wp2_with fail
                  refine (free_any j2 j 1).mono ?_
                  rintro e w' ⟨rfl, rfl⟩
                  go_wp2_with fail
                  go_round
                  case rel => exact ⟨j + 1, by omega, by go_num⟩
                  case measure => simp [intOf]; omega
                · clear j1 j2
                  go_wp2_with fail
                  go_roundw
                  case rel => exact ⟨m + 1, by omega, by go_num, hc9, ⟨_, hA9⟩, _, hT9⟩
                  case measure => simp [intOf]; omega
            | false =>
              obtain ⟨g, hg, hg9⟩ := and255_u64 v
              go_wp2_with fail
              refine (put_any hA5 f t g ⟨by omega, by omega⟩).mono ?_
              rintro e w7 ⟨rfl, hA9, c7⟩
              have hc9 : Chg [] w w7 := hc5.trans' c7 (by simp; omega)
              obtain ⟨vs, hvs⟩ : ∃ vs, vs = ys := ⟨_, rfl⟩
              have hT9 : Three w7 w.heap.size bb sb b' s' vs vs := by rw [hvs]; exact ⟨hT5.one.chg c7 (by simp; omega) (by simp; omega), hT5.two.chg c7 (by simp; omega) (by simp; omega), hT5.lo, hT5.apart⟩
              clear hT5 hA5 hc5 q0 q1 q2 q3 c7 hg hvs
              obtain ⟨W9, rfl⟩ : ∃ W9, W9 = w7 := ⟨_, rfl⟩
              go_wp2_with fail
              obtain ⟨j1, j2⟩ := (⟨hT9.one, hT9.two⟩ : Acc W9 bb sb 3 vs ∧ Acc W9 b' s' 3 vs)
              go_loop [12] (fun i => ∃ j : Nat, j ≤ 3 ∧ i = .int .i64 j) (fun i => 3 - (intOf i).toNat)
              case atStart => exact ⟨0, by omega, rfl⟩
              case round =>
                obtain ⟨j, hj, rfl⟩ := hrel
                by_cases hj3 : j < 3
                · go_wp2_with fail
                  refine (free_any j1 j 0).mono ?_
                  rintro e w' ⟨rfl, rfl⟩
                  go_wp2_with fail
                  refine (free_any j2 j 0).mono ?_
                  rintro e w' ⟨rfl, rfl⟩
                  go_wp2_with fail
                  refine (free_any j1 j 1).mono ?_
                  rintro e w' ⟨rfl, rfl⟩
                  go_wp2_with fail
                  refine (free_any j2 j 1).mono ?_
                  rintro e w' ⟨rfl, rfl⟩
                  go_wp2_with fail
                  go_round
                  case rel => exact ⟨j + 1, by omega, by go_num⟩
                  case measure => simp [intOf]; omega
                · clear j1 j2
                  go_wp2_with fail
                  go_roundw
                  case rel => exact ⟨m + 1, by omega, by go_num, hc9, ⟨_, hA9⟩, _, hT9⟩
                  case measure => simp [intOf]; omega
          · by_cases hm1 : m < n1
            all_goals
              go_wp2_with fail
              refine (awake6 _).mono ?_
              rintro e w' ⟨rfl, hw⟩
              go_wp2_with fail
              go_ret
              exact ⟨rfl, hc.below.trans (hw.mono hc.size)⟩
end Go.Proofs.Ytkjkkchpicehoaa
