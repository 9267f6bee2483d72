import Derived.Test.YtkjkkchpicehoaaAcct5
import Derived.Test.YtkjkkchpicehoaaRef6A
import Derived.Test.YtkjkkchpicehoaaShell
import Derived.Deep.QuietTactic
import Derived.BigQuiet
namespace Go.Proofs.Ytkjkkchpicehoaa
set_option linter.unusedVariables false
open Go Go.Proofs Go.RowKit

theorem RAcc.lt {w : World} {b s n : Nat} {xs : List Int} (h : RAcc w b s n xs) : b < w.heap.size ∧ s < w.heap.size := ⟨h.head.elim fun c g => g.2.2.lt, h.row.lt⟩
/-- The program's accounts and the reference's, apart. -/
structure Two (w : World) (B b s b' s' n : Nat) (xs ys : List Int) : Prop where
  one : Acc w b s n xs
  two : RAcc w b' s' n ys
  lo : B ≤ b ∧ B ≤ s ∧ B ≤ b' ∧ B ≤ s'
  apart : b ≠ b' ∧ b ≠ s' ∧ s ≠ b' ∧ s ≠ s'

set_option maxRecDepth 100000 in
set_option maxHeartbeats 4000000 in
theorem plays_false (cl : Int) (a1 : Option Addr) (n1 cap1 : Nat) (at_ : Int) (w : World) (h1 : SRec [none, some .i64, some .i64, some .u64] w a1 n1 cap1) :
    Calls Try.prog 11 #[.int .i64 cl, .slice a1 n1 cap1, .bool false, .int .i64 at_] w fun e w' => e = .returned (.bool true) ∧ Below w.heap.size w w' := by
  have n1m : n1 ≤ 9223372036854775807 := by have := h1.1; have := h1.2.1; omega
  have H1 := Lib.hid h1; clear h1
  go_enter Try.func11, Try.ntmps11
  go_wp2_with fail
  refine (new_any _ _).mono ?_
  rintro e w1 ⟨b, s, rfl, g1, c1, g2, g3⟩
  go_wp2_with fail
  refine (rnew_any _ _).mono ?_
  rintro e w2 ⟨b', s', rfl, g1', c2, g2', g3'⟩
  obtain ⟨n, hn⟩ : ∃ n, n = aN cl := ⟨_, rfl⟩
  rw [← hn] at g1 g1'
  have T : Two w2 w.heap.size b s b' s' n (zeros (n * 2)) (zeros (n * 2)) := by
    have hl := g1.lt
    have := c1.size
    exact ⟨g1.chg c2 (by simp) (by simp), g1', ⟨by omega, by omega, by omega, by omega⟩, ⟨by omega, by omega, by omega, by omega⟩⟩
  have c12 := c1.trans c2
  clear g1 c1 g2 g3 g1' c2 g2' g3' hn
  go_wp2_with fail
  go_loopw [9, 11] (fun p i wr => ∃ (m : Nat) (b s : Nat) (xs : List Int), m ≤ n1 ∧ p = .pointer (some ⟨b, 0, none⟩) ∧ i = .int .i64 m ∧ Chg [] w wr ∧ Two wr w.heap.size b s b' s' n xs xs) (fun _ i _ => n1 - (intOf i).toNat)
  case atStart => exact ⟨0, b, s, _, by omega, rfl, rfl, c12, T⟩
  case round =>
    clear T c12
    obtain ⟨m, b, s, xs, hm, rfl, rfl, hc, hT⟩ := hrel
    by_cases hlt2 : m < n1 ∧ m < 40
    · obtain ⟨hm1, hm2⟩ := hlt2
      obtain ⟨b1, off, t0, cc, ss, v, rfl, ic, is, hv, Q⟩ := H1.out.get_biiu hm1
      obtain ⟨q0, q1, q2, q3⟩ := Q wr hc.below
      by_cases heq : ((m : Int) == bits BinOp.and .i64 at_ 31) = true
      · go_wp2_with fail
        go_quiet (fail)
        have hT5 : Two (wr.drewN nq) w.heap.size b s b' s' n xs xs := ⟨hT.one.drewN _, hT.two.drewN _, hT.lo, hT.apart⟩
        have hc5 : Chg [] w (wr.drewN nq) := hc.drewN _
        generalize hW : wr.drewN nq = W at *
        clear hT hc hW q0 q1 q2 q3
        go_wp2_with fail
        refine (copy_any hT5.one).mono ?_
        rintro e w3 ⟨bb, sb, rfl, h3, c3, r1, r2⟩
        have z1 := hT5.one.lt
        have z2 := hT5.two.lt
        have z3 := hc5.size
        have h3A := hT5.one.chg c3 (by simp) (by simp)
        have h3R := hT5.two.chg c3 (by simp) (by simp)
        have hc3 : Chg [] w w3 := hc5.trans c3
        obtain ⟨l1, l2, l3, l4⟩ := hT5.lo
        obtain ⟨p1, p2, p3, p4⟩ := hT5.apart
        clear hT5 hc5 c3
        go_wp2_with fail
        refine (put_any h3A _ _ 1 ⟨by omega, by omega⟩).mono ?_
        rintro e w4 ⟨rfl, h4A, c4⟩
        have hc : Chg [] w w4 := hc3.trans' c4 (by simp; omega)
        have hT : Two w4 w.heap.size bb sb b' s' n xs xs := ⟨h3.chg c4 (by simp; omega) (by simp; omega), h3R.chg c4 (by simp; omega) (by simp; omega), ⟨by omega, by omega, l3, l4⟩, ⟨by omega, by omega, by omega, by omega⟩⟩
        clear h3 h3A h3R hc3 h4A c4 r1 r2 z1 z2 z3 l1 l2 l3 l4 p1 p2 p3 p4 heq
        cases t0 with
        | true =>
          have T1 := hT.one
          obtain ⟨l1, l2, l3, l4⟩ := hT.lo
          obtain ⟨p1, p2, p3, p4⟩ := hT.apart
          go_wp2_with fail
          refine (put_any hT.one _ _ v hv).mono ?_
          rintro e w5 ⟨rfl, h5, c5⟩
          have h5' := hT.two.chg c5 (by simp; omega) (by simp; omega)
          have hc5 : Chg [] w w5 := hc.trans' c5 (by simp; omega)
          obtain ⟨q0, q1, q2, q3⟩ := Q w5 hc5.below
          clear T1 hT hc c5
          go_wp2_with fail
          refine (take_any h5 _ _ v hv).mono ?_
          rintro e w6 ⟨rfl, h6, c6⟩
          have h6' := h5'.chg c6 (by simp; omega) (by simp; omega)
          have hc6 : Chg [] w w6 := hc5.trans' c6 (by simp; omega)
          clear h5 h5' hc5 c6 q0 q1 q2 q3
          go_wp2_with fail
          refine (rput_any h6' _ _ v hv).mono ?_
          rintro e w7 ⟨rfl, h7', c7⟩
          have h7 := h6.chg c7 (by simp; omega) (by simp; omega)
          have hc7 : Chg [] w w7 := hc6.trans' c7 (by simp; omega)
          clear h6 h6' hc6 c7
          go_wp2_with fail
          refine (rtake_any h7' _ _ v hv).mono ?_
          rintro e w8 ⟨rfl, h8', c8⟩
          have h8 := h7.chg c8 (by simp; omega) (by simp; omega)
          have hc8 : Chg [] w w8 := hc7.trans' c8 (by simp; omega)
          clear h7 h7' hc7 c8
          go_wp2_with fail
          refine (sumA_any h8 _).mono ?_
          rintro e w9 ⟨rfl, c9⟩
          have h9 := h8.chg c9 (by simp) (by simp)
          have h9' := h8'.chg c9 (by simp) (by simp)
          have hc9 : Chg [] w w9 := hc8.trans c9
          clear h8 h8' hc8 c9
          go_wp2_with fail
          refine (rsumA_any h9' _).mono ?_
          rintro e w10 ⟨rfl, c10⟩
          have h10 := h9.chg c10 (by simp) (by simp)
          have h10' := h9'.chg c10 (by simp) (by simp)
          have hc10 : Chg [] w w10 := hc9.trans c10
          clear h9 h9' hc9 c10
          go_wp2_with fail
          refine (free_any h10 _ _).mono ?_
          rintro e w' ⟨rfl, rfl⟩
          go_wp2_with fail
          refine (rfree_any h10' _ _).mono ?_
          rintro e w' ⟨rfl, rfl⟩
          have hT10 : Two w10 w.heap.size _ _ b' s' n _ _ := ⟨h10, h10', ⟨l1, l2, l3, l4⟩, ⟨p1, p2, p3, p4⟩⟩
          clear h10 h10'
          go_wp2_with fail
          go_roundw
          case rel => exact ⟨m + 1, _, _, _, by omega, rfl, by go_num, hc10, hT10⟩
          case measure => simp [intOf]; omega
        | false =>
          have T1 := hT.one
          obtain ⟨l1, l2, l3, l4⟩ := hT.lo
          obtain ⟨p1, p2, p3, p4⟩ := hT.apart
          go_wp2_with fail
          refine (put_any hT.one _ _ v hv).mono ?_
          rintro e w5 ⟨rfl, h5, c5⟩
          have h5' := hT.two.chg c5 (by simp; omega) (by simp; omega)
          have hc5 : Chg [] w w5 := hc.trans' c5 (by simp; omega)
          obtain ⟨q0, q1, q2, q3⟩ := Q w5 hc5.below
          clear T1 hT hc c5
          go_wp2_with fail
          refine (rput_any h5' _ _ v hv).mono ?_
          rintro e w8 ⟨rfl, h8', c8⟩
          have h8 := h5.chg c8 (by simp; omega) (by simp; omega)
          have hc8 : Chg [] w w8 := hc5.trans' c8 (by simp; omega)
          clear h5 h5' hc5 c8 q0 q1 q2 q3
          go_wp2_with fail
          refine (sumA_any h8 _).mono ?_
          rintro e w9 ⟨rfl, c9⟩
          have h9 := h8.chg c9 (by simp) (by simp)
          have h9' := h8'.chg c9 (by simp) (by simp)
          have hc9 : Chg [] w w9 := hc8.trans c9
          clear h8 h8' hc8 c9
          go_wp2_with fail
          refine (rsumA_any h9' _).mono ?_
          rintro e w10 ⟨rfl, c10⟩
          have h10 := h9.chg c10 (by simp) (by simp)
          have h10' := h9'.chg c10 (by simp) (by simp)
          have hc10 : Chg [] w w10 := hc9.trans c10
          clear h9 h9' hc9 c10
          go_wp2_with fail
          refine (free_any h10 _ _).mono ?_
          rintro e w' ⟨rfl, rfl⟩
          go_wp2_with fail
          refine (rfree_any h10' _ _).mono ?_
          rintro e w' ⟨rfl, rfl⟩
          have hT10 : Two w10 w.heap.size _ _ b' s' n _ _ := ⟨h10, h10', ⟨l1, l2, l3, l4⟩, ⟨p1, p2, p3, p4⟩⟩
          clear h10 h10'
          go_wp2_with fail
          go_roundw
          case rel => exact ⟨m + 1, _, _, _, by omega, rfl, by go_num, hc10, hT10⟩
          case measure => simp [intOf]; omega
      · have heq' : ((m : Int) == bits BinOp.and .i64 at_ 31) = false := by simpa using heq
        clear heq
        go_wp2_with fail
        go_quiet (fail)
        have hT5 : Two (wr.drewN nq) w.heap.size b s b' s' n xs xs := ⟨hT.one.drewN _, hT.two.drewN _, hT.lo, hT.apart⟩
        have hc5 : Chg [] w (wr.drewN nq) := hc.drewN _
        generalize hW : wr.drewN nq = W at *
        clear hT hc hW q0 q1 q2 q3
        have hT := hT5
        have hc := hc5
        clear hT5 hc5
        cases t0 with
        | true =>
          have T1 := hT.one
          obtain ⟨l1, l2, l3, l4⟩ := hT.lo
          obtain ⟨p1, p2, p3, p4⟩ := hT.apart
          go_wp2_with fail
          refine (put_any hT.one _ _ v hv).mono ?_
          rintro e w5 ⟨rfl, h5, c5⟩
          have h5' := hT.two.chg c5 (by simp; omega) (by simp; omega)
          have hc5 : Chg [] w w5 := hc.trans' c5 (by simp; omega)
          obtain ⟨q0, q1, q2, q3⟩ := Q w5 hc5.below
          clear T1 hT hc c5
          go_wp2_with fail
          refine (take_any h5 _ _ v hv).mono ?_
          rintro e w6 ⟨rfl, h6, c6⟩
          have h6' := h5'.chg c6 (by simp; omega) (by simp; omega)
          have hc6 : Chg [] w w6 := hc5.trans' c6 (by simp; omega)
          clear h5 h5' hc5 c6 q0 q1 q2 q3
          go_wp2_with fail
          refine (rput_any h6' _ _ v hv).mono ?_
          rintro e w7 ⟨rfl, h7', c7⟩
          have h7 := h6.chg c7 (by simp; omega) (by simp; omega)
          have hc7 : Chg [] w w7 := hc6.trans' c7 (by simp; omega)
          clear h6 h6' hc6 c7
          go_wp2_with fail
          refine (rtake_any h7' _ _ v hv).mono ?_
          rintro e w8 ⟨rfl, h8', c8⟩
          have h8 := h7.chg c8 (by simp; omega) (by simp; omega)
          have hc8 : Chg [] w w8 := hc7.trans' c8 (by simp; omega)
          clear h7 h7' hc7 c8
          go_wp2_with fail
          refine (sumA_any h8 _).mono ?_
          rintro e w9 ⟨rfl, c9⟩
          have h9 := h8.chg c9 (by simp) (by simp)
          have h9' := h8'.chg c9 (by simp) (by simp)
          have hc9 : Chg [] w w9 := hc8.trans c9
          clear h8 h8' hc8 c9
          go_wp2_with fail
          refine (rsumA_any h9' _).mono ?_
          rintro e w10 ⟨rfl, c10⟩
          have h10 := h9.chg c10 (by simp) (by simp)
          have h10' := h9'.chg c10 (by simp) (by simp)
          have hc10 : Chg [] w w10 := hc9.trans c10
          clear h9 h9' hc9 c10
          go_wp2_with fail
          refine (free_any h10 _ _).mono ?_
          rintro e w' ⟨rfl, rfl⟩
          go_wp2_with fail
          refine (rfree_any h10' _ _).mono ?_
          rintro e w' ⟨rfl, rfl⟩
          have hT10 : Two w10 w.heap.size _ _ b' s' n _ _ := ⟨h10, h10', ⟨l1, l2, l3, l4⟩, ⟨p1, p2, p3, p4⟩⟩
          clear h10 h10'
          go_wp2_with fail
          go_roundw
          case rel => exact ⟨m + 1, _, _, _, by omega, rfl, by go_num, hc10, hT10⟩
          case measure => simp [intOf]; omega
        | false =>
          have T1 := hT.one
          obtain ⟨l1, l2, l3, l4⟩ := hT.lo
          obtain ⟨p1, p2, p3, p4⟩ := hT.apart
          go_wp2_with fail
          refine (put_any hT.one _ _ v hv).mono ?_
          rintro e w5 ⟨rfl, h5, c5⟩
          have h5' := hT.two.chg c5 (by simp; omega) (by simp; omega)
          have hc5 : Chg [] w w5 := hc.trans' c5 (by simp; omega)
          obtain ⟨q0, q1, q2, q3⟩ := Q w5 hc5.below
          clear T1 hT hc c5
          go_wp2_with fail
          refine (rput_any h5' _ _ v hv).mono ?_
          rintro e w8 ⟨rfl, h8', c8⟩
          have h8 := h5.chg c8 (by simp; omega) (by simp; omega)
          have hc8 : Chg [] w w8 := hc5.trans' c8 (by simp; omega)
          clear h5 h5' hc5 c8 q0 q1 q2 q3
          go_wp2_with fail
          refine (sumA_any h8 _).mono ?_
          rintro e w9 ⟨rfl, c9⟩
          have h9 := h8.chg c9 (by simp) (by simp)
          have h9' := h8'.chg c9 (by simp) (by simp)
          have hc9 : Chg [] w w9 := hc8.trans c9
          clear h8 h8' hc8 c9
          go_wp2_with fail
          refine (rsumA_any h9' _).mono ?_
          rintro e w10 ⟨rfl, c10⟩
          have h10 := h9.chg c10 (by simp) (by simp)
          have h10' := h9'.chg c10 (by simp) (by simp)
          have hc10 : Chg [] w w10 := hc9.trans c10
          clear h9 h9' hc9 c10
          go_wp2_with fail
          refine (free_any h10 _ _).mono ?_
          rintro e w' ⟨rfl, rfl⟩
          go_wp2_with fail
          refine (rfree_any h10' _ _).mono ?_
          rintro e w' ⟨rfl, rfl⟩
          have hT10 : Two w10 w.heap.size _ _ b' s' n _ _ := ⟨h10, h10', ⟨l1, l2, l3, l4⟩, ⟨p1, p2, p3, p4⟩⟩
          clear h10 h10'
          go_wp2_with fail
          go_roundw
          case rel => exact ⟨m + 1, _, _, _, by omega, rfl, by go_num, hc10, hT10⟩
          case measure => simp [intOf]; omega
    · by_cases hm1 : m < n1
      all_goals
        go_wp2_with fail
        refine (awake6 _).mono ?_
        rintro e w' ⟨rfl, hw⟩
        go_wp2_with fail
        go_ret
        exact ⟨rfl, hc.below.trans (hw.mono hc.size)⟩

set_option maxRecDepth 100000 in
set_option maxHeartbeats 4000000 in
theorem plays_true (cl : Int) (a1 : Option Addr) (n1 cap1 : Nat) (at_ : Int) (w : World) (h1 : SRec [none, some .i64, some .i64, some .u64] w a1 n1 cap1) :
    Calls Try.prog 11 #[.int .i64 cl, .slice a1 n1 cap1, .bool true, .int .i64 at_] w fun e w' => e = .returned (.bool true) ∧ Below w.heap.size w w' := by
  have n1m : n1 ≤ 9223372036854775807 := by have := h1.1; have := h1.2.1; omega
  have H1 := Lib.hid h1; clear h1
  go_enter Try.func11, Try.ntmps11
  go_wp2_with fail
  refine (new_any _ _).mono ?_
  rintro e w1 ⟨b, s, rfl, g1, c1, g2, g3⟩
  go_wp2_with fail
  refine (rnew_any _ _).mono ?_
  rintro e w2 ⟨b', s', rfl, g1', c2, g2', g3'⟩
  obtain ⟨n, hn⟩ : ∃ n, n = aN (bits BinOp.and IntKind.i64 cl 3) := ⟨_, rfl⟩
  rw [← hn] at g1 g1'
  have T : Two w2 w.heap.size b s b' s' n (zeros (n * 2)) (zeros (n * 2)) := by
    have hl := g1.lt
    have := c1.size
    exact ⟨g1.chg c2 (by simp) (by simp), g1', ⟨by omega, by omega, by omega, by omega⟩, ⟨by omega, by omega, by omega, by omega⟩⟩
  have c12 := c1.trans c2
  clear g1 c1 g2 g3 g1' c2 g2' g3' hn
  go_wp2_with fail
  go_loopw [9, 11] (fun p i wr => ∃ (m : Nat) (b s : Nat) (xs : List Int), m ≤ n1 ∧ p = .pointer (some ⟨b, 0, none⟩) ∧ i = .int .i64 m ∧ Chg [] w wr ∧ Two wr w.heap.size b s b' s' n xs xs) (fun _ i _ => n1 - (intOf i).toNat)
  case atStart => exact ⟨0, b, s, _, by omega, rfl, rfl, c12, T⟩
  case round =>
    clear T c12
    obtain ⟨m, b, s, xs, hm, rfl, rfl, hc, hT⟩ := hrel
    by_cases hlt2 : m < n1 ∧ m < 40
    · obtain ⟨hm1, hm2⟩ := hlt2
      obtain ⟨b1, off, t0, cc, ss, v, rfl, ic, is, hv, Q⟩ := H1.out.get_biiu hm1
      obtain ⟨q0, q1, q2, q3⟩ := Q wr hc.below
      by_cases heq : ((m : Int) == bits BinOp.and .i64 at_ 31) = true
      · go_wp2_with fail
        go_quiet (fail)
        have hT5 : Two (wr.drewN nq) w.heap.size b s b' s' n xs xs := ⟨hT.one.drewN _, hT.two.drewN _, hT.lo, hT.apart⟩
        have hc5 : Chg [] w (wr.drewN nq) := hc.drewN _
        generalize hW : wr.drewN nq = W at *
        clear hT hc hW q0 q1 q2 q3
        go_wp2_with fail
        refine (copy_any hT5.one).mono ?_
        rintro e w3 ⟨bb, sb, rfl, h3, c3, r1, r2⟩
        have z1 := hT5.one.lt
        have z2 := hT5.two.lt
        have z3 := hc5.size
        have h3A := hT5.one.chg c3 (by simp) (by simp)
        have h3R := hT5.two.chg c3 (by simp) (by simp)
        have hc3 : Chg [] w w3 := hc5.trans c3
        obtain ⟨l1, l2, l3, l4⟩ := hT5.lo
        obtain ⟨p1, p2, p3, p4⟩ := hT5.apart
        clear hT5 hc5 c3
        go_wp2_with fail
        refine (put_any h3A _ _ 1 ⟨by omega, by omega⟩).mono ?_
        rintro e w4 ⟨rfl, h4A, c4⟩
        have hc : Chg [] w w4 := hc3.trans' c4 (by simp; omega)
        have hT : Two w4 w.heap.size bb sb b' s' n xs xs := ⟨h3.chg c4 (by simp; omega) (by simp; omega), h3R.chg c4 (by simp; omega) (by simp; omega), ⟨by omega, by omega, l3, l4⟩, ⟨by omega, by omega, by omega, by omega⟩⟩
        clear h3 h3A h3R hc3 h4A c4 r1 r2 z1 z2 z3 l1 l2 l3 l4 p1 p2 p3 p4 heq
        cases t0 with
        | true =>
          have T1 := hT.one
          obtain ⟨l1, l2, l3, l4⟩ := hT.lo
          obtain ⟨p1, p2, p3, p4⟩ := hT.apart
          go_wp2_with fail
          refine (put_any hT.one _ _ v hv).mono ?_
          rintro e w5 ⟨rfl, h5, c5⟩
          have h5' := hT.two.chg c5 (by simp; omega) (by simp; omega)
          have hc5 : Chg [] w w5 := hc.trans' c5 (by simp; omega)
          obtain ⟨q0, q1, q2, q3⟩ := Q w5 hc5.below
          clear T1 hT hc c5
          go_wp2_with fail
          refine (take_any h5 _ _ v hv).mono ?_
          rintro e w6 ⟨rfl, h6, c6⟩
          have h6' := h5'.chg c6 (by simp; omega) (by simp; omega)
          have hc6 : Chg [] w w6 := hc5.trans' c6 (by simp; omega)
          clear h5 h5' hc5 c6 q0 q1 q2 q3
          go_wp2_with fail
          refine (rput_any h6' _ _ v hv).mono ?_
          rintro e w7 ⟨rfl, h7', c7⟩
          have h7 := h6.chg c7 (by simp; omega) (by simp; omega)
          have hc7 : Chg [] w w7 := hc6.trans' c7 (by simp; omega)
          clear h6 h6' hc6 c7
          go_wp2_with fail
          refine (rtake_any h7' _ _ v hv).mono ?_
          rintro e w8 ⟨rfl, h8', c8⟩
          have h8 := h7.chg c8 (by simp; omega) (by simp; omega)
          have hc8 : Chg [] w w8 := hc7.trans' c8 (by simp; omega)
          clear h7 h7' hc7 c8
          go_wp2_with fail
          refine (sumA_any h8 _).mono ?_
          rintro e w9 ⟨rfl, c9⟩
          have h9 := h8.chg c9 (by simp) (by simp)
          have h9' := h8'.chg c9 (by simp) (by simp)
          have hc9 : Chg [] w w9 := hc8.trans c9
          clear h8 h8' hc8 c9
          go_wp2_with fail
          refine (rsumA_any h9' _).mono ?_
          rintro e w10 ⟨rfl, c10⟩
          have h10 := h9.chg c10 (by simp) (by simp)
          have h10' := h9'.chg c10 (by simp) (by simp)
          have hc10 : Chg [] w w10 := hc9.trans c10
          clear h9 h9' hc9 c10
          go_wp2_with fail
          refine (free_any h10 _ _).mono ?_
          rintro e w' ⟨rfl, rfl⟩
          go_wp2_with fail
          refine (rfree_any h10' _ _).mono ?_
          rintro e w' ⟨rfl, rfl⟩
          have hT10 : Two w10 w.heap.size _ _ b' s' n _ _ := ⟨h10, h10', ⟨l1, l2, l3, l4⟩, ⟨p1, p2, p3, p4⟩⟩
          clear h10 h10'
          go_wp2_with fail
          go_roundw
          case rel => exact ⟨m + 1, _, _, _, by omega, rfl, by go_num, hc10, hT10⟩
          case measure => simp [intOf]; omega
        | false =>
          have T1 := hT.one
          obtain ⟨l1, l2, l3, l4⟩ := hT.lo
          obtain ⟨p1, p2, p3, p4⟩ := hT.apart
          go_wp2_with fail
          refine (put_any hT.one _ _ v hv).mono ?_
          rintro e w5 ⟨rfl, h5, c5⟩
          have h5' := hT.two.chg c5 (by simp; omega) (by simp; omega)
          have hc5 : Chg [] w w5 := hc.trans' c5 (by simp; omega)
          obtain ⟨q0, q1, q2, q3⟩ := Q w5 hc5.below
          clear T1 hT hc c5
          go_wp2_with fail
          refine (rput_any h5' _ _ v hv).mono ?_
          rintro e w8 ⟨rfl, h8', c8⟩
          have h8 := h5.chg c8 (by simp; omega) (by simp; omega)
          have hc8 : Chg [] w w8 := hc5.trans' c8 (by simp; omega)
          clear h5 h5' hc5 c8 q0 q1 q2 q3
          go_wp2_with fail
          refine (sumA_any h8 _).mono ?_
          rintro e w9 ⟨rfl, c9⟩
          have h9 := h8.chg c9 (by simp) (by simp)
          have h9' := h8'.chg c9 (by simp) (by simp)
          have hc9 : Chg [] w w9 := hc8.trans c9
          clear h8 h8' hc8 c9
          go_wp2_with fail
          refine (rsumA_any h9' _).mono ?_
          rintro e w10 ⟨rfl, c10⟩
          have h10 := h9.chg c10 (by simp) (by simp)
          have h10' := h9'.chg c10 (by simp) (by simp)
          have hc10 : Chg [] w w10 := hc9.trans c10
          clear h9 h9' hc9 c10
          go_wp2_with fail
          refine (free_any h10 _ _).mono ?_
          rintro e w' ⟨rfl, rfl⟩
          go_wp2_with fail
          refine (rfree_any h10' _ _).mono ?_
          rintro e w' ⟨rfl, rfl⟩
          have hT10 : Two w10 w.heap.size _ _ b' s' n _ _ := ⟨h10, h10', ⟨l1, l2, l3, l4⟩, ⟨p1, p2, p3, p4⟩⟩
          clear h10 h10'
          go_wp2_with fail
          go_roundw
          case rel => exact ⟨m + 1, _, _, _, by omega, rfl, by go_num, hc10, hT10⟩
          case measure => simp [intOf]; omega
      · have heq' : ((m : Int) == bits BinOp.and .i64 at_ 31) = false := by simpa using heq
        clear heq
        go_wp2_with fail
        go_quiet (fail)
        have hT5 : Two (wr.drewN nq) w.heap.size b s b' s' n xs xs := ⟨hT.one.drewN _, hT.two.drewN _, hT.lo, hT.apart⟩
        have hc5 : Chg [] w (wr.drewN nq) := hc.drewN _
        generalize hW : wr.drewN nq = W at *
        clear hT hc hW q0 q1 q2 q3
        have hT := hT5
        have hc := hc5
        clear hT5 hc5
        cases t0 with
        | true =>
          have T1 := hT.one
          obtain ⟨l1, l2, l3, l4⟩ := hT.lo
          obtain ⟨p1, p2, p3, p4⟩ := hT.apart
          go_wp2_with fail
          refine (put_any hT.one _ _ v hv).mono ?_
          rintro e w5 ⟨rfl, h5, c5⟩
          have h5' := hT.two.chg c5 (by simp; omega) (by simp; omega)
          have hc5 : Chg [] w w5 := hc.trans' c5 (by simp; omega)
          obtain ⟨q0, q1, q2, q3⟩ := Q w5 hc5.below
          clear T1 hT hc c5
          go_wp2_with fail
          refine (take_any h5 _ _ v hv).mono ?_
          rintro e w6 ⟨rfl, h6, c6⟩
          have h6' := h5'.chg c6 (by simp; omega) (by simp; omega)
          have hc6 : Chg [] w w6 := hc5.trans' c6 (by simp; omega)
          clear h5 h5' hc5 c6 q0 q1 q2 q3
          go_wp2_with fail
          refine (rput_any h6' _ _ v hv).mono ?_
          rintro e w7 ⟨rfl, h7', c7⟩
          have h7 := h6.chg c7 (by simp; omega) (by simp; omega)
          have hc7 : Chg [] w w7 := hc6.trans' c7 (by simp; omega)
          clear h6 h6' hc6 c7
          go_wp2_with fail
          refine (rtake_any h7' _ _ v hv).mono ?_
          rintro e w8 ⟨rfl, h8', c8⟩
          have h8 := h7.chg c8 (by simp; omega) (by simp; omega)
          have hc8 : Chg [] w w8 := hc7.trans' c8 (by simp; omega)
          clear h7 h7' hc7 c8
          go_wp2_with fail
          refine (sumA_any h8 _).mono ?_
          rintro e w9 ⟨rfl, c9⟩
          have h9 := h8.chg c9 (by simp) (by simp)
          have h9' := h8'.chg c9 (by simp) (by simp)
          have hc9 : Chg [] w w9 := hc8.trans c9
          clear h8 h8' hc8 c9
          go_wp2_with fail
          refine (rsumA_any h9' _).mono ?_
          rintro e w10 ⟨rfl, c10⟩
          have h10 := h9.chg c10 (by simp) (by simp)
          have h10' := h9'.chg c10 (by simp) (by simp)
          have hc10 : Chg [] w w10 := hc9.trans c10
          clear h9 h9' hc9 c10
          go_wp2_with fail
          refine (free_any h10 _ _).mono ?_
          rintro e w' ⟨rfl, rfl⟩
          go_wp2_with fail
          refine (rfree_any h10' _ _).mono ?_
          rintro e w' ⟨rfl, rfl⟩
          have hT10 : Two w10 w.heap.size _ _ b' s' n _ _ := ⟨h10, h10', ⟨l1, l2, l3, l4⟩, ⟨p1, p2, p3, p4⟩⟩
          clear h10 h10'
          go_wp2_with fail
          go_roundw
          case rel => exact ⟨m + 1, _, _, _, by omega, rfl, by go_num, hc10, hT10⟩
          case measure => simp [intOf]; omega
        | false =>
          have T1 := hT.one
          obtain ⟨l1, l2, l3, l4⟩ := hT.lo
          obtain ⟨p1, p2, p3, p4⟩ := hT.apart
          go_wp2_with fail
          refine (put_any hT.one _ _ v hv).mono ?_
          rintro e w5 ⟨rfl, h5, c5⟩
          have h5' := hT.two.chg c5 (by simp; omega) (by simp; omega)
          have hc5 : Chg [] w w5 := hc.trans' c5 (by simp; omega)
          obtain ⟨q0, q1, q2, q3⟩ := Q w5 hc5.below
          clear T1 hT hc c5
          go_wp2_with fail
          refine (rput_any h5' _ _ v hv).mono ?_
          rintro e w8 ⟨rfl, h8', c8⟩
          have h8 := h5.chg c8 (by simp; omega) (by simp; omega)
          have hc8 : Chg [] w w8 := hc5.trans' c8 (by simp; omega)
          clear h5 h5' hc5 c8 q0 q1 q2 q3
          go_wp2_with fail
          refine (sumA_any h8 _).mono ?_
          rintro e w9 ⟨rfl, c9⟩
          have h9 := h8.chg c9 (by simp) (by simp)
          have h9' := h8'.chg c9 (by simp) (by simp)
          have hc9 : Chg [] w w9 := hc8.trans c9
          clear h8 h8' hc8 c9
          go_wp2_with fail
          refine (rsumA_any h9' _).mono ?_
          rintro e w10 ⟨rfl, c10⟩
          have h10 := h9.chg c10 (by simp) (by simp)
          have h10' := h9'.chg c10 (by simp) (by simp)
          have hc10 : Chg [] w w10 := hc9.trans c10
          clear h9 h9' hc9 c10
          go_wp2_with fail
          refine (free_any h10 _ _).mono ?_
          rintro e w' ⟨rfl, rfl⟩
          go_wp2_with fail
          refine (rfree_any h10' _ _).mono ?_
          rintro e w' ⟨rfl, rfl⟩
          have hT10 : Two w10 w.heap.size _ _ b' s' n _ _ := ⟨h10, h10', ⟨l1, l2, l3, l4⟩, ⟨p1, p2, p3, p4⟩⟩
          clear h10 h10'
          go_wp2_with fail
          go_roundw
          case rel => exact ⟨m + 1, _, _, _, by omega, rfl, by go_num, hc10, hT10⟩
          case measure => simp [intOf]; omega
    · by_cases hm1 : m < n1
      all_goals
        go_wp2_with fail
        refine (awake6 _).mono ?_
        rintro e w' ⟨rfl, hw⟩
        go_wp2_with fail
        go_ret
        exact ⟨rfl, hc.below.trans (hw.mono hc.size)⟩
end Go.Proofs.Ytkjkkchpicehoaa
