import Derived.Test.YtkjkkchpicehoaaRFee3
import Derived.Test.YtkjkkchpicehoaaHold4
import Derived.Test.YtkjkkchpicehoaaShell
import Derived.Deep.QuietTactic
import Derived.BigQuiet
namespace Go.Proofs.Ytkjkkchpicehoaa
set_option linter.unusedVariables false
open Go Go.Proofs Go.RowKit Go.Maps

theorem RAcc.lt {w : World} {b s n : Nat} {xs : List Int} (h : RAcc w b s n xs) : b < w.heap.size ∧ s < w.heap.size := ⟨h.head.elim fun c g => g.2.2.lt, h.row.lt⟩
theorem zeros_f (n : Nat) : fOf n (zeros n) = fun _ => 0 := by
  funext c
  unfold fOf zeros
  split
  · rw [List.getD]
    cases e : (List.replicate n (0 : Int))[c.toNat]? with
    | none => rfl
    | some v => exact List.eq_of_mem_replicate (List.mem_of_getElem? e)
  · rfl
theorem Fee.put {w w' : World} {fb mb b s n : Nat} {xs ys : List Int} {m : Nat} {f : Int → Int} {got : Int} (h : Fee w fb mb b s n xs m f got) (g : Chg [s] w w') (ha : Acc w' b s n ys) : Fee w' fb mb b s n ys m f got :=
  ⟨ha, h.hd.chg g (by have := h.ne; simp; omega), h.mp.chg g (by have := h.ne; simp; omega), h.ne, h.ug⟩
theorem RFee.put {w w' : World} {fb hb b s n : Nat} {xs ys hs : List Int} {got : Int} (h : RFee w fb hb b s n xs hs got) (g : Chg [s] w w') (ha : RAcc w' b s n ys) : RFee w' fb hb b s n ys hs got :=
  ⟨ha, h.hd.chg g (by have := h.ne; simp; omega), h.row.chg g (by have := h.ne; simp; omega), h.len, h.all, h.ne, h.ug⟩

theorem quiet_eq {P : Program} {f : FuncId} {args : Array Value} {w : World} {n : Nat} {v : Value}
    (h : Calls P f args (w.drewN n) fun e w' => e = .returned v ∧ w.drewN n = w') : Calls P f args (w.drewN n) fun e w'' => e = .returned v ∧ ∃ m, w'' = w.drewN m :=
  h.mono fun _ _ ⟨he, hm⟩ => ⟨he, n, hm.symm⟩
/-- No block of the one is a block of the other. -/
def Apart (l r : List Nat) : Prop := ∀ x ∈ l, x ∉ r
/-- The program's fees and the reference's. -/
structure Pair (w : World) (B fb mb b s fb' hb b' s' n : Nat) (xs : List Int) (mm : Nat) (got : Int) (hs : List Int) : Prop where
  one : Fee w fb mb b s n xs mm (fOf n hs) got
  two : RFee w fb' hb b' s' n xs hs got
  lo : B ≤ fb ∧ B ≤ mb ∧ B ≤ b ∧ B ≤ s ∧ B ≤ fb' ∧ B ≤ hb ∧ B ≤ b' ∧ B ≤ s'
  apart : Apart [fb', hb, b', s'] [fb, mb, b, s]
theorem Apart.fee {fb mb b s fb' hb b' s' : Nat} (h : Apart [fb', hb, b', s'] [fb, mb, b, s]) : (∀ x ∈ [fb', hb, b', s'], x ∉ [fb, mb, s] ∧ x ∉ [s]) ∧ (∀ x ∈ [fb, mb, b, s], x ∉ [fb', hb, s'] ∧ x ∉ [s']) := by
  refine ⟨fun x hx => ⟨fun hm => h x hx ?_, fun hm => h x hx ?_⟩, fun x hx => ⟨fun hm => h x ?_ hx, fun hm => h x ?_ hx⟩⟩
  · simp at hm ⊢; omega
  · simp at hm ⊢; omega
  · simp at hm ⊢; omega
  · simp at hm ⊢; omega
/-- The reference's fees, where the program's turn. -/
theorem Pair.two_after {w w' : World} {B fb mb b s fb' hb b' s' n : Nat} {xs : List Int} {mm : Nat} {got : Int} {hs : List Int} (h : Pair w B fb mb b s fb' hb b' s' n xs mm got hs) {S : List Nat} (hS : S = [fb, mb, s] ∨ S = [s]) (g : Chg S w w') : RFee w' fb' hb b' s' n xs hs got := by
  have a := h.apart.fee.1
  have a1 := a fb' (by simp); have a2 := a hb (by simp); have a3 := a b' (by simp); have a4 := a s' (by simp)
  rcases hS with rfl | rfl
  · exact h.two.chg g a1.1 a2.1 a3.1 a4.1
  · exact h.two.chg g a1.2 a2.2 a3.2 a4.2
theorem one_after {w w' : World} {fb mb b s fb' hb b' s' n : Nat} {xs : List Int} {mm : Nat} {f : Int → Int} {got : Int} (ap : Apart [fb', hb, b', s'] [fb, mb, b, s]) (h : Fee w fb mb b s n xs mm f got) {S : List Nat} (hS : S = [fb', hb, s'] ∨ S = [s']) (g : Chg S w w') : Fee w' fb mb b s n xs mm f got := by
  have a := ap.fee.2
  have a1 := a fb (by simp); have a2 := a mb (by simp); have a3 := a b (by simp); have a4 := a s (by simp)
  rcases hS with rfl | rfl
  · exact h.chg g a1.1 a2.1 a3.1 a4.1
  · exact h.chg g a1.2 a2.2 a3.2 a4.2

set_option maxRecDepth 100000 in
set_option maxHeartbeats 8000000 in
theorem hplays_false (cl : Int) (a1 : Option Addr) (n1 cap1 : Nat) (w : World) (h1 : SRec [some .i64, some .i64, some .u64] w a1 n1 cap1) :
    Calls Try.prog 14 #[.int .i64 cl, .slice a1 n1 cap1, .bool false] w fun e w' => e = .returned (.bool true) ∧ Below w.heap.size w w' := by
  have n1m : n1 ≤ 9223372036854775807 := by have := h1.1; have := h1.2.1; omega
  have H1 := Lib.hid h1; clear h1
  go_enter Try.func14, Try.ntmps14
  go_wp2_with fail
  refine (new_any _ _).mono ?_
  rintro e w1 ⟨b, s, rfl, g1, c1, y1, y2⟩
  go_wp2_with fail
  refine (rnew_any _ _).mono ?_
  rintro e w2 ⟨b', s', rfl, g2, c2, y3, y4⟩
  obtain ⟨n, hn⟩ : ∃ n, n = aN (bits BinOp.and IntKind.i64 cl 3) := ⟨_, rfl⟩
  rw [← hn] at g1 g2
  clear hn
  have l1 := g1.lt
  have g1 := g1.chg c2 (by simp) (by simp)
  have z1 := c1.size
  have z2 := c2.size
  have c2 := c1.trans c2
  have l2 := g2.lt
  go_wp2_with fail
  refine (feeNew_any g1).mono ?_
  rintro e w3 ⟨fb, mb, rfl, g3, c3, y5, y6⟩
  have g2 := g2.chg c3 (by simp) (by simp)
  have l3 : fb < w3.heap.size ∧ mb < w3.heap.size := ⟨g3.hd.lt, g3.mp.lt⟩
  have z3 := c3.size
  have c3 := c2.trans c3
  go_wp2_with fail
  refine (rfeeNew_any g2).mono ?_
  rintro e w4 ⟨fb', hb, rfl, g4, c4, y7, y8⟩
  have g3 := g3.chg c4 (by simp) (by simp) (by simp) (by simp)
  have c4 := c3.trans c4
  have lo : w.heap.size ≤ fb ∧ w.heap.size ≤ mb ∧ w.heap.size ≤ b ∧ w.heap.size ≤ s ∧ w.heap.size ≤ fb' ∧ w.heap.size ≤ hb ∧ w.heap.size ≤ b' ∧ w.heap.size ≤ s' := by omega
  have ap : Apart [fb', hb, b', s'] [fb, mb, b, s] := by
    intro x hx hy
    simp at hx hy
    have := g3.ne
    have := g4.ne
    omega
  have P0 : Pair w4 w.heap.size fb mb b s fb' hb b' s' n (zeros (n * 2)) 0 0 (zeros n) := ⟨by rw [zeros_f]; exact g3, g4, lo, ap⟩
  have HS1 : Hid (∀ x ∈ [fb, mb, s], x ∈ ([] : List Nat) ∨ w.heap.size ≤ x) := by show ∀ _, _; simp; omega
  have HS2 : Hid (∀ x ∈ [s], x ∈ ([] : List Nat) ∨ w.heap.size ≤ x) := by show ∀ _, _; simp; omega
  have HS3 : Hid (∀ x ∈ [fb', hb, s'], x ∈ ([] : List Nat) ∨ w.heap.size ≤ x) := by show ∀ _, _; simp; omega
  have HS4 : Hid (∀ x ∈ [s'], x ∈ ([] : List Nat) ∨ w.heap.size ≤ x) := by show ∀ _, _; simp; omega
  clear g1 g2 g3 g4 c1 c2 c3 y1 y2 y3 y4 y5 y6 y7 y8 z1 z2 z3 l1 l2 l3 lo ap
  go_wp2_with fail
  go_loopw [11] (fun i wr => ∃ (m : Nat) (xs : List Int) (mm : Nat) (got : Int) (hs : List Int), m ≤ n1 ∧ m ≤ 40 ∧ i = .int .i64 m ∧ Chg [] w wr ∧ Pair wr w.heap.size fb mb b s fb' hb b' s' n xs mm got hs ∧ mm ≤ 2 * m) (fun i _ => 40 - (intOf i).toNat)
  case atStart => exact ⟨0, _, 0, _, _, by omega, by omega, rfl, c4, P0, by omega⟩
  case round =>
    clear P0 c4
    obtain ⟨m, xs, mm, got, hs, hm, hm40, rfl, hc, hP, hmm⟩ := hrel
    have hmx : mm + 4 < maxLen := by unfold maxLen; omega
    have HMX := Lib.hid hmx
    clear hmx
    by_cases hlt2 : m < n1 ∧ m < 40
    · obtain ⟨hm1, hm2⟩ := hlt2
      obtain ⟨b1, off, kd, cc, v, rfl, ik, ic, hv, Q⟩ := H1.out.get_iiu hm1
      obtain ⟨q0, q1, q2⟩ := Q wr hc.below
      obtain ⟨t, hkk, ht8⟩ := and7_i64 kd
      have Ic := ic
      have Uv := hv
      have lo := hP.lo
      have ap := hP.apart
      clear lo
      have LO := Lib.hid hP.lo
      go_wp2_with fail
      go_quiet (fail)
      have hP5 : Pair (wr.drewN nq) w.heap.size fb mb b s fb' hb b' s' n xs mm got hs := ⟨hP.one.drewN _, hP.two.drewN _, hP.lo, hP.apart⟩
      have hc5 : Chg [] w (wr.drewN nq) := hc.drewN _
      generalize hW : wr.drewN nq = W at *
      clear hP hc hW q0 q1 q2
      have hP := hP5
      have hc := hc5
      clear hP5 hc5
      obtain ⟨q0, q1, q2⟩ := Q W hc.below
      rcases (by omega : t = 0 ∨ t = 1 ∨ (t = 2 ∨ t = 3 ∨ t = 4) ∨ 5 ≤ t) with rfl | rfl | ht | ht
      · skip
        go_wp2_with fail
        refine (settle_any hP.one cc v Ic Uv HMX.out).mono ?_
        rintro e w5 ⟨rfl, hF5, c5⟩
        have hR5 := hP.two_after (.inl rfl) c5
        have hc5 : Chg [] w w5 := hc.trans' c5 HS1.out
        clear c5 q0 q1 q2
        go_wp2_with fail
        refine (rsettle_any hR5 cc v Uv).mono ?_
        rintro e w9 ⟨hs9, rfl, hR9, he9, c9⟩
        rw [← he9] at hF5
        have hF9 := one_after ap hF5 (.inl rfl) c9
        have hc9 : Chg [] w w9 := hc5.trans' c9 HS3.out
        clear hR5 hF5 hc5 c9 hP hc he9
        
        have x2 := hR9.hd.at (i := 2) rfl
        go_wp2_with fail
        go_quiet ((first | (go_at_call 37; exact quiet_eq (held_any (hF9.drewN _) cc Ic)) | (go_at_call 47; exact quiet_eq (rof_any (hR9.drewN _) cc)) | (go_at_call 38; exact quiet_eq (got_any (hF9.drewN _))) | (go_at_call 29; exact quiet_eq (free_any (hF9.acc.drewN _) cc 1)) | (go_at_call 35; exact quiet_eq (rfree_any (hR9.acc.drewN _) cc 1))))
        have hP9 : Pair (w9.drewN nq) w.heap.size fb mb b s fb' hb b' s' n _ _ _ _ := ⟨hF9.drewN _, hR9.drewN _, LO.out, ap⟩
        have hc9 := hc9.drewN nq
        clear hF9 hR9 x2
        go_wp2_with fail
        go_roundw
        case rel => exact ⟨m + 1, _, _, _, _, by omega, by omega, by go_num, hc9, hP9, by omega⟩
        case measure => simp [intOf]; omega
      · skip
        go_wp2_with fail
        refine (forfeit_any hP.one cc Ic HMX.out).mono ?_
        rintro e w5 ⟨rfl, hF5, c5⟩
        have hR5 := hP.two_after (.inl rfl) c5
        have hc5 : Chg [] w w5 := hc.trans' c5 HS1.out
        clear c5 q0 q1 q2
        go_wp2_with fail
        refine (rforfeit_any hR5 cc).mono ?_
        rintro e w9 ⟨hs9, rfl, hR9, he9, c9⟩
        rw [← he9] at hF5
        have hF9 := one_after ap hF5 (.inl rfl) c9
        have hc9 : Chg [] w w9 := hc5.trans' c9 HS3.out
        clear hR5 hF5 hc5 c9 hP hc he9
        
        have x2 := hR9.hd.at (i := 2) rfl
        go_wp2_with fail
        go_quiet ((first | (go_at_call 37; exact quiet_eq (held_any (hF9.drewN _) cc Ic)) | (go_at_call 47; exact quiet_eq (rof_any (hR9.drewN _) cc)) | (go_at_call 38; exact quiet_eq (got_any (hF9.drewN _))) | (go_at_call 29; exact quiet_eq (free_any (hF9.acc.drewN _) cc 1)) | (go_at_call 35; exact quiet_eq (rfree_any (hR9.acc.drewN _) cc 1))))
        have hP9 : Pair (w9.drewN nq) w.heap.size fb mb b s fb' hb b' s' n _ _ _ _ := ⟨hF9.drewN _, hR9.drewN _, LO.out, ap⟩
        have hc9 := hc9.drewN nq
        clear hF9 hR9 x2
        go_wp2_with fail
        go_roundw
        case rel => exact ⟨m + 1, _, _, _, _, by omega, by omega, by go_num, hc9, hP9, by omega⟩
        case measure => simp [intOf]; omega
      · rcases ht with rfl | rfl | rfl
        all_goals
          go_wp2_with fail
          refine (put_any hP.one.acc cc 1 v Uv).mono ?_
          rintro e w5 ⟨rfl, h5, c5⟩
          have hF5 := hP.one.put c5 h5
          have hR5 := hP.two_after (.inr rfl) c5
          have hc5 : Chg [] w w5 := hc.trans' c5 HS2.out
          clear h5 c5 q0 q1 q2
          go_wp2_with fail
          refine (rput_any hR5.acc cc 1 v Uv).mono ?_
          rintro e w9 ⟨rfl, h9, c9⟩
          have hR9 := hR5.put c9 h9
          have hF9 := one_after ap hF5 (.inr rfl) c9
          have hc9 : Chg [] w w9 := hc5.trans' c9 HS4.out
          clear hR5 hF5 hc5 h9 c9 hP hc
          
          have x2 := hR9.hd.at (i := 2) rfl
          go_wp2_with fail
          go_quiet ((first | (go_at_call 37; exact quiet_eq (held_any (hF9.drewN _) cc Ic)) | (go_at_call 47; exact quiet_eq (rof_any (hR9.drewN _) cc)) | (go_at_call 38; exact quiet_eq (got_any (hF9.drewN _))) | (go_at_call 29; exact quiet_eq (free_any (hF9.acc.drewN _) cc 1)) | (go_at_call 35; exact quiet_eq (rfree_any (hR9.acc.drewN _) cc 1))))
          have hP9 : Pair (w9.drewN nq) w.heap.size fb mb b s fb' hb b' s' n _ _ _ _ := ⟨hF9.drewN _, hR9.drewN _, LO.out, ap⟩
          have hc9 := hc9.drewN nq
          clear hF9 hR9 x2
          go_wp2_with fail
          go_roundw
          case rel => exact ⟨m + 1, _, _, _, _, by omega, by omega, by go_num, hc9, hP9, by omega⟩
          case measure => simp [intOf]; omega
      · have e0 : ((t : Int) == 0) = false := by rw [beq_eq_false_iff_ne]; omega
        have e1 : ((t : Int) == 1) = false := by rw [beq_eq_false_iff_ne]; omega
        have e2 : ((t : Int) == 2) = false := by rw [beq_eq_false_iff_ne]; omega
        have e3 : ((t : Int) == 3) = false := by rw [beq_eq_false_iff_ne]; omega
        have e4 : ((t : Int) == 4) = false := by rw [beq_eq_false_iff_ne]; omega
        go_wp2_with fail
        refine (hold_any hP.one cc v Ic Uv HMX.out).mono ?_
        rintro e w5 ⟨rfl, hF5, c5⟩
        have hR5 := hP.two_after (.inl rfl) c5
        have hc5 : Chg [] w w5 := hc.trans' c5 HS1.out
        clear c5 q0 q1 q2
        go_wp2_with fail
        refine (rhold_any hR5 cc v Uv).mono ?_
        rintro e w9 ⟨hs9, rfl, hR9, he9, c9⟩
        rw [← he9] at hF5
        have hF9 := one_after ap hF5 (.inl rfl) c9
        have hc9 : Chg [] w w9 := hc5.trans' c9 HS3.out
        clear hR5 hF5 hc5 c9 hP hc he9
        
        have x2 := hR9.hd.at (i := 2) rfl
        go_wp2_with fail
        go_quiet ((first | (go_at_call 37; exact quiet_eq (held_any (hF9.drewN _) cc Ic)) | (go_at_call 47; exact quiet_eq (rof_any (hR9.drewN _) cc)) | (go_at_call 38; exact quiet_eq (got_any (hF9.drewN _))) | (go_at_call 29; exact quiet_eq (free_any (hF9.acc.drewN _) cc 1)) | (go_at_call 35; exact quiet_eq (rfree_any (hR9.acc.drewN _) cc 1))))
        have hP9 : Pair (w9.drewN nq) w.heap.size fb mb b s fb' hb b' s' n _ _ _ _ := ⟨hF9.drewN _, hR9.drewN _, LO.out, ap⟩
        have hc9 := hc9.drewN nq
        clear hF9 hR9 x2
        go_wp2_with fail
        go_roundw
        case rel => exact ⟨m + 1, _, _, _, _, by omega, by omega, by go_num, hc9, hP9, by omega⟩
        case measure => simp [intOf]; omega
    · by_cases hm1 : m < n1
      all_goals
        go_wp2_with fail
        refine (awake7 _).mono ?_
        rintro e w' ⟨rfl, hw⟩
        go_wp2_with fail
        go_ret
        exact ⟨rfl, hc.below.trans (hw.mono hc.size)⟩

set_option maxRecDepth 100000 in
set_option maxHeartbeats 8000000 in
theorem hplays_true (cl : Int) (a1 : Option Addr) (n1 cap1 : Nat) (w : World) (h1 : SRec [some .i64, some .i64, some .u64] w a1 n1 cap1) :
    Calls Try.prog 14 #[.int .i64 cl, .slice a1 n1 cap1, .bool true] w fun e w' => e = .returned (.bool true) ∧ Below w.heap.size w w' := by
  have n1m : n1 ≤ 9223372036854775807 := by have := h1.1; have := h1.2.1; omega
  have H1 := Lib.hid h1; clear h1
  go_enter Try.func14, Try.ntmps14
  go_wp2_with fail
  refine (new_any _ _).mono ?_
  rintro e w1 ⟨b, s, rfl, g1, c1, y1, y2⟩
  go_wp2_with fail
  refine (rnew_any _ _).mono ?_
  rintro e w2 ⟨b', s', rfl, g2, c2, y3, y4⟩
  obtain ⟨n, hn⟩ : ∃ n, n = aN (bits BinOp.and IntKind.i64 cl 3) := ⟨_, rfl⟩
  rw [← hn] at g1 g2
  clear hn
  have l1 := g1.lt
  have g1 := g1.chg c2 (by simp) (by simp)
  have z1 := c1.size
  have z2 := c2.size
  have c2 := c1.trans c2
  have l2 := g2.lt
  go_wp2_with fail
  refine (feeNew_any g1).mono ?_
  rintro e w3 ⟨fb, mb, rfl, g3, c3, y5, y6⟩
  have g2 := g2.chg c3 (by simp) (by simp)
  have l3 : fb < w3.heap.size ∧ mb < w3.heap.size := ⟨g3.hd.lt, g3.mp.lt⟩
  have z3 := c3.size
  have c3 := c2.trans c3
  go_wp2_with fail
  refine (rfeeNew_any g2).mono ?_
  rintro e w4 ⟨fb', hb, rfl, g4, c4, y7, y8⟩
  have g3 := g3.chg c4 (by simp) (by simp) (by simp) (by simp)
  have c4 := c3.trans c4
  have lo : w.heap.size ≤ fb ∧ w.heap.size ≤ mb ∧ w.heap.size ≤ b ∧ w.heap.size ≤ s ∧ w.heap.size ≤ fb' ∧ w.heap.size ≤ hb ∧ w.heap.size ≤ b' ∧ w.heap.size ≤ s' := by omega
  have ap : Apart [fb', hb, b', s'] [fb, mb, b, s] := by
    intro x hx hy
    simp at hx hy
    have := g3.ne
    have := g4.ne
    omega
  have P0 : Pair w4 w.heap.size fb mb b s fb' hb b' s' n (zeros (n * 2)) 0 0 (zeros n) := ⟨by rw [zeros_f]; exact g3, g4, lo, ap⟩
  have HS1 : Hid (∀ x ∈ [fb, mb, s], x ∈ ([] : List Nat) ∨ w.heap.size ≤ x) := by show ∀ _, _; simp; omega
  have HS2 : Hid (∀ x ∈ [s], x ∈ ([] : List Nat) ∨ w.heap.size ≤ x) := by show ∀ _, _; simp; omega
  have HS3 : Hid (∀ x ∈ [fb', hb, s'], x ∈ ([] : List Nat) ∨ w.heap.size ≤ x) := by show ∀ _, _; simp; omega
  have HS4 : Hid (∀ x ∈ [s'], x ∈ ([] : List Nat) ∨ w.heap.size ≤ x) := by show ∀ _, _; simp; omega
  clear g1 g2 g3 g4 c1 c2 c3 y1 y2 y3 y4 y5 y6 y7 y8 z1 z2 z3 l1 l2 l3 lo ap
  go_wp2_with fail
  go_loopw [11] (fun i wr => ∃ (m : Nat) (xs : List Int) (mm : Nat) (got : Int) (hs : List Int), m ≤ n1 ∧ m ≤ 40 ∧ i = .int .i64 m ∧ Chg [] w wr ∧ Pair wr w.heap.size fb mb b s fb' hb b' s' n xs mm got hs ∧ mm ≤ 2 * m) (fun i _ => 40 - (intOf i).toNat)
  case atStart => exact ⟨0, _, 0, _, _, by omega, by omega, rfl, c4, P0, by omega⟩
  case round =>
    clear P0 c4
    obtain ⟨m, xs, mm, got, hs, hm, hm40, rfl, hc, hP, hmm⟩ := hrel
    have hmx : mm + 4 < maxLen := by unfold maxLen; omega
    have HMX := Lib.hid hmx
    clear hmx
    by_cases hlt2 : m < n1 ∧ m < 40
    · obtain ⟨hm1, hm2⟩ := hlt2
      obtain ⟨b1, off, kd, cc, v, rfl, ik, ic, hv, Q⟩ := H1.out.get_iiu hm1
      obtain ⟨q0, q1, q2⟩ := Q wr hc.below
      obtain ⟨t, hkk, ht8⟩ := and7_i64 kd
      obtain ⟨cq, hcc, hc4⟩ := and3_i64 cc
      obtain ⟨vq, hvv, hv6⟩ := and63_u64 v
      have Ic : I (cq : Int) := ⟨by omega, by omega⟩
      have Uv : U (vq : Int) := ⟨by omega, by omega⟩
      have lo := hP.lo
      have ap := hP.apart
      clear lo
      have LO := Lib.hid hP.lo
      go_wp2_with fail
      go_quiet (fail)
      have hP5 : Pair (wr.drewN nq) w.heap.size fb mb b s fb' hb b' s' n xs mm got hs := ⟨hP.one.drewN _, hP.two.drewN _, hP.lo, hP.apart⟩
      have hc5 : Chg [] w (wr.drewN nq) := hc.drewN _
      generalize hW : wr.drewN nq = W at *
      clear hP hc hW q0 q1 q2
      have hP := hP5
      have hc := hc5
      clear hP5 hc5
      obtain ⟨q0, q1, q2⟩ := Q W hc.below
      rcases (by omega : t = 0 ∨ t = 1 ∨ (t = 2 ∨ t = 3 ∨ t = 4) ∨ 5 ≤ t) with rfl | rfl | ht | ht
      · skip
        go_wp2_with fail
        refine (settle_any hP.one cq vq Ic Uv HMX.out).mono ?_
        rintro e w5 ⟨rfl, hF5, c5⟩
        have hR5 := hP.two_after (.inl rfl) c5
        have hc5 : Chg [] w w5 := hc.trans' c5 HS1.out
        clear c5 q0 q1 q2
        go_wp2_with fail
        refine (rsettle_any hR5 cq vq Uv).mono ?_
        rintro e w9 ⟨hs9, rfl, hR9, he9, c9⟩
        rw [← he9] at hF5
        have hF9 := one_after ap hF5 (.inl rfl) c9
        have hc9 : Chg [] w w9 := hc5.trans' c9 HS3.out
        clear hR5 hF5 hc5 c9 hP hc he9
        
        have x2 := hR9.hd.at (i := 2) rfl
        go_wp2_with fail
        go_quiet ((first | (go_at_call 37; exact quiet_eq (held_any (hF9.drewN _) cq Ic)) | (go_at_call 47; exact quiet_eq (rof_any (hR9.drewN _) cq)) | (go_at_call 38; exact quiet_eq (got_any (hF9.drewN _))) | (go_at_call 29; exact quiet_eq (free_any (hF9.acc.drewN _) cq 1)) | (go_at_call 35; exact quiet_eq (rfree_any (hR9.acc.drewN _) cq 1))))
        have hP9 : Pair (w9.drewN nq) w.heap.size fb mb b s fb' hb b' s' n _ _ _ _ := ⟨hF9.drewN _, hR9.drewN _, LO.out, ap⟩
        have hc9 := hc9.drewN nq
        clear hF9 hR9 x2
        go_wp2_with fail
        go_roundw
        case rel => exact ⟨m + 1, _, _, _, _, by omega, by omega, by go_num, hc9, hP9, by omega⟩
        case measure => simp [intOf]; omega
      · skip
        go_wp2_with fail
        refine (forfeit_any hP.one cq Ic HMX.out).mono ?_
        rintro e w5 ⟨rfl, hF5, c5⟩
        have hR5 := hP.two_after (.inl rfl) c5
        have hc5 : Chg [] w w5 := hc.trans' c5 HS1.out
        clear c5 q0 q1 q2
        go_wp2_with fail
        refine (rforfeit_any hR5 cq).mono ?_
        rintro e w9 ⟨hs9, rfl, hR9, he9, c9⟩
        rw [← he9] at hF5
        have hF9 := one_after ap hF5 (.inl rfl) c9
        have hc9 : Chg [] w w9 := hc5.trans' c9 HS3.out
        clear hR5 hF5 hc5 c9 hP hc he9
        
        have x2 := hR9.hd.at (i := 2) rfl
        go_wp2_with fail
        go_quiet ((first | (go_at_call 37; exact quiet_eq (held_any (hF9.drewN _) cq Ic)) | (go_at_call 47; exact quiet_eq (rof_any (hR9.drewN _) cq)) | (go_at_call 38; exact quiet_eq (got_any (hF9.drewN _))) | (go_at_call 29; exact quiet_eq (free_any (hF9.acc.drewN _) cq 1)) | (go_at_call 35; exact quiet_eq (rfree_any (hR9.acc.drewN _) cq 1))))
        have hP9 : Pair (w9.drewN nq) w.heap.size fb mb b s fb' hb b' s' n _ _ _ _ := ⟨hF9.drewN _, hR9.drewN _, LO.out, ap⟩
        have hc9 := hc9.drewN nq
        clear hF9 hR9 x2
        go_wp2_with fail
        go_roundw
        case rel => exact ⟨m + 1, _, _, _, _, by omega, by omega, by go_num, hc9, hP9, by omega⟩
        case measure => simp [intOf]; omega
      · rcases ht with rfl | rfl | rfl
        all_goals
          go_wp2_with fail
          refine (put_any hP.one.acc cq 1 vq Uv).mono ?_
          rintro e w5 ⟨rfl, h5, c5⟩
          have hF5 := hP.one.put c5 h5
          have hR5 := hP.two_after (.inr rfl) c5
          have hc5 : Chg [] w w5 := hc.trans' c5 HS2.out
          clear h5 c5 q0 q1 q2
          go_wp2_with fail
          refine (rput_any hR5.acc cq 1 vq Uv).mono ?_
          rintro e w9 ⟨rfl, h9, c9⟩
          have hR9 := hR5.put c9 h9
          have hF9 := one_after ap hF5 (.inr rfl) c9
          have hc9 : Chg [] w w9 := hc5.trans' c9 HS4.out
          clear hR5 hF5 hc5 h9 c9 hP hc
          
          have x2 := hR9.hd.at (i := 2) rfl
          go_wp2_with fail
          go_quiet ((first | (go_at_call 37; exact quiet_eq (held_any (hF9.drewN _) cq Ic)) | (go_at_call 47; exact quiet_eq (rof_any (hR9.drewN _) cq)) | (go_at_call 38; exact quiet_eq (got_any (hF9.drewN _))) | (go_at_call 29; exact quiet_eq (free_any (hF9.acc.drewN _) cq 1)) | (go_at_call 35; exact quiet_eq (rfree_any (hR9.acc.drewN _) cq 1))))
          have hP9 : Pair (w9.drewN nq) w.heap.size fb mb b s fb' hb b' s' n _ _ _ _ := ⟨hF9.drewN _, hR9.drewN _, LO.out, ap⟩
          have hc9 := hc9.drewN nq
          clear hF9 hR9 x2
          go_wp2_with fail
          go_roundw
          case rel => exact ⟨m + 1, _, _, _, _, by omega, by omega, by go_num, hc9, hP9, by omega⟩
          case measure => simp [intOf]; omega
      · have e0 : ((t : Int) == 0) = false := by rw [beq_eq_false_iff_ne]; omega
        have e1 : ((t : Int) == 1) = false := by rw [beq_eq_false_iff_ne]; omega
        have e2 : ((t : Int) == 2) = false := by rw [beq_eq_false_iff_ne]; omega
        have e3 : ((t : Int) == 3) = false := by rw [beq_eq_false_iff_ne]; omega
        have e4 : ((t : Int) == 4) = false := by rw [beq_eq_false_iff_ne]; omega
        go_wp2_with fail
        refine (hold_any hP.one cq vq Ic Uv HMX.out).mono ?_
        rintro e w5 ⟨rfl, hF5, c5⟩
        have hR5 := hP.two_after (.inl rfl) c5
        have hc5 : Chg [] w w5 := hc.trans' c5 HS1.out
        clear c5 q0 q1 q2
        go_wp2_with fail
        refine (rhold_any hR5 cq vq Uv).mono ?_
        rintro e w9 ⟨hs9, rfl, hR9, he9, c9⟩
        rw [← he9] at hF5
        have hF9 := one_after ap hF5 (.inl rfl) c9
        have hc9 : Chg [] w w9 := hc5.trans' c9 HS3.out
        clear hR5 hF5 hc5 c9 hP hc he9
        
        have x2 := hR9.hd.at (i := 2) rfl
        go_wp2_with fail
        go_quiet ((first | (go_at_call 37; exact quiet_eq (held_any (hF9.drewN _) cq Ic)) | (go_at_call 47; exact quiet_eq (rof_any (hR9.drewN _) cq)) | (go_at_call 38; exact quiet_eq (got_any (hF9.drewN _))) | (go_at_call 29; exact quiet_eq (free_any (hF9.acc.drewN _) cq 1)) | (go_at_call 35; exact quiet_eq (rfree_any (hR9.acc.drewN _) cq 1))))
        have hP9 : Pair (w9.drewN nq) w.heap.size fb mb b s fb' hb b' s' n _ _ _ _ := ⟨hF9.drewN _, hR9.drewN _, LO.out, ap⟩
        have hc9 := hc9.drewN nq
        clear hF9 hR9 x2
        go_wp2_with fail
        go_roundw
        case rel => exact ⟨m + 1, _, _, _, _, by omega, by omega, by go_num, hc9, hP9, by omega⟩
        case measure => simp [intOf]; omega
    · by_cases hm1 : m < n1
      all_goals
        go_wp2_with fail
        refine (awake7 _).mono ?_
        rintro e w' ⟨rfl, hw⟩
        go_wp2_with fail
        go_ret
        exact ⟨rfl, hc.below.trans (hw.mono hc.size)⟩
end Go.Proofs.Ytkjkkchpicehoaa
