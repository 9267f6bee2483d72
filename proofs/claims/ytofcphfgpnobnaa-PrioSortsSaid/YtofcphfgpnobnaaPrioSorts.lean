import Derived.Test.YtofcphfgpnobnaaAwake8
import Derived.Test.YtofcphfgpnobnaaShell
import Derived.Deep.CutBlock
import Derived.Deep.DeepCutAuto
namespace Go.Proofs.Ytofcphfgpnobnaa
set_option linter.unusedVariables false
open Go Go.Proofs Go.RowKit
attribute [local go_sem ↓] Go.wp_at_zero Go.wp_at_succ

/-- What comes of the price at k. -/
def pEl (z : List Int) (k : Nat) : Ord := ⟨(k : Int) + 1, 0, false, bits BinOp.and .u64 (z.getD k 0) 7, 1⟩
/-- What stands behind i pushes. -/
def PushedI (z : List Int) (N f i : Nat) (L : List Ord) : Prop := L.length = i ∧ ∀ x ∈ L, ∃ k, k < N ∧ x = pEl z k ∧ (f = 1 → N - i ≤ k) ∧ (f = 0 → k < i)
theorem pEl_ok (z : List Int) (k : Nat) (hk : k < 100) : (pEl z k).Ok := by
  obtain ⟨f, hf, hf8⟩ := and7_u64 (z.getD k 0)
  refine ⟨⟨?_, ?_⟩, ⟨?_, ?_⟩, ⟨?_, ?_⟩, ⟨?_, ?_⟩⟩ <;> simp only [pEl] <;> first | omega | (rw [hf]; omega)
theorem PushedI.step {z : List Int} {N f i k : Nat} {L : List Ord} {up : Bool} (h : PushedI z N f i L) (hi : i < N) (hf : (f = 0 ∧ k = i) ∨ (f = 1 ∧ k = N - 1 - i)) : PushedI z N f (i + 1) (ins up (pEl z k) L) ∧ ∀ x ∈ L, x.id ≠ (pEl z k).id := by
  refine ⟨⟨by rw [(ins_perm up _ L).length_eq]; simp [h.1], fun x hx => ?_⟩, fun x hx => ?_⟩
  · rcases List.mem_cons.1 ((ins_perm up _ L).mem_iff.1 hx) with h1 | h1
    · exact ⟨k, by omega, h1, by omega, by omega⟩
    · obtain ⟨j, h2, h3, h4, h5⟩ := h.2 x h1
      exact ⟨j, h2, h3, fun e => by have := h4 e; omega, fun e => by have := h5 e; omega⟩
  · obtain ⟨j, h2, h3, h4, h5⟩ := h.2 x hx
    rw [h3]
    simp only [pEl]
    rcases hf with ⟨e1, e2⟩ | ⟨e1, e2⟩
    · have := h5 e1; omega
    · have := h4 e1; omega

/-- Prices in memory, in this and every later world. -/
theorem row_cells {w : World} {a : Option Addr} {z : List Int} (h : Row64 w a z) {k : Nat} (hk : k < z.length) : ∃ b off, a = some ⟨b, off, none⟩ ∧ ∀ wr, Below w.heap.size w wr → wr.cell? ⟨b, off + k, none⟩ = some (.int .u64 (z.getD k 0)) := by
  rcases h with rfl | ⟨b, off, rfl, hc⟩
  · simp at hk
  · exact ⟨b, off, rfl, fun wr hb => below_cell hb (hc k hk)⟩

theorem quiet_len {W : World} {b s m : Nat} {up : Bool} {L : List Ord} {q : Int} (h : Que W b s up L) (hq : ((L.length : Nat) : Int) = q) : Calls Try.prog 16 #[.pointer (some ⟨b, 0, none⟩)] (W.drewN m) fun e w'' => e = .returned (.int .i64 q) ∧ ∃ k, w'' = W.drewN k :=
  (qLen (h.drewN m)).mono fun e w' ⟨he, hw⟩ => ⟨by rw [he, hq], m, hw.symm⟩

set_option maxRecDepth 100000 in
set_option maxHeartbeats 8000000 in
theorem sorts_walk8 (up : Bool) (a : Option Addr) (n cap : Nat) (z : List Int) (o : Int) (w : World) (hn : n = z.length) (hzm : n ≤ 9223372036854775807) (hU : ∀ x ∈ z, U x) (hr0 : Row64 w a z) (N : Nat) (hN : (n ≤ 40 ∧ N = n) ∨ (40 < n ∧ N = 40)) :
    Calls Try.prog 3 #[.bool up, .slice a n cap, .int .i64 o] w fun e w' => e = .returned (.bool true) ∧ Below w.heap.size w w' := by
  have HN := Lib.hid hn
  have HU := Lib.hid hU; clear hU
  have HR := Lib.hid hr0; clear hr0
  have n1 : N ≤ n := by omega
  have n2 : N ≤ 40 := by omega
  have HNN := Lib.hid hN
  clear hn hN
  obtain ⟨f, hf, hf2⟩ := and1_i64 o
  go_enter Try.func3, Try.ntmps3
  go_wp2_with fail
  refine (qNew up _).mono ?_
  rintro e w1 ⟨b, rfl, h1, c1, b1⟩
  go_upto_region 4 with (fail)
  go_cut [8] from 23 to 26 (fun v wx => v = .int .i64 (N : Int) ∧ w1 = wx)
  case first =>
    rcases HNN.out with ⟨m1, m2⟩ | ⟨m1, m2⟩
    · go_wp2_with fail
      go_meet
      exact ⟨by rw [m2], rfl⟩
    · go_wp2_with fail
      go_meet
      exact ⟨by rw [m2]; rfl, rfl⟩
  case rest =>
    obtain ⟨rfl, rfl⟩ := hcut
    go_wp2_with fail
    have hf0 : f = 0 ∨ f = 1 := by omega
    go_loopw [9] (fun i wr => ∃ (k s : Nat) (L : List Ord), k ≤ N ∧ i = .int .i64 k ∧ Que wr b s up L ∧ Hid (PushedI z N f k L) ∧ Chg [] w wr ∧ w.heap.size ≤ s) (fun i _ => N - (intOf i).toNat)
    case atStart => exact ⟨0, b, [], by omega, rfl, h1, ⟨rfl, by simp⟩, c1, b1⟩
    case round =>
      clear h1 c1
      obtain ⟨k, s, L, hk, rfl, hQ, hP, hC, hs⟩ := hrel
      have hll : L.length < 999999999999 := by rw [hP.out.1]; omega
      by_cases hlt : k < N
      · obtain ⟨j, hj⟩ : ∃ j, j = if f = 1 then N - 1 - k else k := ⟨_, rfl⟩
        have hj2 : (f = 0 ∧ j = k) ∨ (f = 1 ∧ j = N - 1 - k) := by
          rcases hf0 with h | h
          · exact .inl ⟨h, by rw [hj, if_neg (by omega)]⟩
          · exact .inr ⟨h, by rw [hj, if_pos h]⟩
        have HJ := Lib.hid hj2
        have hjN : j < N := by omega
        obtain ⟨hP2, hnew⟩ := hP.out.step (up := up) hlt hj2
        have hok := pEl_ok z j (by omega)
        have HP2 := Lib.hid hP2
        have HNEW := Lib.hid hnew
        obtain ⟨b0, off, rfl, hcell⟩ := row_cells HR.out (k := j) (by rw [← HN.out]; omega)
        have hc0 := hcell wr hC.below
        have HO : Hid (pEl z j = ⟨(j : Int) + 1, 0, false, bits BinOp.and .u64 (z.getD j 0) 7, 1⟩) := rfl
        generalize z.getD j 0 = v at *
        generalize pEl z j = el at *
        clear hj hj2 hP2 hnew hP hcell
        rcases HJ.out with ⟨rfl, rfl⟩ | ⟨rfl, e2⟩
        · go_wp2_with fail
          rw [show (Value.agg #[.int .i64 ((j : Int) + 1), .int .i64 0, .bool false, .int .u64 (bits BinOp.and .u64 v 7), .int .u64 1]) = ov el by rw [HO.out]]
          refine (qPush hQ hok HNEW.out hll).mono ?_
          rintro e w2 ⟨rfl, s', hQ2, hC2, hs2⟩
          have hC3 := hC.trans' hC2 (by simp; omega)
          have hs3 : w.heap.size ≤ s' := by have := hC.size; omega
          clear hQ hC hC2 hs2 hc0
          go_wp2_with fail
          go_roundw
          case rel => exact ⟨j + 1, s', _, by omega, by go_num, hQ2, HP2.out, hC3, hs3⟩
          case measure => simp [intOf]; omega
        · have e3 : (N : Int) - 1 - (k : Int) = (j : Int) := by omega
          clear e2
          go_wp2_with fail
          rw [show (Value.agg #[.int .i64 ((j : Int) + 1), .int .i64 0, .bool false, .int .u64 (bits BinOp.and .u64 v 7), .int .u64 1]) = ov el by rw [HO.out]]
          refine (qPush hQ hok HNEW.out hll).mono ?_
          rintro e w2 ⟨rfl, s', hQ2, hC2, hs2⟩
          have hC3 := hC.trans' hC2 (by simp; omega)
          have hs3 : w.heap.size ≤ s' := by have := hC.size; omega
          clear hQ hC hC2 hs2 hc0 e3
          go_wp2_with fail
          go_roundw
          case rel => exact ⟨k + 1, s', _, by omega, by go_num, hQ2, HP2.out, hC3, hs3⟩
          case measure => simp [intOf]; omega
      · obtain rfl : k = N := by omega
        have hl0 := hQ.lt
        have hQ0 := hQ.alloc (.cells #[.int .i64 0, .int .i64 0, .bool false, .int .u64 0, .int .u64 0] 28)
        have hC0 := hC.alloc (.cells #[.int .i64 0, .int .i64 0, .bool false, .int .u64 0, .int .u64 0] 28)
        have hB0 := Blk.new wr (oc Ord.zero) 28
        have hE0 : Hid (L.length = k ∧ ∀ x ∈ L, ∃ j, j < k ∧ x = pEl z j) := ⟨hP.out.1, fun x hx => by obtain ⟨j, h1, h2, _⟩ := hP.out.2 x hx; exact ⟨j, h1, h2⟩⟩
        have hgl := hC.size
        go_wp2_with fail
        clear hQ hC hP hlt
        generalize wr.heap.size = gl at *
        obtain ⟨wo, rfl⟩ : ∃ wo : World, wo = wr := ⟨_, rfl⟩
        go_loopw [12] (fun u wr => ∃ (i : Nat) (L : List Ord) (last : Ord), i ≤ k ∧ u = .int .i64 i ∧ Que wr b s up L ∧ Hid (L.length = k - i ∧ ∀ x ∈ L, ∃ j, j < k ∧ x = pEl z j) ∧ Blk wr gl 28 (oc last) ∧ Hid (0 < i → ∀ x ∈ L, ahead up last x = true) ∧ Chg [] w wr) (fun u _ => k - (intOf u).toNat)
        case atStart => exact ⟨0, L, Ord.zero, by omega, rfl, hQ0, hE0, hB0, fun h => by omega, hC0⟩
        case round =>
          clear hQ0 hE0 hB0 hC0
          obtain ⟨i, L, last, hi, rfl, hQ, hE, hB, hA, hC⟩ := hrel
          by_cases hlt : i < k
          · obtain ⟨x, L', rfl⟩ : ∃ x L', L = x :: L' := by
              cases L with
              | nil => have := hE.out.1; simp at this; omega
              | cons x L' => exact ⟨x, L', rfl⟩
            obtain ⟨j, hj, hx⟩ := hE.out.2 x (by simp)
            have hlen' : L'.length + 1 = k - i := by have := hE.out.1; simpa using this
            have hll : L'.length < 999999999999 := by omega
            have hE2 : Hid (L'.length = k - (i + 1) ∧ ∀ x ∈ L', ∃ j, j < k ∧ x = pEl z j) := ⟨by omega, fun y hy => hE.out.2 y (by simp [hy])⟩
            have hA2 : Hid (0 < i + 1 → ∀ y ∈ L', ahead up x y = true) := fun _ y hy => (List.pairwise_cons.1 hQ.srt).1 y hy
            have hAx : Hid (0 < i → ahead up last x = true) := fun h => hA.out h x (by simp)
            obtain ⟨q, hq⟩ : ∃ q, q = L'.length := ⟨_, rfl⟩
            have HQL : Hid (((L'.length : Nat) : Int) = (q : Int)) := by show _ = _; rw [hq]
            have eq1 : q + 1 + i ≤ k := by omega
            have eq2 : k ≤ q + 1 + i := by omega
            obtain ⟨b0, off, rfl, hcell⟩ := row_cells HR.out (k := j) (by rw [← HN.out]; omega)
            have HX : Hid (x = ⟨(j : Int) + 1, 0, false, bits BinOp.and .u64 (z.getD j 0) 7, 1⟩) := hx
            have HCE := Lib.hid hcell
            generalize z.getD j 0 = v at *
            obtain ⟨P, hP⟩ : ∃ P, P = bits BinOp.and .u64 v 7 := ⟨_, rfl⟩
            have hx2 : x = ⟨(j : Int) + 1, 0, false, P, 1⟩ := by rw [HX.out, hP]
            subst hx2
            have HPP := Lib.hid hP
            clear hx hE hA hlen' hq hcell hP HX
            have hl1 := hQ.lt
            go_wp2_with fail
            refine (qPeek_cons hQ).mono ?_
            rintro e w2 ⟨rfl, c2⟩
            have hQ2 := (hQ.chg c2 (by simp) (by simp)).alloc (.cells #[.int .i64 ((j : Int) + 1), .int .i64 0, .bool false, .int .u64 P, .int .u64 1] 28)
            have hB2 := (hB.chg c2 (by simp)).alloc (.cells #[.int .i64 ((j : Int) + 1), .int .i64 0, .bool false, .int .u64 P, .int .u64 1] 28)
            have hP2 := Blk.new w2 (oc ⟨(j : Int) + 1, 0, false, P, 1⟩) 28
            have hC2 := (hC.trans c2).alloc (.cells #[.int .i64 ((j : Int) + 1), .int .i64 0, .bool false, .int .u64 P, .int .u64 1] 28)
            have hz2 : wr.heap.size ≤ w2.heap.size := c2.size
            have hgl2 : gl < w2.heap.size := (hB.chg c2 (by simp)).lt
            clear hQ hB hC c2
            go_wp2_with fail
            generalize w2.heap.size = gp at *
            refine (qPop_cons hQ2 hll).mono ?_
            rintro e w3 ⟨rfl, hQ3, c3⟩
            have hB3 := (hB2.chg c3 (by simp; omega)).alloc (.cells #[.int .i64 ((j : Int) + 1), .int .i64 0, .bool false, .int .u64 P, .int .u64 1] 28)
            have hP3 := (hP2.chg c3 (by simp; omega)).alloc (.cells #[.int .i64 ((j : Int) + 1), .int .i64 0, .bool false, .int .u64 P, .int .u64 1] 28)
            have hO3 : Blk (w3.alloc (.cells #[.int .i64 ((j : Int) + 1), .int .i64 0, .bool false, .int .u64 P, .int .u64 1] 28)) w3.heap.size 28 (oc ⟨(j : Int) + 1, 0, false, P, 1⟩) := Blk.new w3 (oc ⟨(j : Int) + 1, 0, false, P, 1⟩) 28
            have hC3 := (hC2.trans' c3 (by simp; omega)).alloc (.cells #[.int .i64 ((j : Int) + 1), .int .i64 0, .bool false, .int .u64 P, .int .u64 1] 28)
            have hQ4 := hQ3.alloc (.cells #[.int .i64 ((j : Int) + 1), .int .i64 0, .bool false, .int .u64 P, .int .u64 1] 28)
            have hgp3 : gp < w3.heap.size := (hP2.chg c3 (by simp; omega)).lt
            clear hQ2 hB2 hP2 hC2 c3 hQ3
            go_wp2_with fail
            generalize w3.heap.size = go at *
            generalize w3.alloc _ = W at *
            have p0 := hP3.at (i := 0) rfl
            have p1 := hP3.at (i := 1) rfl
            have p2 := hP3.at (i := 2) rfl
            have p3 := hP3.at (i := 3) rfl
            have p4 := hP3.at (i := 4) rfl
            have q0 := hO3.at (i := 0) rfl
            have q1 := hO3.at (i := 1) rfl
            have q2 := hO3.at (i := 2) rfl
            have q3 := hO3.at (i := 3) rfl
            have q4 := hO3.at (i := 4) rfl
            have hcv := HCE.out W hC3.below
            have w1 : IntKind.i64.wrap ((k : Int) - 1) = (k : Int) - 1 := IntWalk.i64_in _ (by omega)
            have w2 : IntKind.i64.wrap ((k : Int) - 1 - (i : Int)) = (q : Int) := by rw [IntWalk.i64_in _ (by omega)]; omega
            have w3 : IntKind.i64.wrap (j : Int) = (j : Int) := IntWalk.i64_in _ (by omega)
            have j1 : decide ((j : Int) + 1 < 1) = false := by simp; omega
            have j2 : decide ((k : Int) < (j : Int) + 1) = false := by simp; omega
            have j3 : (0 : Int) ≤ (j : Int) := by omega
            have j4 : (j : Int) < (n : Int) := by omega
            have j5 : (P != bits BinOp.and IntKind.u64 v 7) = false := by rw [HPP.out]; simp
            go_quiet ((go_at_call 16; exact quiet_len hQ4 HQL.out))
            have hQ5 := hQ4.drewN nq
            have hB5 : Blk (W.drewN nq) gl 28 (oc last) := hB3
            have hO5 : Blk (W.drewN nq) go 28 (oc ⟨(j : Int) + 1, 0, false, P, 1⟩) := hO3
            have hC5 := hC3.drewN nq
            clear hQ4 hB3 hP3 hO3 hC3 p0 p1 p2 p3 p4 q0 q1 q2 q3 q4 hcv w1 w2 w3 j1 j2 j3 j4 j5
            generalize W.drewN nq = V at *
            have q0 := hO5.at (i := 0) rfl
            have q1 := hO5.at (i := 1) rfl
            have q2 := hO5.at (i := 2) rfl
            have q3 := hO5.at (i := 3) rfl
            have q4 := hO5.at (i := 4) rfl
            obtain ⟨li, lc, lb, lp, lq⟩ := last
            have l0 := hB5.at (i := 0) rfl
            have l1 := hB5.at (i := 1) rfl
            have l2 := hB5.at (i := 2) rfl
            have l3 := hB5.at (i := 3) rfl
            have l4 := hB5.at (i := 4) rfl
            have z0 := hB5.free 0
            have z1 := hB5.free 1
            have z2 := hB5.free 2
            have z3 := hB5.free 3
            have z4 := hB5.free 4
            have hK : Chg [gl] V (sto V gl 0 ⟨(j : Int) + 1, 0, false, P, 1⟩) := sto_chg (Chg.refl _ _) _ _ _ (by simp)
            have hQ6 := hQ5.chg hK (by simp; omega) (by simp; omega)
            have hB6 : Blk (sto V gl 0 ⟨(j : Int) + 1, 0, false, P, 1⟩) gl 28 (oc ⟨(j : Int) + 1, 0, false, P, 1⟩) := hB5.sto 0 _
            have hC6 : Chg [] w (sto V gl 0 ⟨(j : Int) + 1, 0, false, P, 1⟩) := sto_chg hC5 _ _ _ (by right; omega)
            clear hQ5 hB5 hO5 hC5 hK
            rcases Nat.eq_zero_or_pos i with hi0 | hi0
            · subst hi0
              go_wp2_with fail
              go_roundw
              case rel => exact ⟨0 + 1, L', ⟨(j : Int) + 1, 0, false, P, 1⟩, by omega, by go_num, hQ6, hE2, hB6, hA2, hC6⟩
              case measure => simp [intOf]; omega
            · have hi1 : (0 : Int) < (i : Int) := by omega
              have ho := hAx.out hi0
              have HS := Lib.hid hi0
              clear hi0
              cases up with
              | true =>
                rw [ahead_t] at ho
                simp only [decide_eq_true_eq] at ho
                rcases ho with ho | ⟨ho1, ho2⟩
                · have e1 : decide (P < lp) = false := by simp; omega
                  have e2 : (P == lp) = false := beq_eq_false_iff_ne.2 (by omega)
                  go_wp2_with fail
                  go_roundw
                  case rel => exact ⟨i + 1, L', ⟨(j : Int) + 1, 0, false, P, 1⟩, by omega, by go_num, hQ6, hE2, hB6, hA2, hC6⟩
                  case measure => simp [intOf]; omega
                · obtain rfl : P = lp := ho1.symm
                  have e1 : decide ((j : Int) + 1 ≤ li) = false := by simp; omega
                  go_wp2_with fail
                  go_roundw
                  case rel => exact ⟨i + 1, L', ⟨(j : Int) + 1, 0, false, P, 1⟩, by omega, by go_num, hQ6, hE2, hB6, hA2, hC6⟩
                  case measure => simp [intOf]; omega
              | false =>
                rw [ahead_f] at ho
                simp only [decide_eq_true_eq] at ho
                rcases ho with ho | ⟨ho1, ho2⟩
                · have e1 : decide (lp < P) = false := by simp; omega
                  have e2 : (P == lp) = false := beq_eq_false_iff_ne.2 (by omega)
                  go_wp2_with fail
                  go_roundw
                  case rel => exact ⟨i + 1, L', ⟨(j : Int) + 1, 0, false, P, 1⟩, by omega, by go_num, hQ6, hE2, hB6, hA2, hC6⟩
                  case measure => simp [intOf]; omega
                · obtain rfl : P = lp := ho1.symm
                  have e1 : decide ((j : Int) + 1 ≤ li) = false := by simp; omega
                  go_wp2_with fail
                  go_roundw
                  case rel => exact ⟨i + 1, L', ⟨(j : Int) + 1, 0, false, P, 1⟩, by omega, by go_num, hQ6, hE2, hB6, hA2, hC6⟩
                  case measure => simp [intOf]; omega
          · obtain rfl : i = k := by omega
            obtain rfl : L = [] := by
              have := hE.out.1
              exact List.eq_nil_of_length_eq_zero (by omega)
            go_wp2_with fail
            refine (qPop_nil hQ).mono ?_
            rintro e w2 ⟨rfl, c2⟩
            have hC2 := (hC.trans c2).alloc (.cells #[.int .i64 0, .int .i64 0, .bool false, .int .u64 0, .int .u64 0] 28)
            go_wp2_with fail
            refine (awake8 _).mono ?_
            rintro e w3 ⟨rfl, hw⟩
            go_wp2_with fail
            go_ret
            exact ⟨rfl, hC2.below.trans (hw.mono hC2.size)⟩
end Go.Proofs.Ytofcphfgpnobnaa
