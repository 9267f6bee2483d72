import Derived.Test.YtofcphfgpnobnaaPu
namespace Go.Proofs.Ytofcphfgpnobnaa
set_option linter.unusedVariables false
open Go Go.Proofs Go.RowKit
attribute [local go_sem ↓] Go.wp_at_zero Go.wp_at_succ

set_option maxRecDepth 100000 in
set_option maxHeartbeats 8000000 in
theorem own_walk8 (up : Bool) (a : Option Addr) (n cap : Nat) (z : List Int) (o : Int) (w : World) (hn : n = z.length) (hzm : n ≤ 9223372036854775807) (hU : ∀ x ∈ z, U x) (hr0 : Row64 w a z) (ho : U o) (N : Nat) (hN : (n ≤ 20 ∧ N = n) ∨ (20 < n ∧ N = 20)) :
    Calls Try.prog 5 #[.bool up, .slice a n cap, .int .u64 o] w fun e w' => e = .returned (.bool true) ∧ Below w.heap.size w w' := by
  have HN := Lib.hid hn
  have HU := Lib.hid hU; clear hU
  have HR := Lib.hid hr0; clear hr0
  have n1 : N ≤ n := by omega
  have n2 : N ≤ 20 := by omega
  have HNN := Lib.hid hN
  clear hn hN
  obtain ⟨m, hm, hm8⟩ := and7_u64 o
  go_enter Try.func5, Try.ntmps5
  go_wp2_with fail
  refine (qNew up _).mono ?_
  rintro e w1 ⟨b, rfl, h1, c1, b1⟩
  go_upto_region 4 with (fail)
  go_cut [8] from 24 to 27 (fun v wx => v = .int .i64 (N : Int) ∧ w1 = wx)
  case first =>
    rcases HNN.out with ⟨m1, m2⟩ | ⟨m1, m2⟩
    · go_wp2_with fail
      go_meet
      exact ⟨by rw [m2], rfl⟩
    · go_wp2_with fail
      go_meet
      exact ⟨by rw [m2]; rfl, rfl⟩
  case rest =>
    obtain ⟨rfl, rfl⟩ := hcut
    go_wp2_with fail
    go_loopw [9] (fun i wr => ∃ (k s : Nat) (L : List Ord), k ≤ N ∧ i = .int .i64 k ∧ Que wr b s up L ∧ Pu k L ∧ Chg [] w wr ∧ w.heap.size ≤ s) (fun i _ => N - (intOf i).toNat)
    case atStart => exact ⟨0, b, [], by omega, rfl, h1, Pu.start, c1, b1⟩
    case round =>
      clear h1 c1
      obtain ⟨k, s, L, hk, rfl, hQ, hP, hC, hs⟩ := hrel
      have hll : L.length < 999999999999 := by rw [hP.len]; omega
      by_cases hlt : k < N
      · obtain ⟨b0, off, rfl, hcell⟩ := row_cells HR.out (k := k) (by rw [← HN.out]; omega)
        have hc0 := hcell wr hC.below
        generalize z.getD k 0 = v at *
        obtain ⟨f1, g1, g2⟩ := and7_u64 v
        obtain ⟨f2, g3, g4⟩ := and15_u64 (v / 8)
        obtain ⟨hP2, hnew⟩ := hP.step (x := ⟨(k : Int) + 1, 0, false, f1, (f2 : Int) + 1⟩) up rfl (by show (f2 : Int) + 1 ≤ 16; omega)
        have hok : Ord.Ok ⟨(k : Int) + 1, 0, false, f1, (f2 : Int) + 1⟩ := ordOk _ _ _ _ _ ⟨by omega, by omega⟩ ⟨by omega, by omega⟩ ⟨by omega, by omega⟩ ⟨by omega, by omega⟩
        have HNEW := Lib.hid hnew
        have i1 : (0 : Int) ≤ (k : Int) := by omega
        have i2 : (k : Int) < (n : Int) := by omega
        have w1 : IntKind.i64.wrap ((k : Int) + 1) = (k : Int) + 1 := IntWalk.i64_in _ (by omega)
        have w2 : IntKind.u64.wrap ((f2 : Int) + 1) = (f2 : Int) + 1 := by simp [IntKind.wrap, IntKind.bits, IntKind.signed]; omega
        clear hnew hP hcell
        go_wp2_with fail
        go_still_tail 16, (by kernel_rfl)
        change wpList _ _ _ _ _ wr.drew
        have hQ2 := hQ.drew
        have hC2 := hC.drew
        have hz2 : w.heap.size ≤ wr.drew.heap.size := hC.size
        clear hQ hC hc0 i1 i2 w1 w2
        generalize wr.drew = W at *
        go_wp2_with fail
        refine (qPush hQ2 hok HNEW.out hll).mono ?_
        rintro e w2 ⟨rfl, s', hQ3, hC3, hs2⟩
        have hC4 := hC2.trans' hC3 (by simp; omega)
        have hs3 : w.heap.size ≤ s' := by omega
        clear hQ2 hC2 hC3 hs2
        go_wp2_with fail
        go_roundw
        case rel => exact ⟨k + 1, s', _, by omega, by go_num, hQ3, hP2, hC4, hs3⟩
        case measure => simp [intOf]; omega
      · obtain rfl : k = N := by omega
        have hl0 := hQ.lt
        go_wp2_with fail
        refine (qAll hQ (by omega)).mono ?_
        rintro e w2 ⟨v, rfl, hO, c2⟩
        have hQ2 := hQ.chg c2 (by simp) (by simp)
        have hC2 := hC.trans c2
        have hz := hC.size
        cases L with
        | nil =>
          obtain rfl : k = 0 := by have := hP.len; simpa using this.symm
          obtain ⟨va, vc, rfl⟩ := own_slice hO
          clear hQ hC c2 hlt
          go_wp2_with fail
          obtain ⟨wo, rfl⟩ : ∃ wo : World, wo = wr := ⟨_, rfl⟩
          go_loop [53] (fun i => i = .int .i64 0) (fun _ => 0)
          case atStart => rfl
          case round =>
            subst hrel
            go_wp2_with fail
            refine (qPeek_nil hQ2).mono ?_
            rintro e w3 ⟨rfl, c3⟩
            have hQ3 := (hQ2.chg c3 (by simp) (by simp)).alloc (.cells #[.int .i64 0, .int .i64 0, .bool false, .int .u64 0, .int .u64 0] 28)
            have hC3 := (hC2.trans c3).alloc (.cells #[.int .i64 0, .int .i64 0, .bool false, .int .u64 0, .int .u64 0] 28)
            clear hQ2 hC2 c3
            go_wp2_with fail
            refine (qCut_is hQ3 m [] rfl ⟨by omega, by omega⟩).mono ?_
            rintro e w4 ⟨rfl, hQ4, c4⟩
            have hC4 := hC3.trans' c4 (by simp; omega)
            clear hQ3 hC3 c4
            go_wp2_with fail
            refine (qLen hQ4).mono ?_
            rintro e w' ⟨rfl, rfl⟩
            go_wp2_with fail
            refine (awake8 _).mono ?_
            rintro e w5 ⟨rfl, hw⟩
            go_wp2_with fail
            go_ret
            exact ⟨rfl, hC4.below.trans (hw.mono hC4.size)⟩
        | cons y L' =>
          obtain ⟨g, gc, rfl, hg, k1, k2, hor⟩ := hO.full (by simp)
          have kp : (y :: L').length = k := hP.len
          have hgS : g ≠ b ∧ g ≠ s := ⟨by omega, by omega⟩
          unfold maxLen at k2
          have HKP : Hid ((((y :: L').length : Nat) : Int) = (k : Int)) := by show _ = _; rw [kp]
          have hkp1 : k ≤ (y :: L').length := by omega
          have hk0 : 0 < k := by have : (y :: L').length = L'.length + 1 := rfl; omega
          have HLN : Hid ((y :: L').length = k) := kp
          clear hQ hC c2 hlt hO kp
          rw [HLN.out]
          rw [HLN.out] at k1
          obtain ⟨M, hM, hM2⟩ : ∃ M : List Ord, M.length = k ∧ Orow w2 g M := ⟨_, HLN.out, hor⟩
          have HM := Lib.hid hM
          clear hor hM hkp1
          go_wp2_with fail
          obtain ⟨wo, rfl⟩ : ∃ wo : World, wo = wr := ⟨_, rfl⟩
          go_loopw [53] (fun i wr => ∃ (j : Nat) (M : List Ord), j ≤ k ∧ i = .int .i64 j ∧ Hid (M.length = k) ∧ Orow wr g M ∧ Que wr b s up (y :: L') ∧ Chg [] w wr) (fun i _ => k - (intOf i).toNat)
          case atStart => exact ⟨0, M, by omega, rfl, HM, hM2, hQ2, hC2⟩
          case round =>
            clear hM2 hQ2 hC2 HM
            obtain ⟨j, M, hj, rfl, HM, hM, hQ, hC⟩ := hrel
            by_cases hlt : j < k
            · obtain ⟨x0, x1, x2, x3, x4⟩ := Orow.at hM (k := j) (by rw [HM.out]; exact hlt)
              have f4 := Beg.free hM (j * 5 + 4)
              have i1 : (0 : Int) ≤ (j : Int) := by omega
              have i2 : (j : Int) < (k : Int) := by omega
              have hM2 := Orow.setq hM (k := j) (by rw [HM.out]; exact hlt) 77
              have hK : Chg [g] wr (wr.setCell ⟨g, j * 5 + 4, none⟩ (.int .u64 77)) := (Chg.refl _ _).setCell _ _ (by simp)
              have hQ2 := hQ.chg hK (by simp; omega) (by simp; omega)
              have hC2 : Chg [] w (wr.setCell ⟨g, j * 5 + 4, none⟩ (.int .u64 77)) := hC.setCell _ _ (by right; show w.heap.size ≤ g; omega)
              have HM2 : Hid ((M.set j { M.getD j Ord.zero with qty := 77 }).length = k) := by show _ = _; rw [List.length_set]; exact HM.out
              generalize M.set j { M.getD j Ord.zero with qty := 77 } = M2 at *
              generalize M.getD j Ord.zero = u at *
              clear hM hQ hC hK
              go_wp2_with fail
              go_roundw
              case rel => exact ⟨j + 1, M2, by omega, by go_num, HM2, hM2, hQ2, hC2⟩
              case measure => simp [intOf]; omega
            · clear hM HM
              have hy := hQ.ok y (by simp)
              have yq := hP.qty y (by simp)
              have yq1 := hy.qty.1
              have hl1 := hQ.lt
              have kk : decide ((0 : Int) < (k : Int)) = true := by simp; omega
              go_wp2_with fail
              refine (qPeek_cons hQ).mono ?_
              rintro e w3 ⟨rfl, c3⟩
              have hQ3 := (hQ.chg c3 (by simp) (by simp)).alloc (.cells #[.int .i64 y.id, .int .i64 y.client, .bool y.buy, .int .u64 y.price, .int .u64 y.qty] 28)
              have hP3 : Blk (w3.alloc (.cells #[.int .i64 y.id, .int .i64 y.client, .bool y.buy, .int .u64 y.price, .int .u64 y.qty] 28)) w3.heap.size 28 (oc y) := Blk.new w3 (oc y) 28
              have hC3 := (hC.trans c3).alloc (.cells #[.int .i64 y.id, .int .i64 y.client, .bool y.buy, .int .u64 y.price, .int .u64 y.qty] 28)
              have hz3 : wr.heap.size ≤ w3.heap.size := c3.size
              clear hQ hC c3
              go_wp2_with fail
              generalize w3.heap.size = g3 at *
              generalize w3.alloc _ = W3 at *
              refine (qCut_is hQ3 m _ (cutQ_head m y L') ⟨by omega, by omega⟩).mono ?_
              rintro e w4 ⟨rfl, hQ4, c4⟩
              have hP4 := hP3.chg c4 (by simp; omega)
              have hC4 := hC3.trans' c4 (by simp; omega)
              clear hQ3 hP3 hC3 c4
              obtain ⟨t, ht⟩ : ∃ t, t = if (m : Int) ≤ y.qty then y.qty - m else y.qty := ⟨_, rfl⟩
              rw [← ht] at hQ4
              have HT := Lib.hid ht
              have p0 := hP4.at (i := 0) rfl
              have p4 := hP4.at (i := 4) rfl
              clear ht
              go_upto_if 88 with (fail)
              go_cut [14] from 83 to 93 (fun v wx => v = .int .u64 t ∧ w4 = wx)
              case first =>
                by_cases hmy : (m : Int) ≤ y.qty
                · have e1 : t = y.qty - m := by rw [HT.out, if_pos hmy]
                  have E1 := Lib.hid e1
                  clear e1
                  go_wp2_with fail
                  go_meet
                  exact ⟨by rw [E1.out], rfl⟩
                · have e1 : t = y.qty := by rw [HT.out, if_neg hmy]
                  have E1 := Lib.hid e1
                  clear e1
                  go_wp2_with fail
                  go_meet
                  exact ⟨by rw [E1.out], rfl⟩
              case rest =>
                obtain ⟨rfl, rfl⟩ := hcut
                have tq1 : 0 ≤ t := by have := HT.out; split at this <;> omega
                have tq2 : t ≤ 16 := by have := HT.out; split at this <;> omega
                have hl4 := hQ4.lt
                have hg3 : g3 < w4.heap.size := hP4.lt
                clear p0 p4
                go_wp2_with fail
                refine (qPeek_cons hQ4).mono ?_
                rintro e w5 ⟨rfl, c5⟩
                have hQ5 := (hQ4.chg c5 (by simp) (by simp)).alloc (.cells #[.int .i64 y.id, .int .i64 y.client, .bool y.buy, .int .u64 y.price, .int .u64 t] 28)
                have hP5 := (hP4.chg c5 (by simp)).alloc (.cells #[.int .i64 y.id, .int .i64 y.client, .bool y.buy, .int .u64 y.price, .int .u64 t] 28)
                have hR5 : Blk (w5.alloc (.cells #[.int .i64 y.id, .int .i64 y.client, .bool y.buy, .int .u64 y.price, .int .u64 t] 28)) w5.heap.size 28 (oc { y with qty := t }) := Blk.new w5 (oc { y with qty := t }) 28
                have hC5 := (hC4.trans c5).alloc (.cells #[.int .i64 y.id, .int .i64 y.client, .bool y.buy, .int .u64 y.price, .int .u64 t] 28)
                have hz5 : w4.heap.size ≤ w5.heap.size := c5.size
                clear hQ4 hP4 hC4 c5
                dsimp only
                have p0 := hP5.at (i := 0) rfl
                have hl5 := hQ5.lt
                go_wp2_with fail
                generalize w5.heap.size = g5 at *
                generalize w5.alloc _ = W5 at *
                refine (qFind_yes hQ5 (k := y.id) (x := { y with qty := t }) (by simp) rfl).mono ?_
                rintro e w6 ⟨rfl, c6⟩
                have hQ6 := (hQ5.chg c6 (by simp) (by simp)).alloc (.cells #[.int .i64 y.id, .int .i64 y.client, .bool y.buy, .int .u64 y.price, .int .u64 t] 28)
                have hP6 := (hP5.chg c6 (by simp)).alloc (.cells #[.int .i64 y.id, .int .i64 y.client, .bool y.buy, .int .u64 y.price, .int .u64 t] 28)
                have hR6 := (hR5.chg c6 (by simp)).alloc (.cells #[.int .i64 y.id, .int .i64 y.client, .bool y.buy, .int .u64 y.price, .int .u64 t] 28)
                have hF6 : Blk (w6.alloc (.cells #[.int .i64 y.id, .int .i64 y.client, .bool y.buy, .int .u64 y.price, .int .u64 t] 28)) w6.heap.size 28 (oc { y with qty := t }) := Blk.new w6 (oc { y with qty := t }) 28
                have hC6 := (hC5.trans c6).alloc (.cells #[.int .i64 y.id, .int .i64 y.client, .bool y.buy, .int .u64 y.price, .int .u64 t] 28)
                clear hQ5 hP5 hR5 hC5 c6 p0
                dsimp only
                go_wp2_with fail
                generalize w6.heap.size = g6 at *
                generalize w6.alloc _ = W6 at *
                refine (qAll hQ6 (by have := HLN.out; simp only [List.length_cons] at this ⊢; omega)).mono ?_
                rintro e w7 ⟨v7, rfl, hO, c7⟩
                have hP7 := hP6.chg c7 (by simp)
                have hR7 := hR6.chg c7 (by simp)
                have hF7 := hF6.chg c7 (by simp)
                have hC7 := hC6.trans c7
                obtain ⟨g7, gc7, rfl, _, d1, d2, hor⟩ := hO.full (by simp)
                have hx := Orow.at hor (k := 0) (by simp)
                have hyl : Hid (({ y with qty := t } :: L' : List Ord).length = k) := by show _ = _; rw [← HLN.out]; rfl
                rw [hyl.out]
                rw [hyl.out] at d1
                unfold maxLen at d2
                clear hQ6 hP6 hR6 hF6 hC6 c7 hO hor
                have p0 := hP7.at (i := 0) rfl
                have p4 := hP7.at (i := 4) rfl
                have r0 := hR7.at (i := 0) rfl
                have r1 := hR7.at (i := 1) rfl
                have r2 := hR7.at (i := 2) rfl
                have r3 := hR7.at (i := 3) rfl
                have r4 := hR7.at (i := 4) rfl
                have f0 := hF7.at (i := 0) rfl
                have f1 := hF7.at (i := 1) rfl
                have f2 := hF7.at (i := 2) rfl
                have f3 := hF7.at (i := 3) rfl
                have f4 := hF7.at (i := 4) rfl
                obtain ⟨x0, x1, x2, x3, x4⟩ := hx
                simp only [Nat.zero_mul, Nat.zero_add, List.getD_cons_zero] at x0 x1 x2 x3 x4
                have y77 : (y.qty != 77) = true := by rw [bne_iff_ne]; omega
                have kpos : (0 : Int) < (k : Int) := by omega
                go_wp2_with fail
                go_still_tail 41, (by kernel_rfl)
                change wpList _ _ _ _ _ w7.drew
                have hC8 := hC7.drew
                clear hC7 p0 p4 r0 r1 r2 r3 r4 f0 f1 f2 f3 f4 x0 x1 x2 x3 x4 hP7 hR7 hF7
                generalize w7.drew = W8 at *
                go_wp2_with fail
                refine (awake8 _).mono ?_
                rintro e w9 ⟨rfl, hw⟩
                go_wp2_with fail
                go_ret
                exact ⟨rfl, hC8.below.trans (hw.mono hC8.size)⟩
end Go.Proofs.Ytofcphfgpnobnaa
