
import Derived.Test.YteabcpmpcbjicaaLedQ
import Derived.Test.YteabcpmpcbjicaaAwake12
namespace Go.Proofs.Yteabcpmpcbjicaa
set_option linter.unusedVariables false
open Go Go.Proofs Go.RowKit
attribute [local go_sem ↓] Go.wp_at_zero Go.wp_at_succ

theorem feE1_ok {lf : Int} (h0 : 0 ≤ lf) (h1 : lf ≤ 1000) : (feE1 lf).Ok := by
  refine ⟨⟨?_, ?_⟩, ⟨?_, ?_⟩, ⟨?_, ?_⟩, ⟨⟨?_, ?_⟩, ⟨?_, ?_⟩, ⟨?_, ?_⟩, ⟨?_, ?_⟩, ⟨?_, ?_⟩, ⟨?_, ?_⟩⟩⟩ <;> (simp only [feE1]; omega)
theorem feE2_ok {fee : Int} {b : Bool} (h : U fee) : (feE2 fee b).Ok := by
  obtain ⟨h0, h1⟩ := h
  refine ⟨⟨?_, ?_⟩, ⟨?_, ?_⟩, ⟨?_, ?_⟩, ⟨⟨?_, ?_⟩, ⟨?_, ?_⟩, ⟨?_, ?_⟩, ⟨?_, ?_⟩, ⟨?_, ?_⟩, ⟨?_, ?_⟩⟩⟩ <;> (simp only [feE2]; omega)
set_option maxRecDepth 100000 in
set_option maxHeartbeats 8000000 in
theorem ledgfees_walk (fee left : Int) (good : Bool) (w : World) (hf : U fee) (hl : U left) : Calls Try.prog 9 #[.int .u64 fee, .int .u64 left, .bool good] w fun e w' => e = .returned (.bool true) ∧ Below w.heap.size w w' := by
  obtain ⟨lf, hlf, hl0, hl1⟩ : ∃ lf : Int, left.tmod 1001 = lf ∧ 0 ≤ lf ∧ lf ≤ 1000 := ⟨_, rfl, by rw [Int.tmod_eq_emod_of_nonneg hl.1]; omega, by rw [Int.tmod_eq_emod_of_nonneg hl.1]; omega⟩
  have wl : IntKind.u64.wrap lf = lf := by simp [IntKind.wrap, IntKind.bits, IntKind.signed]; omega
  have wl2 : IntKind.u64.wrap (1000 - lf) = 1000 - lf := by simp [IntKind.wrap, IntKind.bits, IntKind.signed]; omega
  have HF := Lib.hid hf
  have f0 := hf.1
  clear hf hl
  go_enter Try.func9, Try.ntmps9
  go_wp2_with fail
  refine (ledNew 1 (by omega) (by omega) w).mono ?_
  rintro e w1 ⟨l, F0, rfl, h0⟩
  go_wp2_with fail
  refine (lxDo h0 (by omega) (feE1 lf) (feE1_ok hl0 hl1) (feS lf) (no 0) (fees_1 lf hl0 hl1)).mono ?_
  rintro y v1 ⟨a1, d1, F1, rfl, -, k1, -, -⟩
  simp only [no, List.length_nil]
  have B1 : Blk (v1.alloc (.cells #[.int .i64 0, .int .u64 0, .int .i64 0, .slice a1 0 d1] 68)) v1.heap.size 68 [.int .i64 0, .int .u64 0, .int .i64 0, .slice a1 0 d1] := Blk.new v1 _ _
  have h1 := k1.to ((Chg.refl [] v1).alloc (.cells #[.int .i64 0, .int .u64 0, .int .i64 0, .slice a1 0 d1] 68))
  clear h0 k1 hlf
  go_upto_region 6 with (fail)
  generalize v1.heap.size = b1 at *
  generalize v1.alloc _ = W1 at *
  have x0 := B1.at (i := 0) rfl
  have x1 := B1.at (i := 1) rfl
  go_wp2_with fail
  refine (lxFree h1 0 1 lf (by simp [feS, aFree, aErr, aHas, aAsset, aGet, aAt])).mono ?_
  rintro y u0 ⟨rfl, q0⟩
  have h2 := h1.to q0
  clear h1 B1 x0 x1 q0
  cases good
  · by_cases hm : fee ≤ lf
    · obtain ⟨S2, r2, hY, p1, p2, p3, p4, p5, p6, p7⟩ := fees_2 lf fee false hl0 hl1 HF.out
      obtain ⟨rc, rp, ri, T⟩ := r2
      dsimp only at p1 p2 p3 p4 p5 p6 p7
      have hw : rp = fee := by rw [p1]; simp <;> omega
      have hc : rc = 2 := by rw [p7]; rfl
      have hb : aFree 1 S2.xs 0 0 = 1000 := by rw [p3]; rfl
      subst p5 p6
      rw [hw] at hY p2 p4
      rw [hc] at hY
      clear p1 hw hc p7
      have HY := Lib.hid hY
      have H2 := Lib.hid p2
      have H3 := Lib.hid hb
      have H4 := Lib.hid p4
      have wq : IntKind.u64.wrap (lf - fee) = lf - fee := by simp [IntKind.wrap, IntKind.bits, IntKind.signed] <;> omega
      clear hY p2 p3 p4 hb
      go_wp2_with fail
      refine (lxDo h2 (by omega) (feE2 fee false) (feE2_ok HF.out) S2 ⟨2, fee, 0, []⟩ HY.out).mono ?_
      rintro y v2 ⟨a2, d2, F2, rfl, -, k3, -, -⟩
      simp only [List.length_nil]
      have B2 : Blk (v2.alloc (.cells #[.int .i64 2, .int .u64 (fee), .int .i64 0, .slice a2 0 d2] 68)) v2.heap.size 68 [.int .i64 2, .int .u64 (fee), .int .i64 0, .slice a2 0 d2] := Blk.new v2 _ _
      have h3 := k3.to ((Chg.refl [] v2).alloc (.cells #[.int .i64 2, .int .u64 (fee), .int .i64 0, .slice a2 0 d2] 68))
      clear h2 k3
      go_upto_region 9 with (fail)
      generalize v2.heap.size = b2 at *
      generalize v2.alloc _ = W3 at *
      have x0 := B2.at (i := 0) rfl
      have x1 := B2.at (i := 1) rfl
      go_wp2_with fail
      refine (lxFree h3 0 1 (lf - fee) H2.out).mono ?_
      rintro y u1 ⟨rfl, q1⟩
      have h4 := h3.to q1
      have B3 := B2.chg q1 (by simp)
      clear h3 B2 q1 x0 x1
      have x0 := B3.at (i := 0) rfl
      have x1 := B3.at (i := 1) rfl
      go_wp2_with fail
      refine (lxFree h4 0 0 1000 H3.out).mono ?_
      rintro y u2 ⟨rfl, q2⟩
      have h5 := h4.to q2
      have B4 := B3.chg q2 (by simp)
      clear h4 B3 q2 x0 x1
      have x0 := B4.at (i := 0) rfl
      have x1 := B4.at (i := 1) rfl
      go_wp2_with fail
      refine (lxGot h5 (fee) H4.out).mono ?_
      rintro y u3 ⟨rfl, q3⟩
      have h6 := h5.to q3
      have B5 := B4.chg q3 (by simp)
      clear h5 B4 q3 x0 x1
      have x0 := B5.at (i := 0) rfl
      have x1 := B5.at (i := 1) rfl
      go_wp2_with fail
      refine (awake12 u3).mono ?_
      rintro y u4 ⟨rfl, q4⟩
      go_wp2_with fail
      go_ret
      exact ⟨rfl, (h6.c.trans q4).below⟩
    · obtain ⟨S2, r2, hY, p1, p2, p3, p4, p5, p6, p7⟩ := fees_2 lf fee false hl0 hl1 HF.out
      obtain ⟨rc, rp, ri, T⟩ := r2
      dsimp only at p1 p2 p3 p4 p5 p6 p7
      have hw : rp = lf := by rw [p1]; simp <;> omega
      have hc : rc = 2 := by rw [p7]; rfl
      have hb : aFree 1 S2.xs 0 0 = 1000 := by rw [p3]; rfl
      subst p5 p6
      rw [hw] at hY p2 p4
      rw [hc] at hY
      clear p1 hw hc p7
      have HY := Lib.hid hY
      have H2 := Lib.hid p2
      have H3 := Lib.hid hb
      have H4 := Lib.hid p4
      have wq : IntKind.u64.wrap (lf - lf) = lf - lf := by simp [IntKind.wrap, IntKind.bits, IntKind.signed] <;> omega
      clear hY p2 p3 p4 hb
      go_wp2_with fail
      refine (lxDo h2 (by omega) (feE2 fee false) (feE2_ok HF.out) S2 ⟨2, lf, 0, []⟩ HY.out).mono ?_
      rintro y v2 ⟨a2, d2, F2, rfl, -, k3, -, -⟩
      simp only [List.length_nil]
      have B2 : Blk (v2.alloc (.cells #[.int .i64 2, .int .u64 (lf), .int .i64 0, .slice a2 0 d2] 68)) v2.heap.size 68 [.int .i64 2, .int .u64 (lf), .int .i64 0, .slice a2 0 d2] := Blk.new v2 _ _
      have h3 := k3.to ((Chg.refl [] v2).alloc (.cells #[.int .i64 2, .int .u64 (lf), .int .i64 0, .slice a2 0 d2] 68))
      clear h2 k3
      go_upto_region 9 with (fail)
      generalize v2.heap.size = b2 at *
      generalize v2.alloc _ = W3 at *
      have x0 := B2.at (i := 0) rfl
      have x1 := B2.at (i := 1) rfl
      go_wp2_with fail
      refine (lxFree h3 0 1 (lf - lf) H2.out).mono ?_
      rintro y u1 ⟨rfl, q1⟩
      have h4 := h3.to q1
      have B3 := B2.chg q1 (by simp)
      clear h3 B2 q1 x0 x1
      have x0 := B3.at (i := 0) rfl
      have x1 := B3.at (i := 1) rfl
      go_wp2_with fail
      refine (lxFree h4 0 0 1000 H3.out).mono ?_
      rintro y u2 ⟨rfl, q2⟩
      have h5 := h4.to q2
      have B4 := B3.chg q2 (by simp)
      clear h4 B3 q2 x0 x1
      have x0 := B4.at (i := 0) rfl
      have x1 := B4.at (i := 1) rfl
      go_wp2_with fail
      refine (lxGot h5 (lf) H4.out).mono ?_
      rintro y u3 ⟨rfl, q3⟩
      have h6 := h5.to q3
      have B5 := B4.chg q3 (by simp)
      clear h5 B4 q3 x0 x1
      have x0 := B5.at (i := 0) rfl
      have x1 := B5.at (i := 1) rfl
      go_wp2_with fail
      refine (awake12 u3).mono ?_
      rintro y u4 ⟨rfl, q4⟩
      go_wp2_with fail
      go_ret
      exact ⟨rfl, (h6.c.trans q4).below⟩
  · by_cases hm : fee ≤ lf
    · by_cases h1m : fee ≤ 1
      · obtain ⟨S2, r2, hY, p1, p2, p3, p4, p5, p6, p7⟩ := fees_2 lf fee true hl0 hl1 HF.out
        obtain ⟨rc, rp, ri, T⟩ := r2
        dsimp only at p1 p2 p3 p4 p5 p6 p7
        have hw : rp = fee := by rw [p1]; simp <;> omega
        have hc : rc = 0 := by rw [p7]; rfl
        have hb : aFree 1 S2.xs 0 0 = 1007 := by rw [p3]; rfl
        subst p5 p6
        rw [hw] at hY p2 p4
        rw [hc] at hY
        clear p1 hw hc p7
        have HY := Lib.hid hY
        have H2 := Lib.hid p2
        have H3 := Lib.hid hb
        have H4 := Lib.hid p4
        have wq : IntKind.u64.wrap (lf - fee) = lf - fee := by simp [IntKind.wrap, IntKind.bits, IntKind.signed] <;> omega
        clear hY p2 p3 p4 hb
        go_wp2_with fail
        refine (lxDo h2 (by omega) (feE2 fee true) (feE2_ok HF.out) S2 ⟨0, fee, 0, []⟩ HY.out).mono ?_
        rintro y v2 ⟨a2, d2, F2, rfl, -, k3, -, -⟩
        simp only [List.length_nil]
        have B2 : Blk (v2.alloc (.cells #[.int .i64 0, .int .u64 (fee), .int .i64 0, .slice a2 0 d2] 68)) v2.heap.size 68 [.int .i64 0, .int .u64 (fee), .int .i64 0, .slice a2 0 d2] := Blk.new v2 _ _
        have h3 := k3.to ((Chg.refl [] v2).alloc (.cells #[.int .i64 0, .int .u64 (fee), .int .i64 0, .slice a2 0 d2] 68))
        clear h2 k3
        go_upto_region 9 with (fail)
        generalize v2.heap.size = b2 at *
        generalize v2.alloc _ = W3 at *
        have x0 := B2.at (i := 0) rfl
        have x1 := B2.at (i := 1) rfl
        go_wp2_with fail
        refine (lxFree h3 0 1 (lf - fee) H2.out).mono ?_
        rintro y u1 ⟨rfl, q1⟩
        have h4 := h3.to q1
        have B3 := B2.chg q1 (by simp)
        clear h3 B2 q1 x0 x1
        have x0 := B3.at (i := 0) rfl
        have x1 := B3.at (i := 1) rfl
        go_wp2_with fail
        refine (lxFree h4 0 0 1007 H3.out).mono ?_
        rintro y u2 ⟨rfl, q2⟩
        have h5 := h4.to q2
        have B4 := B3.chg q2 (by simp)
        clear h4 B3 q2 x0 x1
        have x0 := B4.at (i := 0) rfl
        have x1 := B4.at (i := 1) rfl
        go_wp2_with fail
        refine (lxGot h5 (fee) H4.out).mono ?_
        rintro y u3 ⟨rfl, q3⟩
        have h6 := h5.to q3
        have B5 := B4.chg q3 (by simp)
        clear h5 B4 q3 x0 x1
        have x0 := B5.at (i := 0) rfl
        have x1 := B5.at (i := 1) rfl
        go_wp2_with fail
        refine (awake12 u3).mono ?_
        rintro y u4 ⟨rfl, q4⟩
        go_wp2_with fail
        go_ret
        exact ⟨rfl, (h6.c.trans q4).below⟩
      · obtain ⟨S2, r2, hY, p1, p2, p3, p4, p5, p6, p7⟩ := fees_2 lf fee true hl0 hl1 HF.out
        obtain ⟨rc, rp, ri, T⟩ := r2
        dsimp only at p1 p2 p3 p4 p5 p6 p7
        have hw : rp = 1 := by rw [p1]; simp <;> omega
        have hc : rc = 0 := by rw [p7]; rfl
        have hb : aFree 1 S2.xs 0 0 = 1007 := by rw [p3]; rfl
        subst p5 p6
        rw [hw] at hY p2 p4
        rw [hc] at hY
        clear p1 hw hc p7
        have HY := Lib.hid hY
        have H2 := Lib.hid p2
        have H3 := Lib.hid hb
        have H4 := Lib.hid p4
        have wq : IntKind.u64.wrap (lf - 1) = lf - 1 := by simp [IntKind.wrap, IntKind.bits, IntKind.signed] <;> omega
        clear hY p2 p3 p4 hb
        go_wp2_with fail
        refine (lxDo h2 (by omega) (feE2 fee true) (feE2_ok HF.out) S2 ⟨0, 1, 0, []⟩ HY.out).mono ?_
        rintro y v2 ⟨a2, d2, F2, rfl, -, k3, -, -⟩
        simp only [List.length_nil]
        have B2 : Blk (v2.alloc (.cells #[.int .i64 0, .int .u64 (1), .int .i64 0, .slice a2 0 d2] 68)) v2.heap.size 68 [.int .i64 0, .int .u64 (1), .int .i64 0, .slice a2 0 d2] := Blk.new v2 _ _
        have h3 := k3.to ((Chg.refl [] v2).alloc (.cells #[.int .i64 0, .int .u64 (1), .int .i64 0, .slice a2 0 d2] 68))
        clear h2 k3
        go_upto_region 9 with (fail)
        generalize v2.heap.size = b2 at *
        generalize v2.alloc _ = W3 at *
        have x0 := B2.at (i := 0) rfl
        have x1 := B2.at (i := 1) rfl
        go_wp2_with fail
        refine (lxFree h3 0 1 (lf - 1) H2.out).mono ?_
        rintro y u1 ⟨rfl, q1⟩
        have h4 := h3.to q1
        have B3 := B2.chg q1 (by simp)
        clear h3 B2 q1 x0 x1
        have x0 := B3.at (i := 0) rfl
        have x1 := B3.at (i := 1) rfl
        go_wp2_with fail
        refine (lxFree h4 0 0 1007 H3.out).mono ?_
        rintro y u2 ⟨rfl, q2⟩
        have h5 := h4.to q2
        have B4 := B3.chg q2 (by simp)
        clear h4 B3 q2 x0 x1
        have x0 := B4.at (i := 0) rfl
        have x1 := B4.at (i := 1) rfl
        go_wp2_with fail
        refine (lxGot h5 (1) H4.out).mono ?_
        rintro y u3 ⟨rfl, q3⟩
        have h6 := h5.to q3
        have B5 := B4.chg q3 (by simp)
        clear h5 B4 q3 x0 x1
        have x0 := B5.at (i := 0) rfl
        have x1 := B5.at (i := 1) rfl
        go_wp2_with fail
        refine (awake12 u3).mono ?_
        rintro y u4 ⟨rfl, q4⟩
        go_wp2_with fail
        go_ret
        exact ⟨rfl, (h6.c.trans q4).below⟩
    · by_cases h1m : lf ≤ 1
      · obtain ⟨S2, r2, hY, p1, p2, p3, p4, p5, p6, p7⟩ := fees_2 lf fee true hl0 hl1 HF.out
        obtain ⟨rc, rp, ri, T⟩ := r2
        dsimp only at p1 p2 p3 p4 p5 p6 p7
        have hw : rp = lf := by rw [p1]; simp <;> omega
        have hc : rc = 0 := by rw [p7]; rfl
        have hb : aFree 1 S2.xs 0 0 = 1007 := by rw [p3]; rfl
        subst p5 p6
        rw [hw] at hY p2 p4
        rw [hc] at hY
        clear p1 hw hc p7
        have HY := Lib.hid hY
        have H2 := Lib.hid p2
        have H3 := Lib.hid hb
        have H4 := Lib.hid p4
        have wq : IntKind.u64.wrap (lf - lf) = lf - lf := by simp [IntKind.wrap, IntKind.bits, IntKind.signed] <;> omega
        clear hY p2 p3 p4 hb
        go_wp2_with fail
        refine (lxDo h2 (by omega) (feE2 fee true) (feE2_ok HF.out) S2 ⟨0, lf, 0, []⟩ HY.out).mono ?_
        rintro y v2 ⟨a2, d2, F2, rfl, -, k3, -, -⟩
        simp only [List.length_nil]
        have B2 : Blk (v2.alloc (.cells #[.int .i64 0, .int .u64 (lf), .int .i64 0, .slice a2 0 d2] 68)) v2.heap.size 68 [.int .i64 0, .int .u64 (lf), .int .i64 0, .slice a2 0 d2] := Blk.new v2 _ _
        have h3 := k3.to ((Chg.refl [] v2).alloc (.cells #[.int .i64 0, .int .u64 (lf), .int .i64 0, .slice a2 0 d2] 68))
        clear h2 k3
        go_upto_region 9 with (fail)
        generalize v2.heap.size = b2 at *
        generalize v2.alloc _ = W3 at *
        have x0 := B2.at (i := 0) rfl
        have x1 := B2.at (i := 1) rfl
        go_wp2_with fail
        refine (lxFree h3 0 1 (lf - lf) H2.out).mono ?_
        rintro y u1 ⟨rfl, q1⟩
        have h4 := h3.to q1
        have B3 := B2.chg q1 (by simp)
        clear h3 B2 q1 x0 x1
        have x0 := B3.at (i := 0) rfl
        have x1 := B3.at (i := 1) rfl
        go_wp2_with fail
        refine (lxFree h4 0 0 1007 H3.out).mono ?_
        rintro y u2 ⟨rfl, q2⟩
        have h5 := h4.to q2
        have B4 := B3.chg q2 (by simp)
        clear h4 B3 q2 x0 x1
        have x0 := B4.at (i := 0) rfl
        have x1 := B4.at (i := 1) rfl
        go_wp2_with fail
        refine (lxGot h5 (lf) H4.out).mono ?_
        rintro y u3 ⟨rfl, q3⟩
        have h6 := h5.to q3
        have B5 := B4.chg q3 (by simp)
        clear h5 B4 q3 x0 x1
        have x0 := B5.at (i := 0) rfl
        have x1 := B5.at (i := 1) rfl
        go_wp2_with fail
        refine (awake12 u3).mono ?_
        rintro y u4 ⟨rfl, q4⟩
        go_wp2_with fail
        go_ret
        exact ⟨rfl, (h6.c.trans q4).below⟩
      · obtain ⟨S2, r2, hY, p1, p2, p3, p4, p5, p6, p7⟩ := fees_2 lf fee true hl0 hl1 HF.out
        obtain ⟨rc, rp, ri, T⟩ := r2
        dsimp only at p1 p2 p3 p4 p5 p6 p7
        have hw : rp = 1 := by rw [p1]; simp <;> omega
        have hc : rc = 0 := by rw [p7]; rfl
        have hb : aFree 1 S2.xs 0 0 = 1007 := by rw [p3]; rfl
        subst p5 p6
        rw [hw] at hY p2 p4
        rw [hc] at hY
        clear p1 hw hc p7
        have HY := Lib.hid hY
        have H2 := Lib.hid p2
        have H3 := Lib.hid hb
        have H4 := Lib.hid p4
        have wq : IntKind.u64.wrap (lf - 1) = lf - 1 := by simp [IntKind.wrap, IntKind.bits, IntKind.signed] <;> omega
        clear hY p2 p3 p4 hb
        go_wp2_with fail
        refine (lxDo h2 (by omega) (feE2 fee true) (feE2_ok HF.out) S2 ⟨0, 1, 0, []⟩ HY.out).mono ?_
        rintro y v2 ⟨a2, d2, F2, rfl, -, k3, -, -⟩
        simp only [List.length_nil]
        have B2 : Blk (v2.alloc (.cells #[.int .i64 0, .int .u64 (1), .int .i64 0, .slice a2 0 d2] 68)) v2.heap.size 68 [.int .i64 0, .int .u64 (1), .int .i64 0, .slice a2 0 d2] := Blk.new v2 _ _
        have h3 := k3.to ((Chg.refl [] v2).alloc (.cells #[.int .i64 0, .int .u64 (1), .int .i64 0, .slice a2 0 d2] 68))
        clear h2 k3
        go_upto_region 9 with (fail)
        generalize v2.heap.size = b2 at *
        generalize v2.alloc _ = W3 at *
        have x0 := B2.at (i := 0) rfl
        have x1 := B2.at (i := 1) rfl
        go_wp2_with fail
        refine (lxFree h3 0 1 (lf - 1) H2.out).mono ?_
        rintro y u1 ⟨rfl, q1⟩
        have h4 := h3.to q1
        have B3 := B2.chg q1 (by simp)
        clear h3 B2 q1 x0 x1
        have x0 := B3.at (i := 0) rfl
        have x1 := B3.at (i := 1) rfl
        go_wp2_with fail
        refine (lxFree h4 0 0 1007 H3.out).mono ?_
        rintro y u2 ⟨rfl, q2⟩
        have h5 := h4.to q2
        have B4 := B3.chg q2 (by simp)
        clear h4 B3 q2 x0 x1
        have x0 := B4.at (i := 0) rfl
        have x1 := B4.at (i := 1) rfl
        go_wp2_with fail
        refine (lxGot h5 (1) H4.out).mono ?_
        rintro y u3 ⟨rfl, q3⟩
        have h6 := h5.to q3
        have B5 := B4.chg q3 (by simp)
        clear h5 B4 q3 x0 x1
        have x0 := B5.at (i := 0) rfl
        have x1 := B5.at (i := 1) rfl
        go_wp2_with fail
        refine (awake12 u3).mono ?_
        rintro y u4 ⟨rfl, q4⟩
        go_wp2_with fail
        go_ret
        exact ⟨rfl, (h6.c.trans q4).below⟩
end Go.Proofs.Yteabcpmpcbjicaa
