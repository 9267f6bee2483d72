
import Derived.Test.YteabcpmpcbjicaaExS3
import Derived.Test.YteabcpmpcbjicaaAwake10
import Derived.BigQuiet
import Derived.Deep.CutBlock
namespace Go.Proofs.Yteabcpmpcbjicaa
set_option linter.unusedVariables false
open Go Go.Proofs Go.RowKit
attribute [local go_sem ↓] Go.wp_at_zero Go.wp_at_succ

set_option maxRecDepth 100000 in
set_option maxHeartbeats 16000000 in
theorem exsums_walk (a1 : Option Addr) (n1 cap1 : Nat) (w : World) (h1 : SRec [some .i64, some .i64, some .i64, none, some .u64, some .u64] w a1 n1 cap1) :
    Calls Try.prog 10 #[.slice a1 n1 cap1] w fun e w' => e = .returned (.bool true) ∧ Below w.heap.size w w' := by
  have n1m : n1 ≤ 9223372036854775807 := by have := h1.1; have := h1.2.1; omega
  have H1 := Lib.hid h1; clear h1
  go_enter Try.func10, Try.ntmps10
  go_wp2_with fail
  refine (new_is 4 4 [0, 0, 0, 0, 0, 0, 0, 0] w (by decide) (by decide)).mono ?_
  rintro e wa ⟨ab, s, rfl, ha1, c1, ls, lb⟩
  go_wp2_with fail
  go_loopw [4] (fun i wr => ∃ j : Nat, j ≤ 8 ∧ i = .int .i64 j ∧ Acc wr ab s 4 (pre4 j) ∧ Chg [s] wa wr) (fun i _ => 8 - (intOf i).toNat)
  case atStart => exact ⟨0, by omega, rfl, ha1, Chg.refl _ _⟩
  case round =>
    clear ha1
    obtain ⟨j, hj, rfl, ha, hch⟩ := hrel
    by_cases hj8 : j < 8
    · have e1 : bits BinOp.and .i64 (j : Int) 3 = ((j % 4 : Nat) : Int) := by
        have := and_mask_i64 (j : Int) 2 (by omega)
        simpa using this
      have e2 : (j : Int).tdiv 4 = ((j / 4 : Nat) : Int) := by rw [Int.tdiv_eq_ediv_of_nonneg (by omega)]; rfl
      have wq : IntKind.i64.wrap ((j / 4 : Nat) : Int) = ((j / 4 : Nat) : Int) := IntWalk.i64_in _ (by omega)
      have d8 : decide ((j : Int) < 8) = true := by simp; omega
      go_wp2_with fail
      refine (put_is ha ((j % 4 : Nat) : Int) ((j / 4 : Nat) : Int) 100 _ (pre4 (j + 1)) ⟨by omega, by omega⟩ rfl rfl).mono ?_
      rintro e w2 ⟨rfl, ha2, c2⟩
      have hch2 := hch.trans c2
      clear ha hch c2 e1 e2 wq d8
      go_wp2_with fail
      go_roundw
      case rel => exact ⟨j + 1, by omega, by go_num, ha2, hch2⟩
      case measure => simp [intOf]; omega
    · obtain rfl : j = 8 := by omega
      rw [pre4_all] at ha
      have hc3 : Chg [] w wr := c1.trans' hch (fun z hz => .inr (by simp at hz; omega))
      clear c1 hch
      go_wp2_with fail
      refine (exNew ha hc3 lb ls).mono ?_
      rintro e w4 ⟨x, kb, F0, rfl, h4⟩
      clear ha hc3
      go_wp2_with fail
      go_loopw [6, 7] (fun v i wr => ∃ (k : Nat) (FF : List Nat) (xs : List Int) (L M : List Ord) (kk lst : Nat), k ≤ n1 ∧ k ≤ 50 ∧ i = .int .i64 k ∧ v = .int .i64 lst ∧ Exc w wr x ab s kb 4 FF xs L M kk ∧ kk ≤ k ∧ lst ≤ kk ∧ Hid (Sok xs L M)) (fun _ i _ => 50 - (intOf i).toNat)
      case atStart => exact ⟨0, F0, _, [], [], 0, 0, by omega, by omega, rfl, rfl, h4, by omega, by omega, Sok.start⟩
      case round =>
        clear h4
        obtain ⟨k, FF, xs, L, M, kk, lst, hk1, hk2, rfl, rfl, h, hkk, hls, HS⟩ := hrel
        by_cases hlt2 : k < n1 ∧ k < 50
        · obtain ⟨hm1, hm2⟩ := hlt2
          obtain ⟨b1, off, kd, cl, id, by', p0, q0, rfl, _, _, _, _, _, Q⟩ := H1.out.step10 hm1
          obtain ⟨s0, s1, s2, s3, s4, s5⟩ := Q.c wr h.b.c.below
          have d50 : decide ((k : Int) < 50) = true := by simp; omega
          have i1 : (0 : Int) ≤ (k : Int) := by omega
          have i2 : (k : Int) < (n1 : Int) := by omega
          obtain ⟨f1, e1, l1⟩ := and3_i64 cl
          obtain ⟨f2, e2, l2⟩ := and7_u64 p0
          obtain ⟨f3, e3, l3⟩ := and15_u64 q0
          have hb8 : Blk (wr.alloc (.cells #[.int .i64 kd, .int .i64 cl, .int .i64 id, .bool by', .int .u64 p0, .int .u64 q0] 81)) wr.heap.size 81 [.int .i64 kd, .int .i64 cl, .int .i64 id, .bool by', .int .u64 p0, .int .u64 q0] := Blk.new wr _ _
          have h8 := h.to ((Chg.refl [] wr).alloc (.cells #[.int .i64 kd, .int .i64 cl, .int .i64 id, .bool by', .int .u64 p0, .int .u64 q0] 81))
          obtain ⟨z1, z2, z3, z4, z5⟩ := h.lt
          clear h Q
          go_upto_region 16 with (fail)
          clear s0 s1 s2 s3 s4 s5
          generalize wr.heap.size = b8 at *
          generalize wr.alloc _ = W8 at *
          have y1 := hb8.at (i := 1) rfl
          have y4 := hb8.at (i := 4) rfl
          have y5 := hb8.at (i := 5) rfl
          go_quiet (fail)
          have h9 := h8.to ((Chg.refl [] _).drewN nq)
          have hb9 := hb8.chg ((Chg.refl [] _).drewN nq) (by simp)
          clear y1 y4 y5 h8 hb8 e1 e2 e3
          generalize W8.drewN nq = W9 at *
          have y0 := hb9.at (i := 0) rfl
          have y2 := hb9.at (i := 2) rfl
          have y3 := hb9.at (i := 3) rfl
          obtain ⟨f0, e0, l0⟩ : ∃ f : Nat, bits BinOp.and .i64 kd 7 = f ∧ f < 8 := low_i64 kd 3 (by omega)
          have hb8F : b8 ∉ x :: s :: FF := by
            simp
            exact ⟨by omega, by omega, fun hm => by have := z5 _ hm; omega⟩
          clear z1 z2 z3 z4 z5
          go_upto_block 4 with (fail)
          go_cut [6, 7, 12, 13, 14, 15] from 64 to 113 (fun v6 v7 v12 _ _ _ wx => ∃ (lst' kk' : Nat) (FF' : List Nat) (xs' : List Int) (L' M' : List Ord) (a12 : Option Addr) (n12 d12 : Nat) (T : List Trd) (B : Nat), v6 = .int .i64 (lst' : Int) ∧ v7 = .int .i64 (k : Int) ∧ v12 = .slice a12 T.length d12 ∧ T.length ≤ 60 ∧ NewF tc wx B 85 a12 T ∧ Exc w wx x ab s kb 4 FF' xs' L' M' kk' ∧ kk' ≤ k + 1 ∧ lst' ≤ kk' ∧ Sok xs' L' M' ∧ TFair by' (f2 : Int) (f1 : Int) T ∧ Blk wx b8 81 [.int .i64 kd, .int .i64 cl, .int .i64 id, .bool by', .int .u64 p0, .int .u64 q0])
          case first =>
            clear e0 y0
            rcases (by omega : f0 = 0 ∨ (f0 = 1 ∨ f0 = 2) ∨ 3 ≤ f0) with rfl | h12 | h3
            · obtain ⟨f6, e6, l6⟩ := and63_i64 id
              obtain ⟨oo, ok, hP⟩ : ∃ oo ok, pickB (f6 : Int) L M = (oo, ok) := ⟨_, _, rfl⟩
              by_cases hcc : ok = true ∧ oo.client = (f1 : Int)
              · obtain ⟨rfl, hc2⟩ := hcc
                have hs := Sok.cancel HS.out h9.ok hP
                rw [hc2] at hs
                have HSS := Lib.hid hs
                have HP := Lib.hid hP
                have HC := Lib.hid hc2
                clear hs hP hc2
                go_wp2_with fail
                refine (cancel_yes h9 (by omega) (f6 : Int) oo HP.out (f1 : Int) HC.out).mono ?_
                rintro e w6 ⟨rfl, h6, c6⟩
                have hb6 := hb9.chg c6 (fun hm => hb8F (List.mem_cons_of_mem x hm))
                clear h9 hb9 y2 y3 c6 e6
                go_wp2_with fail
                go_meet
                exact ⟨lst, kk, FF, _, _, _, none, 0, 0, [], 0, by go_num, rfl, rfl, by simp, .inl rfl, h6, by omega, by omega, HSS.out, by intro t ht; simp at ht, hb6⟩
              · have hne : ok = false ∨ oo.client ≠ (f1 : Int) := by
                  cases ok
                  · exact .inl rfl
                  · exact .inr fun e => hcc ⟨rfl, e⟩
                have HP := Lib.hid hP
                have HC := Lib.hid hne
                clear hP hne hcc
                go_wp2_with fail
                refine (cancel_no h9 (by omega) (f6 : Int) oo ok HP.out (f1 : Int) HC.out).mono ?_
                rintro e w6 ⟨rfl, h6, c6⟩
                have hb6 := hb9.chg c6 (by simp)
                clear h9 hb9 y2 y3 c6 e6
                go_wp2_with fail
                go_meet
                exact ⟨lst, kk, FF, _, _, _, none, 0, 0, [], 0, by go_num, rfl, rfl, by simp, .inl rfl, h6, by omega, by omega, HS.out, by intro t ht; simp at ht, hb6⟩
            · have d0 : ((f0 : Int) == 0) = false := beq_eq_false_iff_ne.2 (by omega)
              rcases h12 with rfl | rfl
              · by_cases hE : mtE 4 xs (f1 : Int) by' (f2 : Int) (f3 : Int) = 0
                · obtain ⟨hh, hw, hT0⟩ := mtE_zero hE ((kk : Int) + 1)
                  obtain ⟨hin, p1, q1⟩ := wIn_o hw ((kk : Int) + 1) (f1 : Int) by'
                  have hs := Sok.now HS.out h9.ok (o := ⟨(kk : Int) + 1, (f1 : Int), by', (f2 : Int), (f3 : Int)⟩) hin (by show (f2 : Int) ≤ 1000; omega) hh hT0
                  have hfr := h9.ok.fair ⟨(kk : Int) + 1, (f1 : Int), by', (f2 : Int), (f3 : Int)⟩
                  have hml := mres_len ⟨(kk : Int) + 1, (f1 : Int), by', (f2 : Int), (f3 : Int)⟩ L M
                  have hlen := h9.ok.len
                  dsimp only at hs hfr
                  obtain ⟨T, hT⟩ : ∃ T, (mres ⟨(kk : Int) + 1, (f1 : Int), by', (f2 : Int), (f3 : Int)⟩ L M).1 = T := ⟨_, rfl⟩
                  obtain ⟨lft, hlft⟩ : ∃ T, (mres ⟨(kk : Int) + 1, (f1 : Int), by', (f2 : Int), (f3 : Int)⟩ L M).2.1 = T := ⟨_, rfl⟩
                  obtain ⟨L', hL⟩ : ∃ T, mL ⟨(kk : Int) + 1, (f1 : Int), by', (f2 : Int), (f3 : Int)⟩ L M = T := ⟨_, rfl⟩
                  obtain ⟨M', hM⟩ : ∃ T, mM ⟨(kk : Int) + 1, (f1 : Int), by', (f2 : Int), (f3 : Int)⟩ L M = T := ⟨_, rfl⟩
                  obtain ⟨xs1, hx1⟩ : ∃ T, aTake 4 xs (f1 : Int) (lockA ⟨(kk : Int) + 1, (f1 : Int), by', (f2 : Int), (f3 : Int)⟩) (lockN ⟨(kk : Int) + 1, (f1 : Int), by', (f2 : Int), (f3 : Int)⟩) = T := ⟨_, rfl⟩
                  rw [hT, hlft, hL, hM, hx1] at hs
                  rw [hT] at hfr hml
                  obtain ⟨xs2, hx2⟩ : ∃ z, T.foldl (payL 4 ⟨(kk : Int) + 1, (f1 : Int), by', (f2 : Int), (f3 : Int)⟩) xs1 = z := ⟨_, rfl⟩
                  rw [hx2] at hs
                  obtain ⟨nT, hnT⟩ : ∃ m, T.length = m := ⟨_, rfl⟩
                  rw [hnT] at hml
                  have HSS := Lib.hid hs
                  have HFR := Lib.hid hfr
                  have HNT := Lib.hid hnT
                  have HT := Lib.hid (And.intro hT hlft)
                  have HLM := Lib.hid (And.intro hL hM)
                  have HX := Lib.hid (And.intro hx1 hx2)
                  have HE := Lib.hid hE
                  have hnT50 : nT ≤ 60 := by omega
                  clear hh hw hT0 hin hs hfr hT hlft hL hM hx1 hx2 hnT hE hml
                  go_wp2_with fail
                  refine (now_yes h9 (by omega) (f1 : Int) by' (f2 : Int) (f3 : Int) ⟨by omega, by omega⟩ ⟨by omega, by omega⟩ ⟨by omega, by omega⟩ HE.out xs1 xs2 T lft L' M' HX.out.1 HT.out HX.out.2 HLM.out.1 HLM.out.2).mono ?_
                  rw [HNT.out]
                  rintro e w6 ⟨a6, d6, rfl, hN6, h6, c6⟩
                  have hb6 := hb9.chg c6 hb8F
                  clear h9 hb9 y2 y3 c6
                  go_wp2_with fail
                  go_meet
                  exact ⟨lst, kk + 1, FF, _, L', M', a6, nT, d6, T, _, by go_num, rfl, by rw [HNT.out], by rw [HNT.out]; exact hnT50, hN6, h6, by omega, by omega, HSS.out, HFR.out, hb6⟩
                · obtain ⟨e0, he0⟩ : ∃ e, mtE 4 xs (f1 : Int) by' (f2 : Int) (f3 : Int) = e := ⟨_, rfl⟩
                  rw [he0] at hE
                  have HE := Lib.hid he0
                  have t1 : decide (e0 = 0) = false := by simp; exact hE
                  have t2 : (e0 == 0) = false := by simp; exact hE
                  have HNE := Lib.hid hE
                  clear he0 hE
                  go_wp2_with fail
                  refine (now_no h9 (by omega) (f1 : Int) by' (f2 : Int) (f3 : Int) ⟨by omega, by omega⟩ ⟨by omega, by omega⟩ ⟨by omega, by omega⟩ e0 HE.out HNE.out).mono ?_
                  rintro e w6 ⟨rfl, h6, c6⟩
                  have hb6 := hb9.chg c6 (fun hm => hb8F (by simp at hm; simp [hm]))
                  clear h9 hb9 y2 y3 c6
                  go_wp2_with fail
                  go_meet
                  exact ⟨lst, kk, FF, _, _, _, none, 0, 0, [], 0, by go_num, rfl, rfl, by simp, .inl rfl, h6, by omega, by omega, HS.out, by intro t ht; simp at ht, hb6⟩
              · by_cases hE : mtE 4 xs (f1 : Int) by' (f2 : Int) (f3 : Int) = 0
                · obtain ⟨hh, hw, hT0⟩ := mtE_zero hE ((kk : Int) + 1)
                  obtain ⟨hin, p1, q1⟩ := wIn_o hw ((kk : Int) + 1) (f1 : Int) by'
                  have hs := Sok.now HS.out h9.ok (o := ⟨(kk : Int) + 1, (f1 : Int), by', (f2 : Int), (f3 : Int)⟩) hin (by show (f2 : Int) ≤ 1000; omega) hh hT0
                  have hfr := h9.ok.fair ⟨(kk : Int) + 1, (f1 : Int), by', (f2 : Int), (f3 : Int)⟩
                  have hml := mres_len ⟨(kk : Int) + 1, (f1 : Int), by', (f2 : Int), (f3 : Int)⟩ L M
                  have hlen := h9.ok.len
                  dsimp only at hs hfr
                  obtain ⟨T, hT⟩ : ∃ T, (mres ⟨(kk : Int) + 1, (f1 : Int), by', (f2 : Int), (f3 : Int)⟩ L M).1 = T := ⟨_, rfl⟩
                  obtain ⟨lft, hlft⟩ : ∃ T, (mres ⟨(kk : Int) + 1, (f1 : Int), by', (f2 : Int), (f3 : Int)⟩ L M).2.1 = T := ⟨_, rfl⟩
                  obtain ⟨L', hL⟩ : ∃ T, mL ⟨(kk : Int) + 1, (f1 : Int), by', (f2 : Int), (f3 : Int)⟩ L M = T := ⟨_, rfl⟩
                  obtain ⟨M', hM⟩ : ∃ T, mM ⟨(kk : Int) + 1, (f1 : Int), by', (f2 : Int), (f3 : Int)⟩ L M = T := ⟨_, rfl⟩
                  obtain ⟨xs1, hx1⟩ : ∃ T, aTake 4 xs (f1 : Int) (lockA ⟨(kk : Int) + 1, (f1 : Int), by', (f2 : Int), (f3 : Int)⟩) (lockN ⟨(kk : Int) + 1, (f1 : Int), by', (f2 : Int), (f3 : Int)⟩) = T := ⟨_, rfl⟩
                  rw [hT, hlft, hL, hM, hx1] at hs
                  rw [hT] at hfr hml
                  obtain ⟨xs2, hx2⟩ : ∃ z, T.foldl (payL 4 ⟨(kk : Int) + 1, (f1 : Int), by', (f2 : Int), (f3 : Int)⟩) xs1 = z := ⟨_, rfl⟩
                  rw [hx2] at hs
                  obtain ⟨nT, hnT⟩ : ∃ m, T.length = m := ⟨_, rfl⟩
                  rw [hnT] at hml
                  have HSS := Lib.hid hs
                  have HFR := Lib.hid hfr
                  have HNT := Lib.hid hnT
                  have HT := Lib.hid (And.intro hT hlft)
                  have HLM := Lib.hid (And.intro hL hM)
                  have HX := Lib.hid (And.intro hx1 hx2)
                  have HE := Lib.hid hE
                  have hnT50 : nT ≤ 60 := by omega
                  clear hh hw hT0 hin hs hfr hT hlft hL hM hx1 hx2 hnT hE hml
                  go_wp2_with fail
                  refine (now_yes h9 (by omega) (f1 : Int) by' (f2 : Int) (f3 : Int) ⟨by omega, by omega⟩ ⟨by omega, by omega⟩ ⟨by omega, by omega⟩ HE.out xs1 xs2 T lft L' M' HX.out.1 HT.out HX.out.2 HLM.out.1 HLM.out.2).mono ?_
                  rw [HNT.out]
                  rintro e w6 ⟨a6, d6, rfl, hN6, h6, c6⟩
                  have hb6 := hb9.chg c6 hb8F
                  clear h9 hb9 y2 y3 c6
                  go_wp2_with fail
                  go_meet
                  exact ⟨lst, kk + 1, FF, _, L', M', a6, nT, d6, T, _, by go_num, rfl, by rw [HNT.out], by rw [HNT.out]; exact hnT50, hN6, h6, by omega, by omega, HSS.out, HFR.out, hb6⟩
                · obtain ⟨e0, he0⟩ : ∃ e, mtE 4 xs (f1 : Int) by' (f2 : Int) (f3 : Int) = e := ⟨_, rfl⟩
                  rw [he0] at hE
                  have HE := Lib.hid he0
                  have t1 : decide (e0 = 0) = false := by simp; exact hE
                  have t2 : (e0 == 0) = false := by simp; exact hE
                  have HNE := Lib.hid hE
                  clear he0 hE
                  go_wp2_with fail
                  refine (now_no h9 (by omega) (f1 : Int) by' (f2 : Int) (f3 : Int) ⟨by omega, by omega⟩ ⟨by omega, by omega⟩ ⟨by omega, by omega⟩ e0 HE.out HNE.out).mono ?_
                  rintro e w6 ⟨rfl, h6, c6⟩
                  have hb6 := hb9.chg c6 (fun hm => hb8F (by simp at hm; simp [hm]))
                  clear h9 hb9 y2 y3 c6
                  go_wp2_with fail
                  go_meet
                  exact ⟨lst, kk, FF, _, _, _, none, 0, 0, [], 0, by go_num, rfl, rfl, by simp, .inl rfl, h6, by omega, by omega, HS.out, by intro t ht; simp at ht, hb6⟩
            · have d0 : ((f0 : Int) == 0) = false := beq_eq_false_iff_ne.2 (by omega)
              have d1 : ((f0 : Int) == 1) = false := beq_eq_false_iff_ne.2 (by omega)
              have d2 : ((f0 : Int) == 2) = false := beq_eq_false_iff_ne.2 (by omega)
              by_cases hE : mtE 4 xs (f1 : Int) by' (f2 : Int) (f3 : Int) = 0
              · obtain ⟨hh, hw, hT0⟩ := mtE_zero hE ((kk : Int) + 1)
                obtain ⟨hin, p1, q1⟩ := wIn_o hw ((kk : Int) + 1) (f1 : Int) by'
                have hs := Sok.limit HS.out h9.ok (o := ⟨(kk : Int) + 1, (f1 : Int), by', (f2 : Int), (f3 : Int)⟩) hin (by show (f2 : Int) ≤ 1000; omega) hh hT0
                have hfr := h9.ok.fair ⟨(kk : Int) + 1, (f1 : Int), by', (f2 : Int), (f3 : Int)⟩
                have hml := mres_len ⟨(kk : Int) + 1, (f1 : Int), by', (f2 : Int), (f3 : Int)⟩ L M
                have hlen := h9.ok.len
                dsimp only at hs hfr
                obtain ⟨T, hT⟩ : ∃ T, (mres ⟨(kk : Int) + 1, (f1 : Int), by', (f2 : Int), (f3 : Int)⟩ L M).1 = T := ⟨_, rfl⟩
                obtain ⟨lft, hlft⟩ : ∃ T, (mres ⟨(kk : Int) + 1, (f1 : Int), by', (f2 : Int), (f3 : Int)⟩ L M).2.1 = T := ⟨_, rfl⟩
                obtain ⟨L', hL⟩ : ∃ T, mL ⟨(kk : Int) + 1, (f1 : Int), by', (f2 : Int), (f3 : Int)⟩ L M = T := ⟨_, rfl⟩
                obtain ⟨M', hM⟩ : ∃ T, mM ⟨(kk : Int) + 1, (f1 : Int), by', (f2 : Int), (f3 : Int)⟩ L M = T := ⟨_, rfl⟩
                obtain ⟨xs1, hx1⟩ : ∃ T, aTake 4 xs (f1 : Int) (lockA ⟨(kk : Int) + 1, (f1 : Int), by', (f2 : Int), (f3 : Int)⟩) (lockN ⟨(kk : Int) + 1, (f1 : Int), by', (f2 : Int), (f3 : Int)⟩) = T := ⟨_, rfl⟩
                rw [hT, hlft, hL, hM, hx1] at hs
                rw [hT] at hfr hml
                obtain ⟨xs2, hx2⟩ : ∃ z, T.foldl (payL 4 ⟨(kk : Int) + 1, (f1 : Int), by', (f2 : Int), (f3 : Int)⟩) xs1 = z := ⟨_, rfl⟩
                rw [hx2] at hs
                obtain ⟨nT, hnT⟩ : ∃ m, T.length = m := ⟨_, rfl⟩
                rw [hnT] at hml
                have HSS := Lib.hid hs
                have HFR := Lib.hid hfr
                have HNT := Lib.hid hnT
                have HT := Lib.hid (And.intro hT hlft)
                have HLM := Lib.hid (And.intro hL hM)
                have HX := Lib.hid (And.intro hx1 hx2)
                have HE := Lib.hid hE
                have hnT50 : nT ≤ 60 := by omega
                clear hh hw hT0 hin hs hfr hT hlft hL hM hx1 hx2 hnT hE hml
                go_wp2_with fail
                refine (limit_yes h9 (by omega) (f1 : Int) by' (f2 : Int) (f3 : Int) ⟨by omega, by omega⟩ ⟨by omega, by omega⟩ ⟨by omega, by omega⟩ HE.out xs1 xs2 T lft L' M' HX.out.1 HT.out HX.out.2 HLM.out.1 HLM.out.2).mono ?_
                rw [HNT.out]
                rintro e w6 ⟨a6, d6, rfl, hN6, F6, h6, c6, -, -⟩
                have hb6 := hb9.chg c6 hb8F
                have y3' := hb6.at (i := 3) rfl
                have hlt9 : (lst : Int) < (kk : Int) + 1 := by omega
                have t1 : decide ((0 : Int) < (kk : Int) + 1) = true := by simp <;> omega
                have t2 : decide ((kk : Int) + 1 ≤ (lst : Int)) = false := by simp; omega
                clear h9 hb9 y2 y3 c6
                go_wp2_with fail
                go_meet
                exact ⟨kk + 1, kk + 1, F6, _, _, _, a6, nT, d6, T, _, by go_num, rfl, by rw [HNT.out], by rw [HNT.out]; exact hnT50, hN6, h6, by omega, by omega, HSS.out, HFR.out, hb6⟩
              · obtain ⟨e0, he0⟩ : ∃ e, mtE 4 xs (f1 : Int) by' (f2 : Int) (f3 : Int) = e := ⟨_, rfl⟩
                rw [he0] at hE
                have HE := Lib.hid he0
                have t1 : decide (e0 = 0) = false := by simp; exact hE
                have t2 : (e0 == 0) = false := by simp; exact hE
                have HNE := Lib.hid hE
                clear he0 hE
                go_wp2_with fail
                refine (limit_no h9 (by omega) (f1 : Int) by' (f2 : Int) (f3 : Int) ⟨by omega, by omega⟩ ⟨by omega, by omega⟩ ⟨by omega, by omega⟩ e0 HE.out HNE.out).mono ?_
                rintro e w6 ⟨rfl, h6, c6⟩
                have hb6 := hb9.chg c6 (fun hm => hb8F (by simp at hm; simp [hm]))
                clear h9 hb9 y2 y3 c6
                rcases Nat.eq_zero_or_pos lst with hz | hz
                · subst hz
                  go_wp2_with fail
                  go_meet
                  exact ⟨0, kk, FF, _, _, _, none, 0, 0, [], 0, by go_num, rfl, rfl, by simp, .inl rfl, h6, by omega, by omega, HS.out, by intro t ht; simp at ht, hb6⟩
                · have hz2 : (0 : Int) < (lst : Int) := by omega
                  go_wp2_with fail
                  go_meet
                  exact ⟨lst, kk, FF, _, _, _, none, 0, 0, [], 0, by go_num, rfl, rfl, by simp, .inl rfl, h6, by omega, by omega, HS.out, by intro t ht; simp at ht, hb6⟩
          case rest =>
            clear h9 hb9 y0 y2 y3 e0 HS hb8F
            obtain ⟨lst', kk', FF', xs', L', M', a12, n12, d12, T, B, rfl, rfl, rfl, hT60, hN, h, hk1', hk2', HS2, HFA, hb⟩ := hcut
            have HS2 := Lib.hid HS2
            have HFA := Lib.hid HFA
            obtain ⟨nT, hnT⟩ : ∃ m, T.length = m := ⟨_, rfl⟩
            rw [hnT] at hT60 ⊢
            have HNT := Lib.hid hnT
            clear hnT
            go_wp2_with fail
            go_loopw [116] (fun i wx => ∃ j : Nat, j ≤ nT ∧ i = .int .i64 j ∧ Chg [] wc wx) (fun i _ => nT - (intOf i).toNat)
            case atStart => exact ⟨0, by omega, rfl, Chg.refl _ _⟩
            case round =>
              obtain ⟨j, hj, rfl, hch⟩ := hrel
              by_cases hjt : j < nT
              · have hjl : j < T.length := by rw [HNT.out]; exact hjt
                obtain ⟨gt, rfl, -, -, t0, t1, t2, t3, t4, t5⟩ := tr_at (hN.chg0 hch) hjl
                have hfa := HFA.out (T.getD j Trd.zero) (by simp [List.getD, hjl])
                generalize T.getD j Trd.zero = t at *
                have j1 : (0 : Int) ≤ (j : Int) := by omega
                have j2 : (j : Int) < (nT : Int) := by omega
                clear hjl
                cases by'
                · have hq := (hfa.2 rfl).2
                  have d1 : decide (t.price < (f2 : Int)) = false := by have := (hfa.2 rfl).1; simp; omega
                  have hb7 := (hb.chg hch (by simp)).alloc (.cells #[.int .i64 t.maker, .int .i64 t.taker, .int .i64 t.buyer, .int .i64 t.seller, .int .u64 t.price, .int .u64 t.qty] 85)
                  have hbt : Blk (wr.alloc (.cells #[.int .i64 t.maker, .int .i64 t.taker, .int .i64 t.buyer, .int .i64 t.seller, .int .u64 t.price, .int .u64 t.qty] 85)) wr.heap.size 85 (tc t) := Blk.new wr (tc t) _
                  have hch1 := hch.alloc (.cells #[.int .i64 t.maker, .int .i64 t.taker, .int .i64 t.buyer, .int .i64 t.seller, .int .u64 t.price, .int .u64 t.qty] 85)
                  have HQ := Lib.hid hq
                  clear hfa hch hq
                  go_upto_region 32 with (fail)
                  clear t0 t1 t2 t3 t4 t5
                  generalize wr.heap.size = g17 at *
                  generalize wr.alloc _ = W17 at *
                  have y3 := hb7.at (i := 3) rfl
                  have u4 := hbt.at (i := 4) rfl
                  have u2 : W17.cell? ⟨g17, 3, none⟩ = some (.int .i64 (f1 : Int)) := by rw [← HQ.out]; exact hbt.at (i := 3) rfl
                  clear hb7 hbt
                  go_wp2_with fail
                  go_roundw
                  case rel => exact ⟨j + 1, by omega, by go_num, hch1⟩
                  case measure => simp [intOf]; omega
                · have hq := (hfa.1 rfl).2
                  have d1 : decide ((f2 : Int) < t.price) = false := by have := (hfa.1 rfl).1; simp; omega
                  have hb7 := (hb.chg hch (by simp)).alloc (.cells #[.int .i64 t.maker, .int .i64 t.taker, .int .i64 t.buyer, .int .i64 t.seller, .int .u64 t.price, .int .u64 t.qty] 85)
                  have hbt : Blk (wr.alloc (.cells #[.int .i64 t.maker, .int .i64 t.taker, .int .i64 t.buyer, .int .i64 t.seller, .int .u64 t.price, .int .u64 t.qty] 85)) wr.heap.size 85 (tc t) := Blk.new wr (tc t) _
                  have hch1 := hch.alloc (.cells #[.int .i64 t.maker, .int .i64 t.taker, .int .i64 t.buyer, .int .i64 t.seller, .int .u64 t.price, .int .u64 t.qty] 85)
                  have HQ := Lib.hid hq
                  clear hfa hch hq
                  go_upto_region 32 with (fail)
                  clear t0 t1 t2 t3 t4 t5
                  generalize wr.heap.size = g17 at *
                  generalize wr.alloc _ = W17 at *
                  have y3 := hb7.at (i := 3) rfl
                  have u4 := hbt.at (i := 4) rfl
                  have u2 : W17.cell? ⟨g17, 2, none⟩ = some (.int .i64 (f1 : Int)) := by rw [← HQ.out]; exact hbt.at (i := 2) rfl
                  clear hb7 hbt
                  go_wp2_with fail
                  go_roundw
                  case rel => exact ⟨j + 1, by omega, by go_num, hch1⟩
                  case measure => simp [intOf]; omega
              · obtain rfl : j = nT := by omega
                have h' := h.to hch
                clear h hN hb hch
                go_wp2_with fail
                go_loopw [18] (fun i wx => Exc w wx x ab s kb 4 FF' xs' L' M' kk' ∧ (i = .int .i64 0 ∨ i = .int .i64 1 ∨ i = .int .i64 2)) (fun i _ => 2 - (intOf i).toNat)
                case atStart => exact ⟨h', .inl rfl⟩
                case round =>
                  clear h'
                  obtain ⟨h, hcs⟩ := hrel
                  rcases hcs with rfl | rfl | rfl
                  · have hpin := psum_in (k := 0) (by simp) HS2.out h.ok
                    have hp4 := psum_four (k := 0) (by simp) HS2.out h.ok
                    have HPI := Lib.hid hpin
                    have HP4 := Lib.hid hp4
                    clear hpin hp4
                    go_wp2_with fail
                    go_loopw [19, 20] (fun v i wx => ∃ j : Nat, j ≤ 4 ∧ i = .int .i64 j ∧ v = .int .u64 (psum 0 xs' L' M' j) ∧ Exc w wx x ab s kb 4 FF' xs' L' M' kk') (fun _ i _ => 4 - (intOf i).toNat)
                    case atStart => exact ⟨0, by omega, rfl, rfl, h⟩
                    case round =>
                      clear h
                      obtain ⟨j, hj, rfl, rfl, h⟩ := hrel
                      by_cases hj4 : j < 4
                      · obtain ⟨r1, r2, r3, r4⟩ := HPI.out j hj4
                        have hps : psum 0 xs' L' M' (j + 1) = psum 0 xs' L' M' j + aFree 4 xs' (j : Int) 0 + (lkd (j : Int) 0 L' + lkd (j : Int) 0 M') := rfl
                        obtain ⟨fr, hfr⟩ : ∃ z, aFree 4 xs' (j : Int) 0 = z := ⟨_, rfl⟩
                        obtain ⟨lc, hlc⟩ : ∃ z, lkd (j : Int) 0 L' + lkd (j : Int) 0 M' = z := ⟨_, rfl⟩
                        obtain ⟨ps, hpp⟩ : ∃ z, psum 0 xs' L' M' j = z := ⟨_, rfl⟩
                        rw [hfr, hlc, hpp] at r4 hps
                        rw [hfr] at r2
                        rw [hlc] at r3
                        rw [hpp] at r1 ⊢
                        have HPS := Lib.hid hps
                        have HFR := Lib.hid hfr
                        have HLC := Lib.hid hlc
                        have wA : IntKind.u64.wrap (ps + fr) = ps + fr := by simp [IntKind.wrap, IntKind.bits, IntKind.signed]; omega
                        have wB : IntKind.u64.wrap (ps + fr + lc) = ps + fr + lc := by simp [IntKind.wrap, IntKind.bits, IntKind.signed]; omega
                        clear hps hfr hlc hpp
                        go_wp2_with fail
                        refine (free_is h.a (j : Int) 0 fr HFR.out).mono ?_
                        rintro e w8 ⟨rfl, rfl⟩
                        go_wp2_with fail
                        refine (locked_any h (by omega) (j : Int) 0 lc HLC.out).mono ?_
                        rintro e w8 ⟨rfl, c8⟩
                        have h8 := h.to c8
                        clear h c8
                        go_wp2_with fail
                        go_roundw
                        case rel => exact ⟨j + 1, by omega, by go_num, by rw [HPS.out], h8⟩
                        case measure => simp [intOf]; omega
                      · obtain rfl : j = 4 := by omega
                        rw [HP4.out]
                        go_wp2_with fail
                        go_roundw
                        case rel => exact ⟨h, .inr (.inl rfl)⟩
                        case measure => simp [intOf]
                  · have hpin := psum_in (k := 1) (by simp) HS2.out h.ok
                    have hp4 := psum_four (k := 1) (by simp) HS2.out h.ok
                    have HPI := Lib.hid hpin
                    have HP4 := Lib.hid hp4
                    clear hpin hp4
                    go_wp2_with fail
                    go_loopw [19, 20] (fun v i wx => ∃ j : Nat, j ≤ 4 ∧ i = .int .i64 j ∧ v = .int .u64 (psum 1 xs' L' M' j) ∧ Exc w wx x ab s kb 4 FF' xs' L' M' kk') (fun _ i _ => 4 - (intOf i).toNat)
                    case atStart => exact ⟨0, by omega, rfl, rfl, h⟩
                    case round =>
                      clear h
                      obtain ⟨j, hj, rfl, rfl, h⟩ := hrel
                      by_cases hj4 : j < 4
                      · obtain ⟨r1, r2, r3, r4⟩ := HPI.out j hj4
                        have hps : psum 1 xs' L' M' (j + 1) = psum 1 xs' L' M' j + aFree 4 xs' (j : Int) 1 + (lkd (j : Int) 1 L' + lkd (j : Int) 1 M') := rfl
                        obtain ⟨fr, hfr⟩ : ∃ z, aFree 4 xs' (j : Int) 1 = z := ⟨_, rfl⟩
                        obtain ⟨lc, hlc⟩ : ∃ z, lkd (j : Int) 1 L' + lkd (j : Int) 1 M' = z := ⟨_, rfl⟩
                        obtain ⟨ps, hpp⟩ : ∃ z, psum 1 xs' L' M' j = z := ⟨_, rfl⟩
                        rw [hfr, hlc, hpp] at r4 hps
                        rw [hfr] at r2
                        rw [hlc] at r3
                        rw [hpp] at r1 ⊢
                        have HPS := Lib.hid hps
                        have HFR := Lib.hid hfr
                        have HLC := Lib.hid hlc
                        have wA : IntKind.u64.wrap (ps + fr) = ps + fr := by simp [IntKind.wrap, IntKind.bits, IntKind.signed]; omega
                        have wB : IntKind.u64.wrap (ps + fr + lc) = ps + fr + lc := by simp [IntKind.wrap, IntKind.bits, IntKind.signed]; omega
                        clear hps hfr hlc hpp
                        go_wp2_with fail
                        refine (free_is h.a (j : Int) 1 fr HFR.out).mono ?_
                        rintro e w8 ⟨rfl, rfl⟩
                        go_wp2_with fail
                        refine (locked_any h (by omega) (j : Int) 1 lc HLC.out).mono ?_
                        rintro e w8 ⟨rfl, c8⟩
                        have h8 := h.to c8
                        clear h c8
                        go_wp2_with fail
                        go_roundw
                        case rel => exact ⟨j + 1, by omega, by go_num, by rw [HPS.out], h8⟩
                        case measure => simp [intOf]; omega
                      · obtain rfl : j = 4 := by omega
                        rw [HP4.out]
                        go_wp2_with fail
                        go_roundw
                        case rel => exact ⟨h, .inr (.inr rfl)⟩
                        case measure => simp [intOf]
                  · go_wp2_with fail
                    go_roundw
                    case rel => exact ⟨k + 1, FF', xs', L', M', kk', lst', by omega, by omega, by go_num, rfl, h, by omega, by omega, HS2⟩
                    case measure => simp [intOf]; omega
        · have hlt3 : Hid (¬ (k < n1 ∧ k < 50)) := hlt2
          clear hlt2
          rcases Nat.lt_or_ge k n1 with hh | hh
          · have h6 : ¬ k < 50 := fun h7 => hlt3.out ⟨hh, h7⟩
            have d50 : decide ((k : Int) < 50) = false := by simp; omega
            go_wp2_with fail
            refine (awake10 _).mono ?_
            rintro e w2 ⟨rfl, c2⟩
            go_wp2_with fail
            go_ret
            exact ⟨rfl, (h.b.c.trans c2).below⟩
          · go_wp2_with fail
            refine (awake10 _).mono ?_
            rintro e w2 ⟨rfl, c2⟩
            go_wp2_with fail
            go_ret
            exact ⟨rfl, (h.b.c.trans c2).below⟩
end Go.Proofs.Yteabcpmpcbjicaa
