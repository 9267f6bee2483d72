
import Derived.Test.YteabcpmpcbjicaaRx3R
import Derived.Test.YteabcpmpcbjicaaExS3
import Derived.BigQuiet
namespace Go.Proofs.Yteabcpmpcbjicaa
set_option linter.unusedVariables false
open Go Go.Proofs Go.RowKit
attribute [local go_sem ↓] Go.wp_at_zero Go.wp_at_succ

set_option maxRecDepth 100000 in
set_option maxHeartbeats 8000000 in
theorem rxplace_limit {w wr : World} {y rb rs g n : Nat} {F : List Nat} {xs : List Int} {L M : List Ord} {k : Nat} (h : Rxc w wr y rb rs g n F xs L M k) (hk : k < 1000000) (hgl : g < wr.heap.size) (c : Int) (b : Bool) (p q : Int) (hp : U p) (hq : U q) (hc : I c) (hOKS : ∀ z ∈ L ++ M, z.Ok) (hE : mtE n xs c b p q = 0)
    (xs1 xs2 : List Int) (T : List Trd) (lft : Int) (L' M' : List Ord) (hx1 : aTake n xs c (lockA ⟨(k : Int) + 1, c, b, p, q⟩) (lockN ⟨(k : Int) + 1, c, b, p, q⟩) = xs1) (hT : (mres ⟨(k : Int) + 1, c, b, p, q⟩ L M).1 = T ∧ (mres ⟨(k : Int) + 1, c, b, p, q⟩ L M).2.1 = lft) (hx2 : T.foldl (payL n ⟨(k : Int) + 1, c, b, p, q⟩) xs1 = xs2)
    (hL : mL ⟨(k : Int) + 1, c, b, p, q⟩ L M = L') (hM : mM ⟨(k : Int) + 1, c, b, p, q⟩ L M = M') :
    Calls Try.prog 47 #[.pointer (some ⟨y, 0, none⟩), .int .i64 c, .bool b, .int .u64 p, .int .u64 q, .bool true] wr fun e w' => ∃ a cap, e = .returned (.tuple #[.int .i64 ((k : Int) + 1), .slice a T.length cap, .int .i64 0]) ∧ NewF tc w' wr.heap.size 85 a T ∧ Rxc w w' y rb rs g n F xs2 (restL ⟨(k : Int) + 1, c, b, p, lft⟩ L') (restM ⟨(k : Int) + 1, c, b, p, lft⟩ M') (k + 1) ∧ Chg [y, g, rs] wr w' := by
  obtain ⟨hh, hw, hT0⟩ := mtE_zero hE ((k : Int) + 1)
  obtain ⟨hin, p1, q1⟩ := wIn_o hw ((k : Int) + 1) c b
  have hlk := hin.lock
  have hinp := hin.p
  have hinq := hin.q
  dsimp only at hinp hinq
  obtain ⟨hc0, hcl⟩ : 0 ≤ c ∧ c < (n : Int) := by
    obtain ⟨cn, hcn, hcl⟩ := aHas_nat hh
    omega
  have HTE := Lib.hid hT0
  have HIN := Lib.hid hin
  have HX1 := Lib.hid hx1
  have HX2 := Lib.hid hx2
  have HT := Lib.hid hT
  have HTI := Lib.hid (h.ok.trades hin)
  have HFA := Lib.hid (h.ok.fair ⟨(k : Int) + 1, c, b, p, q⟩)
  have hlf := mres_left h.ok hin
  rw [hT.2] at hlf
  have hv1 : 0 ≤ lft := hlf.1
  have hv2 : lft ≤ q := hlf.2
  have hv3 : lft < 18446744073709551616 := by omega
  have HU2 : Hid (U lft) := ⟨hv1, hv3⟩
  have HLF := Lib.hid hlf
  have hok := h.ok.met ⟨(k : Int) + 1, c, b, p, q⟩
  have HALL := Lib.hid (fun z hz => (h.ok.oin z hz))
  rw [hL, hM] at hok
  have HOK0 := Lib.hid hok
  have HOK := Lib.hid (hok.mono (Nat.le_succ k))
  have HLM := Lib.hid (And.intro hL hM)
  have hlen := h.ok.len
  have hlen2 := hok.len
  have hTl := mres_len ⟨(k : Int) + 1, c, b, p, q⟩ L M
  rw [hT.1] at hTl
  obtain ⟨nT, hnT⟩ : ∃ m, T.length = m := ⟨_, rfl⟩
  rw [hnT] at hTl ⊢
  have HNT := Lib.hid hnT
  have HOO : Hid ((⟨(k : Int) + 1, c, b, p, q⟩ : Ord).Ok) := ordOk _ _ _ _ _ ⟨by omega, by omega⟩ hc ⟨hp.1, hp.2⟩ ⟨hq.1, hq.2⟩
  have HOKS := Lib.hid hOKS
  have HHAS := Lib.hid hh
  obtain ⟨cap, hcap, -, hhd⟩ := h.a.head
  have x0 := h.hd.at (i := 0) rfl
  have x2 := h.hd.at (i := 2) rfl
  have r0 := hhd.at (i := 0) rfl
  have d1 : decide (c < 0) = false := by simp; omega
  have d2 : decide ((n : Int) ≤ c) = false := by simp; omega
  have d3 : (p == 0) = false := by simp; omega
  have d4 : decide (1048576 < p) = false := by simp; omega
  have d5 : (q == 0) = false := by simp; omega
  have d6 : decide (1048576 < q) = false := by simp; omega
  have wk : IntKind.i64.wrap ((k : Int) + 1) = (k : Int) + 1 := IntWalk.i64_in _ (by omega)
  have hbo : Blk (wr.alloc (.cells #[.int .i64 ((k : Int) + 1), .int .i64 c, .bool b, .int .u64 p, .int .u64 q] 152)) wr.heap.size 152 (oc ⟨(k : Int) + 1, c, b, p, q⟩) := Blk.new wr (oc ⟨(k : Int) + 1, c, b, p, q⟩) 152
  have h1 := h.box ((Chg.refl [] wr).alloc (.cells #[.int .i64 ((k : Int) + 1), .int .i64 c, .bool b, .int .u64 p, .int .u64 q] 152)) (Nat.le_refl _) (by simp)
  have HINF := Lib.hid h.inF
  have HOKR : Hid (EOk n (restL ⟨(k : Int) + 1, c, b, p, lft⟩ L') (restM ⟨(k : Int) + 1, c, b, p, lft⟩ M') (k + 1)) := HOK0.out.rest rfl (hin.lt lft hlf) hh
  have HIN2 : Hid (OIn ⟨(k : Int) + 1, c, b, p, lft⟩) := hin.lt lft hlf
  have lk2 := HIN2.out.lock
  have hc1 : Chg [] wr (wr.alloc (.cells #[.int .i64 ((k : Int) + 1), .int .i64 c, .bool b, .int .u64 p, .int .u64 q] 152)) := (Chg.refl _ _).alloc _
  have HC1 := Lib.hid hc1
  obtain ⟨n1, n2⟩ := h.ne
  obtain ⟨g1, g2, g3⟩ := h.gne
  have ly := h.hd.lt
  have lrs : rs < wr.heap.size := h.a.row.lt
  have lrb : rb < wr.heap.size := hhd.lt
  clear h hc1 hE hh hw hT0 hin hx1 hx2 hT hlf hok hL hM hnT hcap hhd hOKS
  go_enter Try.func47, Try.ntmps47
  go_upto_region 6 with (fail)
  clear x0 x2 r0 d1 d2 d3 d4 d5 d6
  obtain ⟨go, hgo⟩ : ∃ g, wr.heap.size = g := ⟨_, rfl⟩
  rw [hgo] at hbo h1 ly lrb lrs hgl ⊢
  have HG := Lib.hid hgo
  clear hgo
  generalize wr.alloc _ = W1 at *
  have y0 := hbo.at (i := 0) rfl
  have y1 := hbo.at (i := 1) rfl
  have y2 := hbo.at (i := 2) rfl
  have y3 := hbo.at (i := 3) rfl
  have y4 := hbo.at (i := 4) rfl
  go_wp2_with fail
  refine (needs_any ⟨(k : Int) + 1, c, b, p, q⟩ HIN.out W1).mono ?_
  rintro e w4 ⟨rfl, c4⟩
  have h2 := h1.to c4
  have hb2 := hbo.chg c4 (by simp)
  have HC2 := Lib.hid (HC1.out.trans c4)
  clear h1 HC1 c4 y0 y1 y2 y3 y4 hbo
  have x0 := h2.hd.at (i := 0) rfl
  obtain ⟨lA, hlA⟩ : ∃ l, lockA ⟨(k : Int) + 1, c, b, p, q⟩ = l := ⟨_, rfl⟩
  obtain ⟨lN, hlN⟩ : ∃ l, lockN ⟨(k : Int) + 1, c, b, p, q⟩ = l := ⟨_, rfl⟩
  rw [hlA, hlN] at HTE HX1
  rw [hlN] at hlk
  rw [hlA, hlN]
  clear hlA hlN
  go_wp2_with fail
  refine (rtake_is h2.a c lA lN 0 xs1 ⟨by omega, by omega⟩ HTE.out HX1.out).mono ?_
  rintro e w5 ⟨rfl, ha5, c5⟩
  have h3 := h2.acct ha5 c5
  have hb3 := hb2.chg c5 (by simp; omega)
  have HC3 : Hid (Chg [y, g, rs] wr w5) := (HC2.out.mono (by simp)).trans (c5.mono (by simp))
  clear h2 hb2 HC2 c5 x0 ha5
  have x2 := h3.hd.at (i := 2) rfl
  have fx2 := h3.hd.free 2
  have h4 := h3.last
  have c4 : Chg [y] w5 (w5.setCell ⟨y, 2, none⟩ (.int .i64 ((k : Int) + 1))) := (Chg.refl _ _).setCell _ _ (by simp)
  have hb4 := hb3.chg c4 (by simp; omega)
  have HC4 : Hid (Chg [y, g, rs] wr (w5.setCell ⟨y, 2, none⟩ (.int .i64 ((k : Int) + 1)))) := HC3.out.trans (c4.mono (by simp))
  clear h3 hb3 HC3 c4
  go_upto_region 11 with (fail)
  clear x2 fx2
  generalize w5.setCell _ _ = W6 at *
  have x1 := h4.hd.at (i := 1) rfl
  have y0 := hb4.at (i := 0) rfl
  have y1 := hb4.at (i := 1) rfl
  have y2 := hb4.at (i := 2) rfl
  have y3 := hb4.at (i := 3) rfl
  have y4 := hb4.at (i := 4) rfl
  have hM := rbMatch_is (h4.to (Chg.refl [] W6).drew).b ⟨(k : Int) + 1, c, b, p, q⟩ T lft HT.out HOO.out HOKS.out (by omega) (by omega)
  rw [HNT.out, HLM.out.1, HLM.out.2] at hM
  have hgo2 : go ∉ [g] := by simp; omega
  have hyg : y ∉ [g] := by simp; omega
  refine place_reg (by intro c a d v w h; cases d <;> exact h) hM (fun w' a d h => ⟨h.2.2.cell x1 hyg, h.2.2.cell y0 hgo2, h.2.2.cell y1 hgo2, h.2.2.cell y2 hgo2, h.2.2.cell y3 hgo2, h.2.2.cell y4 hgo2⟩) x1 y0 y1 y2 y3 y4 ?_
  rintro w7 a7 d7 ⟨hN7, hB7, c7⟩
  intros
  have hVl : go < W6.drew.heap.size := hb4.lt
  have h7 := (h4.to (Chg.refl [] W6).drew).book hB7 c7 HOK.out
  have hb7 := hb4.drew.chg c7 hgo2
  have HC7 : Hid (Chg [y, g, rs] wr w7) := HC4.out.drew.trans (c7.mono (by simp))
  clear hM x1 y0 y1 y2 y3 y4 h4 hb4 HC4 hB7 c7
  generalize W6.drew.heap.size = vz at *
  go_wp2_with fail
  go_loopw [21] (fun i wx => ∃ j : Nat, j ≤ nT ∧ i = .int .i64 j ∧ RAcc wx rb rs n ((T.take j).foldl (payL n ⟨(k : Int) + 1, c, b, p, q⟩) xs1) ∧ Chg [rs] w7 wx) (fun i _ => nT - (intOf i).toNat)
  case atStart => exact ⟨0, by omega, rfl, h7.a, Chg.refl _ _⟩
  case round =>
    obtain ⟨j, hj, rfl, hA, hch⟩ := hrel
    by_cases hjt : j < nT
    · have hjl : j < T.length := by rw [HNT.out]; exact hjt
      obtain ⟨gt, rfl, hgt, -, tat⟩ := tr_at (hN7.chg hch (by simp; omega)) hjl
      have hti := HTI.out (T.getD j Trd.zero) (by rw [HT.out.1]; simp [List.getD, hjl])
      have hfa := HFA.out (T.getD j Trd.zero) (by rw [HT.out.1]; simp [List.getD, hjl])
      have htk : (T.take (j + 1)).foldl (payL n ⟨(k : Int) + 1, c, b, p, q⟩) xs1 = payL n ⟨(k : Int) + 1, c, b, p, q⟩ ((T.take j).foldl (payL n ⟨(k : Int) + 1, c, b, p, q⟩) xs1) (T.getD j Trd.zero) := by
        rw [List.take_succ_eq_append_getElem hjl, List.foldl_append]
        simp [List.getD, hjl]
      generalize T.getD j Trd.zero = t at *
      obtain ⟨ys, hys⟩ : ∃ ys, (T.take j).foldl (payL n ⟨(k : Int) + 1, c, b, p, q⟩) xs1 = ys := ⟨_, rfl⟩
      rw [hys] at hA htk
      have HTK := Lib.hid htk
      have HFT := Lib.hid hfa
      obtain ⟨tp, tq, tl⟩ := hti
      dsimp only at tl
      have hm1 := mul_lt tp tq
      obtain ⟨t0, t1, t2, t3, t4, t5⟩ := tat
      have j1 : (0 : Int) ≤ (j : Int) := by omega
      have j2 : (j : Int) < (nT : Int) := by omega
      have hX1 := (h7.hd.chg hch (by simp; omega)).chg ((Chg.refl [] wr).alloc (.cells #[.int .i64 t.maker, .int .i64 t.taker, .int .i64 t.buyer, .int .i64 t.seller, .int .u64 t.price, .int .u64 t.qty] 85)) (by simp)
      have hA1 := hA.alloc (.cells #[.int .i64 t.maker, .int .i64 t.taker, .int .i64 t.buyer, .int .i64 t.seller, .int .u64 t.price, .int .u64 t.qty] 85)
      have hch1 := hch.alloc (.cells #[.int .i64 t.maker, .int .i64 t.taker, .int .i64 t.buyer, .int .i64 t.seller, .int .u64 t.price, .int .u64 t.qty] 85)
      have hbt : Blk (wr.alloc (.cells #[.int .i64 t.maker, .int .i64 t.taker, .int .i64 t.buyer, .int .i64 t.seller, .int .u64 t.price, .int .u64 t.qty] 85)) wr.heap.size 85 (tc t) := Blk.new wr (tc t) _
      have hrl : rs < wr.heap.size := hA.row.lt
      clear htk hjl hys hA hch hfa
      go_upto_region 16 with (fail)
      clear t0 t1 t2 t3 t4 t5
      generalize wr.heap.size = g9 at *
      generalize wr.alloc _ = W9 at *
      have w1 : IntKind.u64.wrap (t.price * t.qty) = t.price * t.qty := by simp [IntKind.wrap, IntKind.bits, IntKind.signed]; omega
      have x0 := hX1.at (i := 0) rfl
      have t3 := hbt.at (i := 3) rfl
      have t4 := hbt.at (i := 4) rfl
      have t5 := hbt.at (i := 5) rfl
      go_still_tail 11, (by kernel_rfl)
      change wpList _ _ _ _ _ W9.drew
      have hA2 := hA1.drew
      have hX2 := hX1.drew
      have ht2 := hbt.drew
      have hch2 := hch1.drew
      clear x0 t3 t4 t5 hA1 hX1 hbt hch1
      generalize W9.drew = V at *
      go_wp2_with fail
      refine (rput_is hA2 t.seller 1 (t.price * t.qty) _ _ ⟨by omega, by omega⟩ rfl rfl).mono ?_
      rintro e w3 ⟨rfl, hA3, c3⟩
      have hX3 := hX2.chg c3 (by simp; omega)
      have ht3 := ht2.chg c3 (by simp; omega)
      have hch3 := hch2.trans c3
      clear hA2 hX2 ht2 hch2 c3
      have x0 := hX3.at (i := 0) rfl
      have t2 := ht3.at (i := 2) rfl
      have t5 := ht3.at (i := 5) rfl
      go_upto_region 17 with (fail)
      go_still_tail 8, (by kernel_rfl)
      change wpList _ _ _ _ _ w3.drew
      have hA4 := hA3.drew
      have hX4 := hX3.drew
      have ht4 := ht3.drew
      have hch4 := hch3.drew
      clear x0 t2 t5 hA3 hX3 ht3 hch3
      generalize w3.drew = V4 at *
      go_wp2_with fail
      refine (rput_is hA4 t.buyer 0 t.qty _ _ ⟨by omega, by omega⟩ rfl rfl).mono ?_
      rintro e w5 ⟨rfl, hA5, c5⟩
      have hX5 := hX4.chg c5 (by simp; omega)
      have ht5 := ht4.chg c5 (by simp; omega)
      have hch5 := hch4.trans c5
      clear hA4 hX4 ht4 hch4 c5
      cases b
      · have hA6 : RAcc w5 rb rs n (payL n ⟨(k : Int) + 1, c, false, p, q⟩ ys t) := hA5
        rw [← HTK.out] at hA6
        go_wp2_with fail
        go_roundw
        case rel => exact ⟨j + 1, by omega, by go_num, hA6, hch5⟩
        case measure => simp [intOf]; omega
      · have tl2 := tl rfl
        have hm2 := mul_lt (a := p - t.price) ⟨by omega, by omega⟩ tq
        have w2 : IntKind.u64.wrap (p - t.price) = p - t.price := by simp [IntKind.wrap, IntKind.bits, IntKind.signed]; omega
        have w3 : IntKind.u64.wrap ((p - t.price) * t.qty) = (p - t.price) * t.qty := by simp [IntKind.wrap, IntKind.bits, IntKind.signed]; omega
        have x0 := hX5.at (i := 0) rfl
        have t4 := ht5.at (i := 4) rfl
        have t5 := ht5.at (i := 5) rfl
        clear tl
        go_upto_region 19 with (fail)
        go_still_tail 12, (by kernel_rfl)
        change wpList _ _ _ _ _ w5.drew
        have hA6 := hA5.drew
        have hch6 := hch5.drew
        clear x0 t4 t5 hA5 hX5 ht5 hch5
        generalize w5.drew = V6 at *
        go_wp2_with fail
        refine (rput_is hA6 c 1 ((p - t.price) * t.qty) _ _ ⟨by omega, by omega⟩ rfl rfl).mono ?_
        rintro e w8 ⟨rfl, hA7, c7⟩
        have hch7 := hch6.trans c7
        have hA8 : RAcc w8 rb rs n (payL n ⟨(k : Int) + 1, c, true, p, q⟩ ys t) := by
          have e : t.buyer = c := (HFT.out.1 (by trivial)).2
          have : payL n ⟨(k : Int) + 1, c, true, p, q⟩ ys t = aPut n (aPut n (aPut n ys t.seller 1 (t.price * t.qty)) t.buyer 0 t.qty) c 1 ((p - t.price) * t.qty) := by unfold payL; rw [if_pos rfl, ← e]
          rw [this]; exact hA7
        rw [← HTK.out] at hA8
        clear hA6 hch6 hA7 c7
        go_wp2_with fail
        go_roundw
        case rel => exact ⟨j + 1, by omega, by go_num, hA8, hch7⟩
        case measure => simp [intOf]; omega
    · obtain rfl : j = nT := by omega
      have hA9 : RAcc wr rb rs n xs2 := by have := hA; rwa [List.take_of_length_le (by rw [HNT.out]; exact Nat.le_refl _), HX2.out] at this
      have h9 := h7.acct hA9 hch
      have hN9 := hN7.chg hch (by simp; omega)
      have hb9 := hb7.chg hch (by simp; omega)
      have HC9 := Lib.hid (HC7.out.trans (hch.mono (by simp)))
      clear hA hA9 h7 hN7 hb7 HC7 hch
      have v4 := hb9.at (i := 4) rfl
      have fv := hb9.free 4
      have c10 : Chg [go] wr (wr.setCell ⟨go, 4, none⟩ (.int .u64 lft)) := (Chg.refl _ _).setCell _ _ (by simp)
      have h10 := h9.far c10 (by simp) ⟨by simp; omega, by simp; omega, by simp; omega⟩ (Grw.refl _ _) (fun z hz => Nat.lt_of_lt_of_le (h9.b.fr z hz) c10.size) h9.inF
      have hN10 := hN9.chg c10 (by simp; exact hVl)
      have hb10 : Blk (wr.setCell ⟨go, 4, none⟩ (.int .u64 lft)) go 152 (oc ⟨(k : Int) + 1, c, b, p, lft⟩) := hb9.set 4 _
      have HC10 : Hid (Chg [y, g, rs] _ (wr.setCell ⟨go, 4, none⟩ (.int .u64 lft))) := HC9.out.setCell _ _ (.inr (by rw [HG.out]; exact Nat.le_refl _))
      clear h9 hN9 hb9 HC9 c10
      go_upto_region 22 with (fail)
      clear v4 fv
      generalize wr.setCell _ _ = W10 at *
      have y0 := hb10.at (i := 0) rfl
      have y1 := hb10.at (i := 1) rfl
      have y2 := hb10.at (i := 2) rfl
      have y3 := hb10.at (i := 3) rfl
      have y4 := hb10.at (i := 4) rfl
      have x1 := h10.hd.at (i := 1) rfl
      go_still_tail 5, (by kernel_rfl)
      change wpList _ _ _ _ _ W10.drew
      have h11 := h10.to (Chg.refl [] W10).drew
      have hN11 := hN10.chg0 (Chg.refl [] W10).drew
      have hb11 := hb10.drew
      have HC11 := Lib.hid HC10.out.drew
      clear x1 y0 y1 y2 y3 y4 h10 hN10 hb10 HC10
      generalize W10.drew = V at *
      go_wp2_with fail
      refine (rbRest h11.b ⟨(k : Int) + 1, c, b, p, lft⟩ HU2.out (by omega) (by omega)).mono ?_
      rintro e w12 ⟨rfl, hB12, c12⟩
      have h12 := (h11.book hB12 c12 HOKR.out).sub HINF.out
      have hN12 := hN11.chg c12 (by simp; omega)
      have y0 := (hb11.chg c12 hgo2).at (i := 0) rfl
      have hcz : Chg [y, g, rs] _ w12 := HC11.out.trans (c12.mono (by simp))
      clear h11 hN11 hb11 HC11 hB12 c12
      go_wp2_with fail
      go_ret3
      first | exact ⟨a7, d7, rfl, by rw [HG.out]; exact hN12.mono (by omega), h12, hcz⟩ | exact ⟨a7, ⟨d7, rfl⟩, by rw [HG.out]; exact hN12.mono (by omega), h12, hcz⟩

set_option maxRecDepth 100000 in
set_option maxHeartbeats 8000000 in
theorem rxplace_now {w wr : World} {y rb rs g n : Nat} {F : List Nat} {xs : List Int} {L M : List Ord} {k : Nat} (h : Rxc w wr y rb rs g n F xs L M k) (hk : k < 1000000) (hgl : g < wr.heap.size) (c : Int) (b : Bool) (p q : Int) (hp : U p) (hq : U q) (hc : I c) (hOKS : ∀ z ∈ L ++ M, z.Ok) (hE : mtE n xs c b p q = 0)
    (xs1 xs2 : List Int) (T : List Trd) (lft : Int) (L' M' : List Ord) (hx1 : aTake n xs c (lockA ⟨(k : Int) + 1, c, b, p, q⟩) (lockN ⟨(k : Int) + 1, c, b, p, q⟩) = xs1) (hT : (mres ⟨(k : Int) + 1, c, b, p, q⟩ L M).1 = T ∧ (mres ⟨(k : Int) + 1, c, b, p, q⟩ L M).2.1 = lft) (hx2 : T.foldl (payL n ⟨(k : Int) + 1, c, b, p, q⟩) xs1 = xs2)
    (hL : mL ⟨(k : Int) + 1, c, b, p, q⟩ L M = L') (hM : mM ⟨(k : Int) + 1, c, b, p, q⟩ L M = M') :
    Calls Try.prog 47 #[.pointer (some ⟨y, 0, none⟩), .int .i64 c, .bool b, .int .u64 p, .int .u64 q, .bool false] wr fun e w' => ∃ a cap, e = .returned (.tuple #[.int .i64 ((k : Int) + 1), .slice a T.length cap, .int .i64 0]) ∧ NewF tc w' wr.heap.size 85 a T ∧ Rxc w w' y rb rs g n F (aPut n xs2 c (lockA ⟨(k : Int) + 1, c, b, p, lft⟩) (lockN ⟨(k : Int) + 1, c, b, p, lft⟩)) L' M' (k + 1) ∧ Chg [y, g, rs] wr w' := by
  obtain ⟨hh, hw, hT0⟩ := mtE_zero hE ((k : Int) + 1)
  obtain ⟨hin, p1, q1⟩ := wIn_o hw ((k : Int) + 1) c b
  have hlk := hin.lock
  have hinp := hin.p
  have hinq := hin.q
  dsimp only at hinp hinq
  obtain ⟨hc0, hcl⟩ : 0 ≤ c ∧ c < (n : Int) := by
    obtain ⟨cn, hcn, hcl⟩ := aHas_nat hh
    omega
  have HTE := Lib.hid hT0
  have HIN := Lib.hid hin
  have HX1 := Lib.hid hx1
  have HX2 := Lib.hid hx2
  have HT := Lib.hid hT
  have HTI := Lib.hid (h.ok.trades hin)
  have HFA := Lib.hid (h.ok.fair ⟨(k : Int) + 1, c, b, p, q⟩)
  have hlf := mres_left h.ok hin
  rw [hT.2] at hlf
  have hv1 : 0 ≤ lft := hlf.1
  have hv2 : lft ≤ q := hlf.2
  have hv3 : lft < 18446744073709551616 := by omega
  have HU2 : Hid (U lft) := ⟨hv1, hv3⟩
  have HLF := Lib.hid hlf
  have hok := h.ok.met ⟨(k : Int) + 1, c, b, p, q⟩
  have HALL := Lib.hid (fun z hz => (h.ok.oin z hz))
  rw [hL, hM] at hok
  have HOK0 := Lib.hid hok
  have HOK := Lib.hid (hok.mono (Nat.le_succ k))
  have HLM := Lib.hid (And.intro hL hM)
  have hlen := h.ok.len
  have hlen2 := hok.len
  have hTl := mres_len ⟨(k : Int) + 1, c, b, p, q⟩ L M
  rw [hT.1] at hTl
  obtain ⟨nT, hnT⟩ : ∃ m, T.length = m := ⟨_, rfl⟩
  rw [hnT] at hTl ⊢
  have HNT := Lib.hid hnT
  have HOO : Hid ((⟨(k : Int) + 1, c, b, p, q⟩ : Ord).Ok) := ordOk _ _ _ _ _ ⟨by omega, by omega⟩ hc ⟨hp.1, hp.2⟩ ⟨hq.1, hq.2⟩
  have HOKS := Lib.hid hOKS
  have HHAS := Lib.hid hh
  obtain ⟨cap, hcap, -, hhd⟩ := h.a.head
  have x0 := h.hd.at (i := 0) rfl
  have x2 := h.hd.at (i := 2) rfl
  have r0 := hhd.at (i := 0) rfl
  have d1 : decide (c < 0) = false := by simp; omega
  have d2 : decide ((n : Int) ≤ c) = false := by simp; omega
  have d3 : (p == 0) = false := by simp; omega
  have d4 : decide (1048576 < p) = false := by simp; omega
  have d5 : (q == 0) = false := by simp; omega
  have d6 : decide (1048576 < q) = false := by simp; omega
  have wk : IntKind.i64.wrap ((k : Int) + 1) = (k : Int) + 1 := IntWalk.i64_in _ (by omega)
  have hbo : Blk (wr.alloc (.cells #[.int .i64 ((k : Int) + 1), .int .i64 c, .bool b, .int .u64 p, .int .u64 q] 152)) wr.heap.size 152 (oc ⟨(k : Int) + 1, c, b, p, q⟩) := Blk.new wr (oc ⟨(k : Int) + 1, c, b, p, q⟩) 152
  have h1 := h.box ((Chg.refl [] wr).alloc (.cells #[.int .i64 ((k : Int) + 1), .int .i64 c, .bool b, .int .u64 p, .int .u64 q] 152)) (Nat.le_refl _) (by simp)
  have HINF := Lib.hid h.inF
  have HOKR : Hid (EOk n (restL ⟨(k : Int) + 1, c, b, p, lft⟩ L') (restM ⟨(k : Int) + 1, c, b, p, lft⟩ M') (k + 1)) := HOK0.out.rest rfl (hin.lt lft hlf) hh
  have HIN2 : Hid (OIn ⟨(k : Int) + 1, c, b, p, lft⟩) := hin.lt lft hlf
  have lk2 := HIN2.out.lock
  have hc1 : Chg [] wr (wr.alloc (.cells #[.int .i64 ((k : Int) + 1), .int .i64 c, .bool b, .int .u64 p, .int .u64 q] 152)) := (Chg.refl _ _).alloc _
  have HC1 := Lib.hid hc1
  obtain ⟨n1, n2⟩ := h.ne
  obtain ⟨g1, g2, g3⟩ := h.gne
  have ly := h.hd.lt
  have lrs : rs < wr.heap.size := h.a.row.lt
  have lrb : rb < wr.heap.size := hhd.lt
  clear h hc1 hE hh hw hT0 hin hx1 hx2 hT hlf hok hL hM hnT hcap hhd hOKS
  go_enter Try.func47, Try.ntmps47
  go_upto_region 6 with (fail)
  clear x0 x2 r0 d1 d2 d3 d4 d5 d6
  obtain ⟨go, hgo⟩ : ∃ g, wr.heap.size = g := ⟨_, rfl⟩
  rw [hgo] at hbo h1 ly lrb lrs hgl ⊢
  have HG := Lib.hid hgo
  clear hgo
  generalize wr.alloc _ = W1 at *
  have y0 := hbo.at (i := 0) rfl
  have y1 := hbo.at (i := 1) rfl
  have y2 := hbo.at (i := 2) rfl
  have y3 := hbo.at (i := 3) rfl
  have y4 := hbo.at (i := 4) rfl
  go_wp2_with fail
  refine (needs_any ⟨(k : Int) + 1, c, b, p, q⟩ HIN.out W1).mono ?_
  rintro e w4 ⟨rfl, c4⟩
  have h2 := h1.to c4
  have hb2 := hbo.chg c4 (by simp)
  have HC2 := Lib.hid (HC1.out.trans c4)
  clear h1 HC1 c4 y0 y1 y2 y3 y4 hbo
  have x0 := h2.hd.at (i := 0) rfl
  obtain ⟨lA, hlA⟩ : ∃ l, lockA ⟨(k : Int) + 1, c, b, p, q⟩ = l := ⟨_, rfl⟩
  obtain ⟨lN, hlN⟩ : ∃ l, lockN ⟨(k : Int) + 1, c, b, p, q⟩ = l := ⟨_, rfl⟩
  rw [hlA, hlN] at HTE HX1
  rw [hlN] at hlk
  rw [hlA, hlN]
  clear hlA hlN
  go_wp2_with fail
  refine (rtake_is h2.a c lA lN 0 xs1 ⟨by omega, by omega⟩ HTE.out HX1.out).mono ?_
  rintro e w5 ⟨rfl, ha5, c5⟩
  have h3 := h2.acct ha5 c5
  have hb3 := hb2.chg c5 (by simp; omega)
  have HC3 : Hid (Chg [y, g, rs] wr w5) := (HC2.out.mono (by simp)).trans (c5.mono (by simp))
  clear h2 hb2 HC2 c5 x0 ha5
  have x2 := h3.hd.at (i := 2) rfl
  have fx2 := h3.hd.free 2
  have h4 := h3.last
  have c4 : Chg [y] w5 (w5.setCell ⟨y, 2, none⟩ (.int .i64 ((k : Int) + 1))) := (Chg.refl _ _).setCell _ _ (by simp)
  have hb4 := hb3.chg c4 (by simp; omega)
  have HC4 : Hid (Chg [y, g, rs] wr (w5.setCell ⟨y, 2, none⟩ (.int .i64 ((k : Int) + 1)))) := HC3.out.trans (c4.mono (by simp))
  clear h3 hb3 HC3 c4
  go_upto_region 11 with (fail)
  clear x2 fx2
  generalize w5.setCell _ _ = W6 at *
  have x1 := h4.hd.at (i := 1) rfl
  have y0 := hb4.at (i := 0) rfl
  have y1 := hb4.at (i := 1) rfl
  have y2 := hb4.at (i := 2) rfl
  have y3 := hb4.at (i := 3) rfl
  have y4 := hb4.at (i := 4) rfl
  have hM := rbMatch_is (h4.to (Chg.refl [] W6).drew).b ⟨(k : Int) + 1, c, b, p, q⟩ T lft HT.out HOO.out HOKS.out (by omega) (by omega)
  rw [HNT.out, HLM.out.1, HLM.out.2] at hM
  have hgo2 : go ∉ [g] := by simp; omega
  have hyg : y ∉ [g] := by simp; omega
  refine place_reg (by intro c a d v w h; cases d <;> exact h) hM (fun w' a d h => ⟨h.2.2.cell x1 hyg, h.2.2.cell y0 hgo2, h.2.2.cell y1 hgo2, h.2.2.cell y2 hgo2, h.2.2.cell y3 hgo2, h.2.2.cell y4 hgo2⟩) x1 y0 y1 y2 y3 y4 ?_
  rintro w7 a7 d7 ⟨hN7, hB7, c7⟩
  intros
  have hVl : go < W6.drew.heap.size := hb4.lt
  have h7 := (h4.to (Chg.refl [] W6).drew).book hB7 c7 HOK.out
  have hb7 := hb4.drew.chg c7 hgo2
  have HC7 : Hid (Chg [y, g, rs] wr w7) := HC4.out.drew.trans (c7.mono (by simp))
  clear hM x1 y0 y1 y2 y3 y4 h4 hb4 HC4 hB7 c7
  generalize W6.drew.heap.size = vz at *
  go_wp2_with fail
  go_loopw [21] (fun i wx => ∃ j : Nat, j ≤ nT ∧ i = .int .i64 j ∧ RAcc wx rb rs n ((T.take j).foldl (payL n ⟨(k : Int) + 1, c, b, p, q⟩) xs1) ∧ Chg [rs] w7 wx) (fun i _ => nT - (intOf i).toNat)
  case atStart => exact ⟨0, by omega, rfl, h7.a, Chg.refl _ _⟩
  case round =>
    obtain ⟨j, hj, rfl, hA, hch⟩ := hrel
    by_cases hjt : j < nT
    · have hjl : j < T.length := by rw [HNT.out]; exact hjt
      obtain ⟨gt, rfl, hgt, -, tat⟩ := tr_at (hN7.chg hch (by simp; omega)) hjl
      have hti := HTI.out (T.getD j Trd.zero) (by rw [HT.out.1]; simp [List.getD, hjl])
      have hfa := HFA.out (T.getD j Trd.zero) (by rw [HT.out.1]; simp [List.getD, hjl])
      have htk : (T.take (j + 1)).foldl (payL n ⟨(k : Int) + 1, c, b, p, q⟩) xs1 = payL n ⟨(k : Int) + 1, c, b, p, q⟩ ((T.take j).foldl (payL n ⟨(k : Int) + 1, c, b, p, q⟩) xs1) (T.getD j Trd.zero) := by
        rw [List.take_succ_eq_append_getElem hjl, List.foldl_append]
        simp [List.getD, hjl]
      generalize T.getD j Trd.zero = t at *
      obtain ⟨ys, hys⟩ : ∃ ys, (T.take j).foldl (payL n ⟨(k : Int) + 1, c, b, p, q⟩) xs1 = ys := ⟨_, rfl⟩
      rw [hys] at hA htk
      have HTK := Lib.hid htk
      have HFT := Lib.hid hfa
      obtain ⟨tp, tq, tl⟩ := hti
      dsimp only at tl
      have hm1 := mul_lt tp tq
      obtain ⟨t0, t1, t2, t3, t4, t5⟩ := tat
      have j1 : (0 : Int) ≤ (j : Int) := by omega
      have j2 : (j : Int) < (nT : Int) := by omega
      have hX1 := (h7.hd.chg hch (by simp; omega)).chg ((Chg.refl [] wr).alloc (.cells #[.int .i64 t.maker, .int .i64 t.taker, .int .i64 t.buyer, .int .i64 t.seller, .int .u64 t.price, .int .u64 t.qty] 85)) (by simp)
      have hA1 := hA.alloc (.cells #[.int .i64 t.maker, .int .i64 t.taker, .int .i64 t.buyer, .int .i64 t.seller, .int .u64 t.price, .int .u64 t.qty] 85)
      have hch1 := hch.alloc (.cells #[.int .i64 t.maker, .int .i64 t.taker, .int .i64 t.buyer, .int .i64 t.seller, .int .u64 t.price, .int .u64 t.qty] 85)
      have hbt : Blk (wr.alloc (.cells #[.int .i64 t.maker, .int .i64 t.taker, .int .i64 t.buyer, .int .i64 t.seller, .int .u64 t.price, .int .u64 t.qty] 85)) wr.heap.size 85 (tc t) := Blk.new wr (tc t) _
      have hrl : rs < wr.heap.size := hA.row.lt
      clear htk hjl hys hA hch hfa
      go_upto_region 16 with (fail)
      clear t0 t1 t2 t3 t4 t5
      generalize wr.heap.size = g9 at *
      generalize wr.alloc _ = W9 at *
      have w1 : IntKind.u64.wrap (t.price * t.qty) = t.price * t.qty := by simp [IntKind.wrap, IntKind.bits, IntKind.signed]; omega
      have x0 := hX1.at (i := 0) rfl
      have t3 := hbt.at (i := 3) rfl
      have t4 := hbt.at (i := 4) rfl
      have t5 := hbt.at (i := 5) rfl
      go_still_tail 11, (by kernel_rfl)
      change wpList _ _ _ _ _ W9.drew
      have hA2 := hA1.drew
      have hX2 := hX1.drew
      have ht2 := hbt.drew
      have hch2 := hch1.drew
      clear x0 t3 t4 t5 hA1 hX1 hbt hch1
      generalize W9.drew = V at *
      go_wp2_with fail
      refine (rput_is hA2 t.seller 1 (t.price * t.qty) _ _ ⟨by omega, by omega⟩ rfl rfl).mono ?_
      rintro e w3 ⟨rfl, hA3, c3⟩
      have hX3 := hX2.chg c3 (by simp; omega)
      have ht3 := ht2.chg c3 (by simp; omega)
      have hch3 := hch2.trans c3
      clear hA2 hX2 ht2 hch2 c3
      have x0 := hX3.at (i := 0) rfl
      have t2 := ht3.at (i := 2) rfl
      have t5 := ht3.at (i := 5) rfl
      go_upto_region 17 with (fail)
      go_still_tail 8, (by kernel_rfl)
      change wpList _ _ _ _ _ w3.drew
      have hA4 := hA3.drew
      have hX4 := hX3.drew
      have ht4 := ht3.drew
      have hch4 := hch3.drew
      clear x0 t2 t5 hA3 hX3 ht3 hch3
      generalize w3.drew = V4 at *
      go_wp2_with fail
      refine (rput_is hA4 t.buyer 0 t.qty _ _ ⟨by omega, by omega⟩ rfl rfl).mono ?_
      rintro e w5 ⟨rfl, hA5, c5⟩
      have hX5 := hX4.chg c5 (by simp; omega)
      have ht5 := ht4.chg c5 (by simp; omega)
      have hch5 := hch4.trans c5
      clear hA4 hX4 ht4 hch4 c5
      cases b
      · have hA6 : RAcc w5 rb rs n (payL n ⟨(k : Int) + 1, c, false, p, q⟩ ys t) := hA5
        rw [← HTK.out] at hA6
        go_wp2_with fail
        go_roundw
        case rel => exact ⟨j + 1, by omega, by go_num, hA6, hch5⟩
        case measure => simp [intOf]; omega
      · have tl2 := tl rfl
        have hm2 := mul_lt (a := p - t.price) ⟨by omega, by omega⟩ tq
        have w2 : IntKind.u64.wrap (p - t.price) = p - t.price := by simp [IntKind.wrap, IntKind.bits, IntKind.signed]; omega
        have w3 : IntKind.u64.wrap ((p - t.price) * t.qty) = (p - t.price) * t.qty := by simp [IntKind.wrap, IntKind.bits, IntKind.signed]; omega
        have x0 := hX5.at (i := 0) rfl
        have t4 := ht5.at (i := 4) rfl
        have t5 := ht5.at (i := 5) rfl
        clear tl
        go_upto_region 19 with (fail)
        go_still_tail 12, (by kernel_rfl)
        change wpList _ _ _ _ _ w5.drew
        have hA6 := hA5.drew
        have hch6 := hch5.drew
        clear x0 t4 t5 hA5 hX5 ht5 hch5
        generalize w5.drew = V6 at *
        go_wp2_with fail
        refine (rput_is hA6 c 1 ((p - t.price) * t.qty) _ _ ⟨by omega, by omega⟩ rfl rfl).mono ?_
        rintro e w8 ⟨rfl, hA7, c7⟩
        have hch7 := hch6.trans c7
        have hA8 : RAcc w8 rb rs n (payL n ⟨(k : Int) + 1, c, true, p, q⟩ ys t) := by
          have e : t.buyer = c := (HFT.out.1 (by trivial)).2
          have : payL n ⟨(k : Int) + 1, c, true, p, q⟩ ys t = aPut n (aPut n (aPut n ys t.seller 1 (t.price * t.qty)) t.buyer 0 t.qty) c 1 ((p - t.price) * t.qty) := by unfold payL; rw [if_pos rfl, ← e]
          rw [this]; exact hA7
        rw [← HTK.out] at hA8
        clear hA6 hch6 hA7 c7
        go_wp2_with fail
        go_roundw
        case rel => exact ⟨j + 1, by omega, by go_num, hA8, hch7⟩
        case measure => simp [intOf]; omega
    · obtain rfl : j = nT := by omega
      have hA9 : RAcc wr rb rs n xs2 := by have := hA; rwa [List.take_of_length_le (by rw [HNT.out]; exact Nat.le_refl _), HX2.out] at this
      have h9 := h7.acct hA9 hch
      have hN9 := hN7.chg hch (by simp; omega)
      have hb9 := hb7.chg hch (by simp; omega)
      have HC9 := Lib.hid (HC7.out.trans (hch.mono (by simp)))
      clear hA hA9 h7 hN7 hb7 HC7 hch
      have v4 := hb9.at (i := 4) rfl
      have fv := hb9.free 4
      have c10 : Chg [go] wr (wr.setCell ⟨go, 4, none⟩ (.int .u64 lft)) := (Chg.refl _ _).setCell _ _ (by simp)
      have h10 := h9.far c10 (by simp) ⟨by simp; omega, by simp; omega, by simp; omega⟩ (Grw.refl _ _) (fun z hz => Nat.lt_of_lt_of_le (h9.b.fr z hz) c10.size) h9.inF
      have hN10 := hN9.chg c10 (by simp; exact hVl)
      have hb10 : Blk (wr.setCell ⟨go, 4, none⟩ (.int .u64 lft)) go 152 (oc ⟨(k : Int) + 1, c, b, p, lft⟩) := hb9.set 4 _
      have HC10 : Hid (Chg [y, g, rs] _ (wr.setCell ⟨go, 4, none⟩ (.int .u64 lft))) := HC9.out.setCell _ _ (.inr (by rw [HG.out]; exact Nat.le_refl _))
      clear h9 hN9 hb9 HC9 c10
      go_upto_region 24 with (fail)
      clear v4 fv
      generalize wr.setCell _ _ = W10 at *
      have y0 := hb10.at (i := 0) rfl
      have y1 := hb10.at (i := 1) rfl
      have y2 := hb10.at (i := 2) rfl
      have y3 := hb10.at (i := 3) rfl
      have y4 := hb10.at (i := 4) rfl
      go_wp2_with fail
      refine (needs_any ⟨(k : Int) + 1, c, b, p, lft⟩ HIN2.out W10).mono ?_
      rintro e w11 ⟨rfl, c11⟩
      have h11 := h10.to c11
      have hN11 := hN10.chg0 c11
      have hb11 := hb10.chg c11 (by simp)
      have HC11 : Hid (Chg [y, g, rs] _ w11) := HC10.out.trans (c11.mono (by simp))
      clear y0 y1 y2 y3 y4 h10 hN10 hb10 HC10 c11
      have x0 := h11.hd.at (i := 0) rfl
      obtain ⟨lA2, hlA2⟩ : ∃ l, lockA ⟨(k : Int) + 1, c, b, p, lft⟩ = l := ⟨_, rfl⟩
      obtain ⟨lN2, hlN2⟩ : ∃ l, lockN ⟨(k : Int) + 1, c, b, p, lft⟩ = l := ⟨_, rfl⟩
      rw [hlN2] at lk2
      rw [hlA2, hlN2]
      have HLL := Lib.hid (And.intro hlA2 hlN2)
      clear hlA2 hlN2
      go_wp2_with fail
      refine (rput_is h11.a c lA2 lN2 _ _ ⟨by omega, by omega⟩ rfl rfl).mono ?_
      rintro e w12 ⟨rfl, hA12, c12⟩
      have h12 := (h11.acct hA12 c12).sub HINF.out
      have hN12 := hN11.chg c12 (by simp; omega)
      have y0 := (hb11.chg c12 (by simp; omega)).at (i := 0) rfl
      have hcz : Chg [y, g, rs] _ w12 := HC11.out.trans (c12.mono (by simp))
      rw [← HLL.out.1, ← HLL.out.2] at h12
      clear h11 hN11 hb11 HC11 hA12 c12 x0
      go_wp2_with fail
      go_ret3
      first | exact ⟨a7, d7, rfl, by rw [HG.out]; exact hN12.mono (by omega), h12, hcz⟩ | exact ⟨a7, ⟨d7, rfl⟩, by rw [HG.out]; exact hN12.mono (by omega), h12, hcz⟩

end Go.Proofs.Yteabcpmpcbjicaa
