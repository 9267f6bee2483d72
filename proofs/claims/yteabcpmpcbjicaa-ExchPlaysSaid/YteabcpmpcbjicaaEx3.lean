
import Derived.Test.YteabcpmpcbjicaaExR
import Derived.BigQuiet
import Derived.StillTailTactics
namespace Go.Proofs.Yteabcpmpcbjicaa
set_option linter.unusedVariables false
open Go Go.Proofs Go.RowKit
attribute [local go_sem ↓] Go.wp_at_zero Go.wp_at_succ

set_option maxRecDepth 100000 in
set_option maxHeartbeats 4000000 in
/-- meet, of what is refused. -/
theorem meet_no {w wr : World} {x ab s kb n : Nat} {F : List Nat} {xs : List Int} {L M : List Ord} {k : Nat} (h : Exc w wr x ab s kb n F xs L M k) (hk : k < 1000000) (c : Int) (b : Bool) (p q : Int) (hp : U p) (hq : U q) (hc : I c) (e0 : Int) (hE : mtE n xs c b p q = e0) (hne : e0 ≠ 0) :
    Calls Try.prog 80 #[.pointer (some ⟨x, 0, none⟩), .int .i64 c, .bool b, .int .u64 p, .int .u64 q] wr fun e w' => e = .returned (.tuple #[ov Ord.zero, .slice none 0 0, .int .i64 e0]) ∧ Exc w w' x ab s kb n F xs L M k ∧ Chg [s] wr w' := by
  have B0 : Blk (wr.alloc (.cells #[.int .i64 0, .int .i64 0, .bool false, .int .u64 0, .int .u64 0] 152)) wr.heap.size 152 (oc Ord.zero) := Blk.new wr (oc Ord.zero) 152
  have c0 : Chg [] wr (wr.alloc (.cells #[.int .i64 0, .int .i64 0, .bool false, .int .u64 0, .int .u64 0] 152)) := (Chg.refl _ _).alloc _
  have h0 := h.to c0
  obtain ⟨l1, l2, l3, l4, l5⟩ := h.lt
  have HC := Lib.hid c0
  have hce := h.e
  have a0 := B0.at (i := 0) rfl
  have a1 := B0.at (i := 1) rfl
  have a2 := B0.at (i := 2) rfl
  have a3 := B0.at (i := 3) rfl
  have a4 := B0.at (i := 4) rfl
  have f0 := B0.free 0
  have f1 := B0.free 1
  have f2 := B0.free 2
  have f3 := B0.free 3
  have f4 := B0.free 4
  have x0 := h0.e.hd.at (i := 0) rfl
  clear h c0 hce
  by_cases hh : aHas n c = true
  · by_cases hw : (wIn p && wIn q) = true
    · have hE4 : e0 = 4 ∧ aTakeE n xs c (lockA ⟨0, c, b, p, q⟩) (lockN ⟨0, c, b, p, q⟩) ≠ 0 := by
        unfold mtE at hE
        rw [if_pos hh, if_pos hw] at hE
        split at hE
        · omega
        · rename_i h9; exact ⟨hE.symm, h9⟩
      obtain ⟨rfl, hT⟩ := hE4
      obtain ⟨hin, p1, q1⟩ := wIn_o hw ((k : Int) + 1) c b
      have hw1 : wIn p = true ∧ wIn q = true := by simpa using hw
      have HW := Lib.hid hw1
      have HH := Lib.hid hh
      have hlk := hin.lock
      obtain ⟨te, hte⟩ : ∃ te, aTakeE n xs c (lockA ⟨(k : Int) + 1, c, b, p, q⟩) (lockN ⟨(k : Int) + 1, c, b, p, q⟩) = te := ⟨_, rfl⟩
      have hte0 : te ≠ 0 := by rw [← hte]; exact hT
      have HTE := Lib.hid hte
      have HIN := Lib.hid hin
      have hxs : aTake n xs c (lockA ⟨(k : Int) + 1, c, b, p, q⟩) (lockN ⟨(k : Int) + 1, c, b, p, q⟩) = xs := by unfold aTake; rw [hte, if_neg hte0]
      have HXS := Lib.hid hxs
      have dte : (te != 0) = true := by simp; exact hte0
      have dte2 : decide (te = 0) = false := by simp; exact hte0
      clear hE hne hh hw hw1 hT hin hte hxs hte0
      have x2 := h0.e.hd.at (i := 2) rfl
      have wk : IntKind.i64.wrap ((k : Int) + 1) = (k : Int) + 1 := IntWalk.i64_in _ (by omega)
      go_enter Try.func80, Try.ntmps80
      go_wp2_with fail
      refine (has_is h0.a c true HH.out).mono ?_
      rintro e w3 ⟨rfl, rfl⟩
      go_wp2_with fail
      refine (within_is p true _ HW.out.1).mono ?_
      rintro e w3 ⟨rfl, rfl⟩
      go_wp2_with fail
      refine (within_is q true _ HW.out.2).mono ?_
      rintro e w3 ⟨rfl, rfl⟩
      generalize hgg : wr.heap.size = g at *
      have HG := Lib.hid hgg
      clear hgg
      generalize wr.alloc _ = W at *
      have hbo : Blk (W.alloc (.cells #[.int .i64 ((k : Int) + 1), .int .i64 c, .bool b, .int .u64 p, .int .u64 q] 152)) W.heap.size 152 (oc ⟨(k : Int) + 1, c, b, p, q⟩) := Blk.new W (oc ⟨(k : Int) + 1, c, b, p, q⟩) 152
      have hc1 : Chg [] W (W.alloc (.cells #[.int .i64 ((k : Int) + 1), .int .i64 c, .bool b, .int .u64 p, .int .u64 q] 152)) := (Chg.refl _ _).alloc _
      have h1 := h0.to hc1
      have B1 := B0.chg hc1 (by simp)
      have HC1 := Lib.hid (HC.out.trans hc1)
      clear h0 B0 hc1 HC a0 a1 a2 a3 a4 f0 f1 f2 f3 f4
      go_upto_region 6 with (fail)
      clear x0 x2
      generalize W.heap.size = go at *
      generalize W.alloc _ = W1 at *
      have y0 := hbo.at (i := 0) rfl
      have y1 := hbo.at (i := 1) rfl
      have y2 := hbo.at (i := 2) rfl
      have y3 := hbo.at (i := 3) rfl
      have y4 := hbo.at (i := 4) rfl
      go_wp2_with fail
      refine (locks_any ⟨(k : Int) + 1, c, b, p, q⟩ HIN.out W1).mono ?_
      rintro e w4 ⟨rfl, c4⟩
      have h2 := h1.to c4
      have B2 := B1.chg c4 (by simp)
      have HC2 := Lib.hid (HC1.out.trans c4)
      clear h1 B1 HC1 c4 y0 y1 y2 y3 y4 hbo
      have x0 := h2.e.hd.at (i := 0) rfl
      generalize lockA ⟨(k : Int) + 1, c, b, p, q⟩ = lA at *
      generalize lockN ⟨(k : Int) + 1, c, b, p, q⟩ = lN at *
      go_wp2_with fail
      refine (take_is h2.a c lA lN te xs ⟨by omega, by omega⟩ HTE.out HXS.out).mono ?_
      rintro e w5 ⟨rfl, ha5, c5⟩
      have h3 := h2.acct ha5 c5
      have B3 := B2.chg c5 (by simp; omega)
      have HC3 : Hid (Chg [s] wr w5) := (HC2.out.mono (by simp)).trans c5
      clear h2 B2 HC2 c5 x0 ha5
      have a0 := B3.at (i := 0) rfl
      have a1 := B3.at (i := 1) rfl
      have a2 := B3.at (i := 2) rfl
      have a3 := B3.at (i := 3) rfl
      have a4 := B3.at (i := 4) rfl
      have f0 := B3.free 0
      have f1 := B3.free 1
      have f2 := B3.free 2
      have f3 := B3.free 3
      have f4 := B3.free 4
      have hz : Exc w (sto w5 g 0 Ord.zero) x ab s kb n F xs L M k := h3.fresh (sto_chg (Chg.refl [g] _) _ _ _ (by simp)) ⟨by omega, by omega, by omega, fun hm => by have := l5 _ hm; omega⟩ (by omega)
      have hcz : Chg [s] wr (sto w5 g 0 Ord.zero) := sto_chg HC3.out _ _ _ (by right; rw [HG.out]; exact Nat.le_refl _)
      go_wp2_with fail
      exact bodyPost_ret (v := .tuple #[ov Ord.zero, .slice none 0 0, .int .i64 4]) (by simp [results, Try.results80, go_sem, a0, a1, a2, a3, a4]) rfl ⟨rfl, hz, hcz⟩
    · have hE6 : e0 = 6 := by
        unfold mtE at hE
        rw [if_pos hh, if_neg hw] at hE
        exact hE.symm
      subst hE6
      have HH := Lib.hid hh
      have hw1 : wIn p = false ∨ (wIn p = true ∧ wIn q = false) := by
        cases h1 : wIn p <;> cases h2 : wIn q <;> simp [h1, h2] at hw ⊢
      clear hE hne hh hw
      rcases hw1 with hw | ⟨hw, hw2⟩
      · have HW := Lib.hid hw
        clear hw
        go_enter Try.func80, Try.ntmps80
        go_wp2_with fail
        refine (has_is h0.a c true HH.out).mono ?_
        rintro e w3 ⟨rfl, rfl⟩
        go_wp2_with fail
        refine (within_is p false _ HW.out).mono ?_
        rintro e w3 ⟨rfl, rfl⟩
        generalize hgg : wr.heap.size = g at *
        have HG := Lib.hid hgg
        clear hgg
        generalize wr.alloc _ = W at *
        have hz : Exc w (sto W g 0 Ord.zero) x ab s kb n F xs L M k := h0.fresh (sto_chg (Chg.refl [g] _) _ _ _ (by simp)) ⟨by omega, by omega, by omega, fun hm => by have := l5 _ hm; omega⟩ (by omega)
        have hcz : Chg [s] wr (sto W g 0 Ord.zero) := sto_chg (HC.out.mono (by simp)) _ _ _ (by right; rw [HG.out]; exact Nat.le_refl _)
        go_wp2_with fail
        exact bodyPost_ret (v := .tuple #[ov Ord.zero, .slice none 0 0, .int .i64 6]) (by simp [results, Try.results80, go_sem, a0, a1, a2, a3, a4]) rfl ⟨rfl, hz, hcz⟩
      · have HW := Lib.hid hw
        have HW2 := Lib.hid hw2
        clear hw hw2
        go_enter Try.func80, Try.ntmps80
        go_wp2_with fail
        refine (has_is h0.a c true HH.out).mono ?_
        rintro e w3 ⟨rfl, rfl⟩
        go_wp2_with fail
        refine (within_is p true _ HW.out).mono ?_
        rintro e w3 ⟨rfl, rfl⟩
        go_wp2_with fail
        refine (within_is q false _ HW2.out).mono ?_
        rintro e w3 ⟨rfl, rfl⟩
        generalize hgg : wr.heap.size = g at *
        have HG := Lib.hid hgg
        clear hgg
        generalize wr.alloc _ = W at *
        have hz : Exc w (sto W g 0 Ord.zero) x ab s kb n F xs L M k := h0.fresh (sto_chg (Chg.refl [g] _) _ _ _ (by simp)) ⟨by omega, by omega, by omega, fun hm => by have := l5 _ hm; omega⟩ (by omega)
        have hcz : Chg [s] wr (sto W g 0 Ord.zero) := sto_chg (HC.out.mono (by simp)) _ _ _ (by right; rw [HG.out]; exact Nat.le_refl _)
        go_wp2_with fail
        exact bodyPost_ret (v := .tuple #[ov Ord.zero, .slice none 0 0, .int .i64 6]) (by simp [results, Try.results80, go_sem, a0, a1, a2, a3, a4]) rfl ⟨rfl, hz, hcz⟩
  · have hE2 : e0 = 2 := by
      unfold mtE at hE
      rw [if_neg hh] at hE
      exact hE.symm
    subst hE2
    have hh2 : aHas n c = false := by cases h1 : aHas n c <;> simp [h1] at hh ⊢
    have HH := Lib.hid hh2
    clear hE hne hh hh2
    go_enter Try.func80, Try.ntmps80
    go_wp2_with fail
    refine (has_is h0.a c false HH.out).mono ?_
    rintro e w3 ⟨rfl, rfl⟩
    generalize hgg : wr.heap.size = g at *
    have HG := Lib.hid hgg
    clear hgg
    generalize wr.alloc _ = W at *
    have hz : Exc w (sto W g 0 Ord.zero) x ab s kb n F xs L M k := h0.fresh (sto_chg (Chg.refl [g] _) _ _ _ (by simp)) ⟨by omega, by omega, by omega, fun hm => by have := l5 _ hm; omega⟩ (by omega)
    have hcz : Chg [s] wr (sto W g 0 Ord.zero) := sto_chg (HC.out.mono (by simp)) _ _ _ (by right; rw [HG.out]; exact Nat.le_refl _)
    go_wp2_with fail
    exact bodyPost_ret (v := .tuple #[ov Ord.zero, .slice none 0 0, .int .i64 2]) (by simp [results, Try.results80, go_sem, a0, a1, a2, a3, a4]) rfl ⟨rfl, hz, hcz⟩

set_option maxRecDepth 100000 in
set_option maxHeartbeats 8000000 in
/-- meet, of what is taken. -/
theorem meet_yes {w wr : World} {x ab s kb n : Nat} {F : List Nat} {xs : List Int} {L M : List Ord} {k : Nat} (h : Exc w wr x ab s kb n F xs L M k) (hk : k < 1000000) (c : Int) (b : Bool) (p q : Int) (hp : U p) (hq : U q) (hc : I c) (hE : mtE n xs c b p q = 0)
    (xs1 xs2 : List Int) (T : List Trd) (lft : Int) (L' M' : List Ord) (hx1 : aTake n xs c (lockA ⟨(k : Int) + 1, c, b, p, q⟩) (lockN ⟨(k : Int) + 1, c, b, p, q⟩) = xs1) (hT : (mres ⟨(k : Int) + 1, c, b, p, q⟩ L M).1 = T ∧ (mres ⟨(k : Int) + 1, c, b, p, q⟩ L M).2.1 = lft) (hx2 : T.foldl (payL n ⟨(k : Int) + 1, c, b, p, q⟩) xs1 = xs2)
    (hL : mL ⟨(k : Int) + 1, c, b, p, q⟩ L M = L') (hM : mM ⟨(k : Int) + 1, c, b, p, q⟩ L M = M') :
    Calls Try.prog 80 #[.pointer (some ⟨x, 0, none⟩), .int .i64 c, .bool b, .int .u64 p, .int .u64 q] wr fun e w' => ∃ a cap, e = .returned (.tuple #[ov ⟨(k : Int) + 1, c, b, p, lft⟩, .slice a T.length cap, .int .i64 0]) ∧ NewF tc w' wr.heap.size 85 a T ∧ Exc w w' x ab s kb n F xs2 L' M' (k + 1) ∧ Chg (x :: s :: F) wr w' := by
  obtain ⟨hh, hw, hT0⟩ : aHas n c = true ∧ (wIn p && wIn q) = true ∧ aTakeE n xs c (lockA ⟨(k : Int) + 1, c, b, p, q⟩) (lockN ⟨(k : Int) + 1, c, b, p, q⟩) = 0 := by
    unfold mtE at hE
    split at hE
    · rename_i h1
      split at hE
      · rename_i h2
        split at hE
        · rename_i h3; exact ⟨h1, h2, h3⟩
        · omega
      · omega
    · omega
  obtain ⟨hin, p1, q1⟩ := wIn_o hw ((k : Int) + 1) c b
  have hw1 : wIn p = true ∧ wIn q = true := by simpa using hw
  have HW := Lib.hid hw1
  have HH := Lib.hid hh
  have hlk := hin.lock
  have HTE := Lib.hid hT0
  have HIN := Lib.hid hin
  have HX1 := Lib.hid hx1
  have HX2 := Lib.hid hx2
  have HT := Lib.hid hT
  have HTI := Lib.hid (h.ok.trades hin)
  have hlf := mres_left h.ok hin
  rw [hT.2] at hlf
  have HLF := Lib.hid hlf
  have hok := h.ok.met ⟨(k : Int) + 1, c, b, p, q⟩
  rw [hL, hM] at hok
  have HOK := Lib.hid (hok.mono (Nat.le_succ k))
  have HLM := Lib.hid (And.intro hL hM)
  have hlen := h.ok.len
  have hTl := mres_len ⟨(k : Int) + 1, c, b, p, q⟩ L M
  rw [hT.1] at hTl
  obtain ⟨nT, hnT⟩ : ∃ m, T.length = m := ⟨_, rfl⟩
  rw [hnT] at hTl ⊢
  have HNT := Lib.hid hnT
  have HOO : Hid ((⟨(k : Int) + 1, c, b, p, q⟩ : Ord).Ok) := ordOk _ _ _ _ _ ⟨by omega, by omega⟩ hc ⟨hp.1, hp.2⟩ ⟨hq.1, hq.2⟩
  have B0 : Blk (wr.alloc (.cells #[.int .i64 0, .int .i64 0, .bool false, .int .u64 0, .int .u64 0] 152)) wr.heap.size 152 (oc Ord.zero) := Blk.new wr (oc Ord.zero) 152
  have c0 : Chg [] wr (wr.alloc (.cells #[.int .i64 0, .int .i64 0, .bool false, .int .u64 0, .int .u64 0] 152)) := (Chg.refl _ _).alloc _
  have h0 := h.to c0
  obtain ⟨l1, l2, l3, l4, l5⟩ := h.lt
  have HC := Lib.hid c0
  have x0 := h0.e.hd.at (i := 0) rfl
  have x2 := h0.e.hd.at (i := 2) rfl
  have wk : IntKind.i64.wrap ((k : Int) + 1) = (k : Int) + 1 := IntWalk.i64_in _ (by omega)
  clear h c0 hE hh hw hT0 hin hw1 hx1 hx2 hT hlf hok hL hM hnT
  go_enter Try.func80, Try.ntmps80
  go_wp2_with fail
  refine (has_is h0.a c true HH.out).mono ?_
  rintro e w3 ⟨rfl, rfl⟩
  go_wp2_with fail
  refine (within_is p true _ HW.out.1).mono ?_
  rintro e w3 ⟨rfl, rfl⟩
  go_wp2_with fail
  refine (within_is q true _ HW.out.2).mono ?_
  rintro e w3 ⟨rfl, rfl⟩
  obtain ⟨g, hgg⟩ : ∃ g, wr.heap.size = g := ⟨_, rfl⟩
  rw [hgg] at B0 l1 l2 l3 l4 l5 ⊢
  have HG := Lib.hid hgg
  clear hgg
  generalize wr.alloc _ = W at *
  have hbo : Blk (W.alloc (.cells #[.int .i64 ((k : Int) + 1), .int .i64 c, .bool b, .int .u64 p, .int .u64 q] 152)) W.heap.size 152 (oc ⟨(k : Int) + 1, c, b, p, q⟩) := Blk.new W (oc ⟨(k : Int) + 1, c, b, p, q⟩) 152
  have hc1 : Chg [] W (W.alloc (.cells #[.int .i64 ((k : Int) + 1), .int .i64 c, .bool b, .int .u64 p, .int .u64 q] 152)) := (Chg.refl _ _).alloc _
  have h1 := h0.to hc1
  have hgo : g < W.heap.size := B0.lt
  have B1 := B0.chg hc1 (by simp)
  have HC1 := Lib.hid (HC.out.trans hc1)
  obtain ⟨m1, m2, m3, m4, m5⟩ := h0.lt
  clear h0 B0 hc1 HC
  go_upto_region 6 with (fail)
  clear x0 x2
  generalize W.heap.size = go at *
  generalize W.alloc _ = W1 at *
  have y0 := hbo.at (i := 0) rfl
  have y1 := hbo.at (i := 1) rfl
  have y2 := hbo.at (i := 2) rfl
  have y3 := hbo.at (i := 3) rfl
  have y4 := hbo.at (i := 4) rfl
  go_wp2_with fail
  refine (locks_any ⟨(k : Int) + 1, c, b, p, q⟩ HIN.out W1).mono ?_
  rintro e w4 ⟨rfl, c4⟩
  have h2 := h1.to c4
  have B2 := B1.chg c4 (by simp)
  have hb2 := hbo.chg c4 (by simp)
  have HC2 := Lib.hid (HC1.out.trans c4)
  clear h1 B1 HC1 c4 y0 y1 y2 y3 y4 hbo
  have x0 := h2.e.hd.at (i := 0) rfl
  obtain ⟨lA, hlA⟩ : ∃ l, lockA ⟨(k : Int) + 1, c, b, p, q⟩ = l := ⟨_, rfl⟩
  obtain ⟨lN, hlN⟩ : ∃ l, lockN ⟨(k : Int) + 1, c, b, p, q⟩ = l := ⟨_, rfl⟩
  rw [hlA, hlN] at HTE HX1
  rw [hlN] at hlk
  rw [hlA, hlN]
  clear hlA hlN
  go_wp2_with fail
  refine (take_is h2.a c lA lN 0 xs1 ⟨by omega, by omega⟩ HTE.out HX1.out).mono ?_
  rintro e w5 ⟨rfl, ha5, c5⟩
  have h3 := h2.acct ha5 c5
  have B3 := B2.chg c5 (by simp; omega)
  have hb3 := hb2.chg c5 (by simp; omega)
  have HC3 : Hid (Chg [x, s] wr w5) := (HC2.out.mono (by simp)).trans (c5.mono (by simp))
  clear h2 B2 hb2 HC2 c5 x0 ha5
  have x2 := h3.e.hd.at (i := 2) rfl
  have fx2 := h3.e.hd.free 2
  have h4 := h3.last
  have c4 : Chg [x] w5 (w5.setCell ⟨x, 2, none⟩ (.int .i64 ((k : Int) + 1))) := (Chg.refl _ _).setCell _ _ (by simp)
  have B4 := B3.chg c4 (by simp; omega)
  have hb4 := hb3.chg c4 (by simp; omega)
  have HC4 : Hid (Chg [x, s] wr (w5.setCell ⟨x, 2, none⟩ (.int .i64 ((k : Int) + 1)))) := HC3.out.trans (c4.mono (by simp))
  clear h3 B3 hb3 HC3 c4
  go_upto_region 10 with (fail)
  clear x2 fx2
  generalize w5.setCell _ _ = W6 at *
  have x1 := h4.e.hd.at (i := 1) rfl
  have y0 := hb4.at (i := 0) rfl
  have y1 := hb4.at (i := 1) rfl
  have y2 := hb4.at (i := 2) rfl
  have y3 := hb4.at (i := 3) rfl
  have y4 := hb4.at (i := 4) rfl
  have hFg : g ∉ F := fun hm => by have := l5 _ hm; omega
  have hFo : go ∉ F := fun hm => by have := m5 _ hm; omega
  have hVl : go < W6.drew.heap.size := hb4.lt
  have hM := bMatch_is (h4.to (Chg.refl [] W6).drew).b ⟨(k : Int) + 1, c, b, p, q⟩ T lft L' M' ⟨HT.out.1, HT.out.2, HLM.out.1, HLM.out.2⟩ HOO.out (by omega) (by omega)
  rw [HNT.out] at hM
  have hxF := h4.ne.2.1
  refine meet_reg (by intro c a d v w h; cases d <;> exact h) hM (fun w' a d h => ⟨h.2.2.cell x1 hxF, h.2.2.cell y0 hFo, h.2.2.cell y1 hFo, h.2.2.cell y2 hFo, h.2.2.cell y3 hFo, h.2.2.cell y4 hFo⟩) x1 y0 y1 y2 y3 y4 ?_
  rintro w7 a7 d7 ⟨hN7, hB7, c7⟩
  intros
  clear hM
  -- neg
  have h5 := h4.to (Chg.refl [] W6).drew
  have B5 := B4.drew
  have hb5 := hb4.drew
  have HC5 := Lib.hid HC4.out.drew
  clear x1 y0 y1 y2 y3 y4 h4 B4 hb4 HC4
  generalize W6.drew = V at *
  have h7 := h5.book hB7 c7 (Grw.refl _ _) rfl HOK.out
  have B7 := B5.chg c7 hFg
  have hb7 := hb5.chg c7 hFo
  have HC7 : Hid (Chg (x :: s :: F) wr w7) := (HC5.out.mono (by simp +contextual)).trans (c7.mono (by simp +contextual))
  clear h5 B5 hb5 HC5 hB7 c7
  obtain ⟨n1, n2, n3, n4, n5⟩ := h7.ne
  have hsV : s < V.heap.size := by omega
  go_wp2_with fail
  go_loopw [82] (fun i wx => ∃ j : Nat, j ≤ nT ∧ i = .int .i64 j ∧ Acc wx ab s n ((T.take j).foldl (payL n ⟨(k : Int) + 1, c, b, p, q⟩) xs1) ∧ Chg [s] w7 wx) (fun i _ => nT - (intOf i).toNat)
  case atStart => exact ⟨0, by omega, rfl, h7.a, Chg.refl _ _⟩
  case round =>
    obtain ⟨j, hj, rfl, hA, hch⟩ := hrel
    by_cases hjt : j < nT
    · have hjl : j < T.length := by rw [HNT.out]; exact hjt
      obtain ⟨gt, rfl, hgt, -, tat⟩ := tr_at (hN7.chg hch (by simp; exact hsV)) hjl
      have hti := HTI.out (T.getD j Trd.zero) (by rw [HT.out.1]; simp [List.getD, hjl])
      have htk : (T.take (j + 1)).foldl (payL n ⟨(k : Int) + 1, c, b, p, q⟩) xs1 = payL n ⟨(k : Int) + 1, c, b, p, q⟩ ((T.take j).foldl (payL n ⟨(k : Int) + 1, c, b, p, q⟩) xs1) (T.getD j Trd.zero) := by
        rw [List.take_succ_eq_append_getElem hjl, List.foldl_append]
        simp [List.getD, hjl]
      generalize T.getD j Trd.zero = t at *
      obtain ⟨ys, hys⟩ : ∃ ys, (T.take j).foldl (payL n ⟨(k : Int) + 1, c, b, p, q⟩) xs1 = ys := ⟨_, rfl⟩
      rw [hys] at hA htk
      have HTK := Lib.hid htk
      have HTIN := Lib.hid hti
      obtain ⟨t0, t1, t2, t3, t4, t5⟩ := tat
      have j1 : (0 : Int) ≤ (j : Int) := by omega
      have j2 : (j : Int) < (nT : Int) := by omega
      have hX1 := (h7.e.chg hch (by simp; exact n1)).chg ((Chg.refl [] wr).alloc (.cells #[.int .i64 t.maker, .int .i64 t.taker, .int .i64 t.buyer, .int .i64 t.seller, .int .u64 t.price, .int .u64 t.qty] 85)) (by simp)
      have hb1 := (hb7.chg hch (by simp; omega)).alloc (.cells #[.int .i64 t.maker, .int .i64 t.taker, .int .i64 t.buyer, .int .i64 t.seller, .int .u64 t.price, .int .u64 t.qty] 85)
      have hA1 := hA.alloc (.cells #[.int .i64 t.maker, .int .i64 t.taker, .int .i64 t.buyer, .int .i64 t.seller, .int .u64 t.price, .int .u64 t.qty] 85)
      have hch1 := hch.alloc (.cells #[.int .i64 t.maker, .int .i64 t.taker, .int .i64 t.buyer, .int .i64 t.seller, .int .u64 t.price, .int .u64 t.qty] 85)
      have hbt : Blk (wr.alloc (.cells #[.int .i64 t.maker, .int .i64 t.taker, .int .i64 t.buyer, .int .i64 t.seller, .int .u64 t.price, .int .u64 t.qty] 85)) wr.heap.size 85 (tc t) := Blk.new wr (tc t) _
      clear htk hjl hys hA hch hti
      go_upto_region 14 with (fail)
      clear t0 t1 t2 t3 t4 t5
      generalize wr.heap.size = g9 at *
      generalize wr.alloc _ = W9 at *
      have y0 := hb1.at (i := 0) rfl
      have y1 := hb1.at (i := 1) rfl
      have y2 := hb1.at (i := 2) rfl
      have y3 := hb1.at (i := 3) rfl
      have y4 := hb1.at (i := 4) rfl
      have z0 := hbt.at (i := 0) rfl
      have z1 := hbt.at (i := 1) rfl
      have z2 := hbt.at (i := 2) rfl
      have z3 := hbt.at (i := 3) rfl
      have z4 := hbt.at (i := 4) rfl
      have z5 := hbt.at (i := 5) rfl
      go_wp2_with fail
      refine (pay_any hX1 hA1 n1 ⟨(k : Int) + 1, c, b, p, q⟩ t HIN.out HTIN.out).mono ?_
      rintro e w9 ⟨rfl, -, hA9, c9⟩
      rw [← HTK.out] at hA9
      have hch9 := hch1.trans c9
      clear hX1 hb1 hA1 hch1 hbt c9 y0 y1 y2 y3 y4 z0 z1 z2 z3 z4 z5
      go_wp2_with fail
      go_roundw
      case rel => exact ⟨j + 1, by omega, by go_num, hA9, hch9⟩
      case measure => simp [intOf]; omega
    · obtain rfl : j = nT := by omega
      have hA9 : Acc wr ab s n xs2 := by have := hA; rwa [List.take_of_length_le (by rw [HNT.out]; exact Nat.le_refl _), HX2.out] at this
      have h9 := h7.acct hA9 hch
      have hN9 := hN7.chg hch (by simp; exact hsV)
      have B9 := B7.chg hch (by simp; omega)
      have hb9 := hb7.chg hch (by simp; omega)
      have HC9 := Lib.hid (HC7.out.trans (hch.mono (by simp)))
      clear hA hA9 h7 hN7 B7 hb7 HC7 hch
      have v4 := hb9.at (i := 4) rfl
      have fv := hb9.free 4
      have c10 : Chg [go] wr (wr.setCell ⟨go, 4, none⟩ (.int .u64 lft)) := (Chg.refl _ _).setCell _ _ (by simp)
      have h10 := h9.fresh c10 ⟨by omega, by omega, by omega, hFo⟩ (by omega)
      have hN10 := hN9.chg c10 (by simp; exact hVl)
      have B10 := B9.chg c10 (by simp; omega)
      have hb10 : Blk (wr.setCell ⟨go, 4, none⟩ (.int .u64 lft)) go 152 (oc ⟨(k : Int) + 1, c, b, p, lft⟩) := hb9.set 4 _
      have HC10 : Hid (Chg (x :: s :: F) _ (wr.setCell ⟨go, 4, none⟩ (.int .u64 lft))) := HC9.out.setCell _ _ (.inr (by rw [HG.out]; show g ≤ go; omega))
      clear h9 hN9 B9 hb9 HC9 c10
      go_upto_region 17 with (fail)
      clear v4 fv
      generalize wr.setCell _ _ = W10 at *
      have y0 := hb10.at (i := 0) rfl
      have a0 := B10.at (i := 0) rfl
      have f0 := B10.free 0
      have y1 := hb10.at (i := 1) rfl
      have a1 := B10.at (i := 1) rfl
      have f1 := B10.free 1
      have y2 := hb10.at (i := 2) rfl
      have a2 := B10.at (i := 2) rfl
      have f2 := B10.free 2
      have y3 := hb10.at (i := 3) rfl
      have a3 := B10.at (i := 3) rfl
      have f3 := B10.free 3
      have y4 := hb10.at (i := 4) rfl
      have a4 := B10.at (i := 4) rfl
      have f4 := B10.free 4
      have hz := h10.fresh (sto_chg (Chg.refl [g] _) g 0 ⟨(k : Int) + 1, c, b, p, lft⟩ (by simp)) ⟨by omega, by omega, by omega, hFg⟩ (by omega)
      have hNz := (hN10.chg (sto_chg (Chg.refl [g] _) g 0 ⟨(k : Int) + 1, c, b, p, lft⟩ (by simp)) (by simp; omega)).mono (show g ≤ _ by omega)
      have hcz := sto_chg HC10.out g 0 ⟨(k : Int) + 1, c, b, p, lft⟩ (.inr (by rw [HG.out]; exact Nat.le_refl _))
      clear h10 hN10 HC10 hb10 B10
      go_wp2_with fail
      exact bodyPost_ret (v := .tuple #[ov ⟨(k : Int) + 1, c, b, p, lft⟩,   .slice a7 j d7, .int .i64 0]) (by simp [results, Try.results80, go_sem, a0, a1, a2, a3, a4]) rfl (by first | exact ⟨a7, d7, rfl, by rw [HG.out]; exact hNz, hz, hcz⟩ | exact ⟨a7, ⟨d7, rfl⟩, by rw [HG.out]; exact hNz, hz, hcz⟩)
end Go.Proofs.Yteabcpmpcbjicaa
