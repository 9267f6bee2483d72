
import Derived.Test.YteabcpmpcbjicaaEx3
import Derived.BigQuiet
import Derived.StillTailTactics
namespace Go.Proofs.Yteabcpmpcbjicaa
set_option linter.unusedVariables false
open Go Go.Proofs Go.RowKit
attribute [local go_sem ↓] Go.wp_at_zero Go.wp_at_succ

/-- New, over accounts that were made since the world w. -/
theorem exNew {w wr : World} {ab s n : Nat} {xs : List Int} (ha : Acc wr ab s n xs) (c : Chg [] w wr) (l1 : w.heap.size ≤ ab) (l2 : w.heap.size ≤ s) :
    Calls Try.prog 28 #[.pointer (some ⟨ab, 0, none⟩)] wr fun e w' => ∃ x kb F, e = .returned (.pointer (some ⟨x, 0, none⟩)) ∧ Exc w w' x ab s kb n F xs [] [] 0 := by
  obtain ⟨m1, m2⟩ := ha.lt
  go_enter Try.func28, Try.ntmps28
  go_wp2_with fail
  refine (bNewS w wr c).mono ?_
  rintro e w1 ⟨kb, F, rfl, hB, c1, lo⟩
  have hb : Blk (w1.alloc (.cells #[.pointer (some ⟨ab, 0, none⟩), .pointer (some ⟨kb, 0, none⟩), .int .i64 0] 150)) w1.heap.size 150 [.pointer (some ⟨ab, 0, none⟩), .pointer (some ⟨kb, 0, none⟩), .int .i64 0] := Blk.new w1 _ _
  have hc : Chg [] w1 (w1.alloc (.cells #[.pointer (some ⟨ab, 0, none⟩), .pointer (some ⟨kb, 0, none⟩), .int .i64 0] 150)) := (Chg.refl _ _).alloc _
  have ha1 := (ha.chg c1 (by simp) (by simp)).chg hc (by simp) (by simp)
  have hB1 := hB.to hc
  have z1 := c1.size
  have z0 := c.size
  have hnew := hB.new
  clear ha hB hc
  go_wp2_with fail
  go_ret
  exact ⟨w1.heap.size, kb, F, rfl, ⟨⟨hb⟩, ha1, hB1, ⟨by omega, fun hm => by have := hnew _ hm; omega, fun hm => by have := lo _ hm; omega, fun hm => by have := lo _ hm; omega, by omega⟩, ⟨by omega, l1, l2⟩, EOk.start n⟩⟩
/-- Book. -/
theorem exBook {w wr : World} {x ab s kb n : Nat} {F : List Nat} {xs : List Int} {L M : List Ord} {k : Nat} (h : Exc w wr x ab s kb n F xs L M k) :
    Calls Try.prog 41 #[.pointer (some ⟨x, 0, none⟩)] wr fun e w' => e = .returned (.pointer (some ⟨kb, 0, none⟩)) ∧ wr = w' := by
  have x1 := h.e.hd.at (i := 1) rfl
  go_enter Try.func41, Try.ntmps41
  go_wp2_with fail
  go_ret
  exact ⟨rfl, rfl⟩

set_option maxRecDepth 100000 in
/-- Limit, of what is refused. -/
theorem limit_no {w wr : World} {x ab s kb n : Nat} {F : List Nat} {xs : List Int} {L M : List Ord} {k : Nat} (h : Exc w wr x ab s kb n F xs L M k) (hk : k < 1000000) (c : Int) (b : Bool) (p q : Int) (hp : U p) (hq : U q) (hc : I c) (e0 : Int) (hE : mtE n xs c b p q = e0) (hne : e0 ≠ 0) :
    Calls Try.prog 29 #[.pointer (some ⟨x, 0, none⟩), .int .i64 c, .bool b, .int .u64 p, .int .u64 q] wr fun e w' => e = .returned (.tuple #[.int .i64 0, .slice none 0 0, .int .i64 e0]) ∧ Exc w w' x ab s kb n F xs L M k ∧ Chg [s] wr w' := by
  have d1 : decide (e0 = 0) = false := by simp; exact hne
  have d2 : (e0 == 0) = false := by simp; exact hne
  have HE := Lib.hid hE
  have HNE := Lib.hid hne
  clear hE hne
  go_enter Try.func29, Try.ntmps29
  go_wp2_with fail
  refine (meet_no h hk c b p q hp hq hc e0 HE.out HNE.out).mono ?_
  rintro e w1 ⟨rfl, h1, c1⟩
  have h2 := h1.to ((Chg.refl [] w1).alloc (.cells #[.int .i64 0, .int .i64 0, .bool false, .int .u64 0, .int .u64 0] 152))
  have c2 := c1.alloc (.cells #[.int .i64 0, .int .i64 0, .bool false, .int .u64 0, .int .u64 0] 152)
  have B : Blk (w1.alloc (.cells #[.int .i64 0, .int .i64 0, .bool false, .int .u64 0, .int .u64 0] 152)) w1.heap.size 152 (oc Ord.zero) := Blk.new w1 (oc Ord.zero) 152
  have y0 := B.at (i := 0) rfl
  clear h h1 c1 B
  go_upto_region 2 with (fail)
  generalize w1.heap.size = g at *
  generalize w1.alloc _ = W at *
  go_wp2_with fail
  go_ret3
  exact ⟨rfl, h2, c2⟩

set_option maxRecDepth 100000 in
/-- Now, of what is refused. -/
theorem now_no {w wr : World} {x ab s kb n : Nat} {F : List Nat} {xs : List Int} {L M : List Ord} {k : Nat} (h : Exc w wr x ab s kb n F xs L M k) (hk : k < 1000000) (c : Int) (b : Bool) (p q : Int) (hp : U p) (hq : U q) (hc : I c) (e0 : Int) (hE : mtE n xs c b p q = e0) (hne : e0 ≠ 0) :
    Calls Try.prog 40 #[.pointer (some ⟨x, 0, none⟩), .int .i64 c, .bool b, .int .u64 p, .int .u64 q] wr fun e w' => e = .returned (.tuple #[.slice none 0 0, .int .i64 e0]) ∧ Exc w w' x ab s kb n F xs L M k ∧ Chg [s] wr w' := by
  have d1 : decide (e0 = 0) = false := by simp; exact hne
  have d2 : (e0 == 0) = false := by simp; exact hne
  have HE := Lib.hid hE
  have HNE := Lib.hid hne
  clear hE hne
  go_enter Try.func40, Try.ntmps40
  go_wp2_with fail
  refine (meet_no h hk c b p q hp hq hc e0 HE.out HNE.out).mono ?_
  rintro e w1 ⟨rfl, h1, c1⟩
  have h2 := h1.to ((Chg.refl [] w1).alloc (.cells #[.int .i64 0, .int .i64 0, .bool false, .int .u64 0, .int .u64 0] 152))
  have c2 := c1.alloc (.cells #[.int .i64 0, .int .i64 0, .bool false, .int .u64 0, .int .u64 0] 152)
  have B : Blk (w1.alloc (.cells #[.int .i64 0, .int .i64 0, .bool false, .int .u64 0, .int .u64 0] 152)) w1.heap.size 152 (oc Ord.zero) := Blk.new w1 (oc Ord.zero) 152
  have y0 := B.at (i := 0) rfl
  clear h h1 c1 B
  go_upto_region 2 with (fail)
  generalize w1.heap.size = g at *
  generalize w1.alloc _ = W at *
  go_wp2_with fail
  go_ret2
  exact ⟨rfl, h2, c2⟩

set_option maxRecDepth 100000 in
/-- Limit, of what is taken. -/
theorem limit_yes {w wr : World} {x ab s kb n : Nat} {F : List Nat} {xs : List Int} {L M : List Ord} {k : Nat} (h : Exc w wr x ab s kb n F xs L M k) (hk : k < 1000000) (c : Int) (b : Bool) (p q : Int) (hp : U p) (hq : U q) (hc : I c) (hE : mtE n xs c b p q = 0)
    (xs1 xs2 : List Int) (T : List Trd) (lft : Int) (L' M' : List Ord) (hx1 : aTake n xs c (lockA ⟨(k : Int) + 1, c, b, p, q⟩) (lockN ⟨(k : Int) + 1, c, b, p, q⟩) = xs1) (hT : (mres ⟨(k : Int) + 1, c, b, p, q⟩ L M).1 = T ∧ (mres ⟨(k : Int) + 1, c, b, p, q⟩ L M).2.1 = lft) (hx2 : T.foldl (payL n ⟨(k : Int) + 1, c, b, p, q⟩) xs1 = xs2)
    (hL : mL ⟨(k : Int) + 1, c, b, p, q⟩ L M = L') (hM : mM ⟨(k : Int) + 1, c, b, p, q⟩ L M = M') :
    Calls Try.prog 29 #[.pointer (some ⟨x, 0, none⟩), .int .i64 c, .bool b, .int .u64 p, .int .u64 q] wr fun e w' => ∃ a cap, e = .returned (.tuple #[.int .i64 ((k : Int) + 1), .slice a T.length cap, .int .i64 0]) ∧ NewF tc w' wr.heap.size 85 a T ∧ ∃ F', Exc w w' x ab s kb n F' xs2 (restL ⟨(k : Int) + 1, c, b, p, lft⟩ L') (restM ⟨(k : Int) + 1, c, b, p, lft⟩ M') (k + 1) ∧ Chg (x :: s :: F) wr w' ∧ Grw wr.heap.size F F' ∧ ∀ gt, a = some ⟨gt, 0, none⟩ → T ≠ [] → gt ∉ F' := by
  have hlf := hT.2 ▸ mres_left h.ok (o := ⟨(k : Int) + 1, c, b, p, q⟩)
  obtain ⟨hh, hw⟩ : aHas n c = true ∧ (wIn p && wIn q) = true := by
    unfold mtE at hE
    split at hE
    · rename_i h1
      split at hE
      · rename_i h2; exact ⟨h1, h2⟩
      · omega
    · omega
  obtain ⟨hin, p1, q1⟩ := wIn_o hw ((k : Int) + 1) c b
  have hlf2 := hlf hin
  obtain ⟨v1, v2⟩ := hlf2
  have HIN2 : Hid (OIn ⟨(k : Int) + 1, c, b, p, lft⟩) := hin.lt lft ⟨v1, v2⟩
  have HHAS := Lib.hid hh
  have hqq := hin.q
  have HOO : Hid ((⟨(k : Int) + 1, c, b, p, lft⟩ : Ord).Ok) := ordOk _ _ _ _ _ ⟨by omega, by omega⟩ hc ⟨hp.1, hp.2⟩ ⟨v1, by dsimp only at v2 hqq; omega⟩
  have HFR : Hid ((∀ y ∈ L', y.id ≠ (k : Int) + 1) ∧ (∀ y ∈ M', y.id ≠ (k : Int) + 1)) := by
    have := (h.ok.fr.mch ⟨(k : Int) + 1, c, b, p, q⟩).new (i := (k : Int) + 1) (by omega)
    rwa [hL, hM] at this
  have hlen : L'.length + M'.length ≤ k := by
    have := (h.ok.met ⟨(k : Int) + 1, c, b, p, q⟩).len
    rwa [hL, hM] at this
  have HOKK := Lib.hid (h.ok.met ⟨(k : Int) + 1, c, b, p, q⟩)
  have HFB : Hid (∀ z ∈ F, z < wr.heap.size) := h.b.new
  have HEE := Lib.hid hE
  have HX1 := Lib.hid hx1
  have HX2 := Lib.hid hx2
  have HT := Lib.hid hT
  have HL := Lib.hid hL
  have HM := Lib.hid hM
  obtain ⟨nT, hnT⟩ : ∃ m, T.length = m := ⟨_, rfl⟩
  rw [hnT]
  have HNT := Lib.hid hnT
  obtain ⟨l1, l2, l3, l4, l5⟩ := h.lt
  clear hlf hh hw hin hqq hnT hE hx1 hx2 hT hL hM v2
  go_enter Try.func29, Try.ntmps29
  go_wp2_with fail
  refine (meet_yes h hk c b p q hp hq hc HEE.out xs1 xs2 T lft L' M' HX1.out HT.out HX2.out HL.out HM.out).mono ?_
  rw [HNT.out]
  rintro e w1 ⟨a1, d1, rfl, hN1, h1, c1⟩
  have h2 := h1.to ((Chg.refl [] w1).alloc (.cells #[.int .i64 ((k : Int) + 1), .int .i64 c, .bool b, .int .u64 p, .int .u64 lft] 152))
  have c2 := c1.alloc (.cells #[.int .i64 ((k : Int) + 1), .int .i64 c, .bool b, .int .u64 p, .int .u64 lft] 152)
  have hN2 := hN1.chg0 ((Chg.refl [] w1).alloc (.cells #[.int .i64 ((k : Int) + 1), .int .i64 c, .bool b, .int .u64 p, .int .u64 lft] 152))
  have B : Blk (w1.alloc (.cells #[.int .i64 ((k : Int) + 1), .int .i64 c, .bool b, .int .u64 p, .int .u64 lft] 152)) w1.heap.size 152 (oc ⟨(k : Int) + 1, c, b, p, lft⟩) := Blk.new w1 (oc ⟨(k : Int) + 1, c, b, p, lft⟩) 152
  have hgF : w1.heap.size ∉ F := fun hm => by have := h1.b.new _ hm; omega
  have hz1 := c1.size
  have y0 := B.at (i := 0) rfl
  have y1 := B.at (i := 1) rfl
  have y2 := B.at (i := 2) rfl
  have y3 := B.at (i := 3) rfl
  have y4 := B.at (i := 4) rfl
  clear h h1 c1 hN1
  go_upto_region 3 with (fail)
  generalize w1.heap.size = g at *
  generalize w1.alloc _ = W at *
  have x1 := h2.e.hd.at (i := 1) rfl
  go_still_tail 5, (by kernel_rfl)
  change wpList _ _ _ _ _ W.drew
  have h3 := h2.to (Chg.refl [] W).drew
  have hN3 := hN2.chg0 (Chg.refl [] W).drew
  have B3 := B.drew
  have c3 := Lib.hid c2.drew
  clear x1 y0 y1 y2 y3 y4 h2 hN2 B c2
  generalize W.drew = V at *
  go_wp2_with fail
  refine (bRest_is h3.b ⟨(k : Int) + 1, c, b, p, lft⟩ _ _ rfl HOO.out HFR.out.1 HFR.out.2 (by omega) (by omega)).mono ?_
  rintro e w4 ⟨rfl, F', hB4, c4, g4⟩
  have hlV := h3.lt.2.2.2.1
  have hok : EOk n (restL ⟨(k : Int) + 1, c, b, p, lft⟩ L') (restM ⟨(k : Int) + 1, c, b, p, lft⟩ M') (k + 1) := by
    have h8 := (HL.out ▸ HM.out ▸ HOKK.out : EOk n L' M' k)
    exact h8.rest rfl HIN2.out HHAS.out
  have h5 := h3.book hB4 c4 g4 rfl hok
  have hN5 := hN3.chg c4 HFB.out
  have y0 := (B3.chg c4 hgF).at (i := 0) rfl
  have hc5 : Chg (x :: s :: F) wr w4 := c3.out.trans (c4.mono (by simp +contextual))
  have hg5 : Grw wr.heap.size F F' := fun z hz => (g4 z hz).imp (fun e => e) fun e => Nat.le_trans c3.out.size e
  have hnF : ∀ gt, a1 = some ⟨gt, 0, none⟩ → T ≠ [] → gt ∉ F' := by
    intro gt e hT hm
    rcases hN3 with rfl | ⟨g2, e2, l2, hb2⟩
    · exact hT rfl
    · rw [e] at e2
      obtain rfl : gt = g2 := by simpa using e2
      rcases g4 _ hm with h8 | h8
      · have := HFB.out _ h8; omega
      · have := Beg.lt hb2; omega
  have HNF := Lib.hid hnF
  clear h3 hN3 B3 c3 hB4 c4 g4 hok hnF
  go_wp2_with fail
  go_ret3
  first | exact ⟨a1, d1, rfl, hN5, F', h5, hc5, hg5, HNF.out⟩ | exact ⟨a1, ⟨d1, rfl⟩, hN5, F', h5, hc5, hg5, HNF.out⟩

set_option maxRecDepth 100000 in
/-- Now, of what is taken. -/
theorem now_yes {w wr : World} {x ab s kb n : Nat} {F : List Nat} {xs : List Int} {L M : List Ord} {k : Nat} (h : Exc w wr x ab s kb n F xs L M k) (hk : k < 1000000) (c : Int) (b : Bool) (p q : Int) (hp : U p) (hq : U q) (hc : I c) (hE : mtE n xs c b p q = 0)
    (xs1 xs2 : List Int) (T : List Trd) (lft : Int) (L' M' : List Ord) (hx1 : aTake n xs c (lockA ⟨(k : Int) + 1, c, b, p, q⟩) (lockN ⟨(k : Int) + 1, c, b, p, q⟩) = xs1) (hT : (mres ⟨(k : Int) + 1, c, b, p, q⟩ L M).1 = T ∧ (mres ⟨(k : Int) + 1, c, b, p, q⟩ L M).2.1 = lft) (hx2 : T.foldl (payL n ⟨(k : Int) + 1, c, b, p, q⟩) xs1 = xs2)
    (hL : mL ⟨(k : Int) + 1, c, b, p, q⟩ L M = L') (hM : mM ⟨(k : Int) + 1, c, b, p, q⟩ L M = M') :
    Calls Try.prog 40 #[.pointer (some ⟨x, 0, none⟩), .int .i64 c, .bool b, .int .u64 p, .int .u64 q] wr fun e w' => ∃ a cap, e = .returned (.tuple #[.slice a T.length cap, .int .i64 0]) ∧ NewF tc w' wr.heap.size 85 a T ∧ Exc w w' x ab s kb n F (aPut n xs2 c (lockA ⟨(k : Int) + 1, c, b, p, lft⟩) (lockN ⟨(k : Int) + 1, c, b, p, lft⟩)) L' M' (k + 1) ∧ Chg (x :: s :: F) wr w' := by
  have hlf := hT.2 ▸ mres_left h.ok (o := ⟨(k : Int) + 1, c, b, p, q⟩)
  obtain ⟨hh, hw⟩ : aHas n c = true ∧ (wIn p && wIn q) = true := by
    unfold mtE at hE
    split at hE
    · rename_i h1
      split at hE
      · rename_i h2; exact ⟨h1, h2⟩
      · omega
    · omega
  obtain ⟨hin, p1, q1⟩ := wIn_o hw ((k : Int) + 1) c b
  have hlf2 := hlf hin
  obtain ⟨v1, v2⟩ := hlf2
  have HIN2 : Hid (OIn ⟨(k : Int) + 1, c, b, p, lft⟩) := hin.lt lft ⟨v1, v2⟩
  have HHAS := Lib.hid hh
  have hqq := hin.q
  have HOO : Hid ((⟨(k : Int) + 1, c, b, p, lft⟩ : Ord).Ok) := ordOk _ _ _ _ _ ⟨by omega, by omega⟩ hc ⟨hp.1, hp.2⟩ ⟨v1, by dsimp only at v2 hqq; omega⟩
  have HFR : Hid ((∀ y ∈ L', y.id ≠ (k : Int) + 1) ∧ (∀ y ∈ M', y.id ≠ (k : Int) + 1)) := by
    have := (h.ok.fr.mch ⟨(k : Int) + 1, c, b, p, q⟩).new (i := (k : Int) + 1) (by omega)
    rwa [hL, hM] at this
  have hlen : L'.length + M'.length ≤ k := by
    have := (h.ok.met ⟨(k : Int) + 1, c, b, p, q⟩).len
    rwa [hL, hM] at this
  have HEE := Lib.hid hE
  have HX1 := Lib.hid hx1
  have HX2 := Lib.hid hx2
  have HT := Lib.hid hT
  have HL := Lib.hid hL
  have HM := Lib.hid hM
  obtain ⟨nT, hnT⟩ : ∃ m, T.length = m := ⟨_, rfl⟩
  rw [hnT]
  have HNT := Lib.hid hnT
  obtain ⟨l1, l2, l3, l4, l5⟩ := h.lt
  clear hlf hh hw hin hqq hnT hE hx1 hx2 hT hL hM v2
  go_enter Try.func40, Try.ntmps40
  go_wp2_with fail
  refine (meet_yes h hk c b p q hp hq hc HEE.out xs1 xs2 T lft L' M' HX1.out HT.out HX2.out HL.out HM.out).mono ?_
  rw [HNT.out]
  rintro e w1 ⟨a1, d1, rfl, hN1, h1, c1⟩
  have h2 := h1.to ((Chg.refl [] w1).alloc (.cells #[.int .i64 ((k : Int) + 1), .int .i64 c, .bool b, .int .u64 p, .int .u64 lft] 152))
  have c2 := c1.alloc (.cells #[.int .i64 ((k : Int) + 1), .int .i64 c, .bool b, .int .u64 p, .int .u64 lft] 152)
  have hN2 := hN1.chg0 ((Chg.refl [] w1).alloc (.cells #[.int .i64 ((k : Int) + 1), .int .i64 c, .bool b, .int .u64 p, .int .u64 lft] 152))
  have B : Blk (w1.alloc (.cells #[.int .i64 ((k : Int) + 1), .int .i64 c, .bool b, .int .u64 p, .int .u64 lft] 152)) w1.heap.size 152 (oc ⟨(k : Int) + 1, c, b, p, lft⟩) := Blk.new w1 (oc ⟨(k : Int) + 1, c, b, p, lft⟩) 152
  have hgF : w1.heap.size ∉ F := fun hm => by have := h1.b.new _ hm; omega
  have hz1 := c1.size
  have y0 := B.at (i := 0) rfl
  have y1 := B.at (i := 1) rfl
  have y2 := B.at (i := 2) rfl
  have y3 := B.at (i := 3) rfl
  have y4 := B.at (i := 4) rfl
  clear h h1 c1 hN1
  go_upto_region 3 with (fail)
  generalize w1.heap.size = g at *
  generalize w1.alloc _ = W at *
  go_wp2_with fail
  refine (exfree_any h2.e h2.a h2.ne.1 ⟨(k : Int) + 1, c, b, p, lft⟩ HIN2.out).mono ?_
  rintro e w4 ⟨rfl, -, hA4, c4⟩
  have h5 := h2.acct hA4 c4
  have hN5 := hN2.chg c4 (by simp; omega)
  have hc5 : Chg (x :: s :: F) wr w4 := c2.trans (c4.mono (by simp))
  clear h2 hN2 B c2 y0 y1 y2 y3 y4 hA4 c4
  go_wp2_with fail
  go_ret2
  first | exact ⟨a1, d1, rfl, hN5, h5, hc5⟩ | exact ⟨a1, ⟨d1, rfl⟩, hN5, h5, hc5⟩

set_option maxRecDepth 100000 in
/-- Cancel, of what can not be. -/
theorem cancel_no {w wr : World} {x ab s kb n : Nat} {F : List Nat} {xs : List Int} {L M : List Ord} {k : Nat} (h : Exc w wr x ab s kb n F xs L M k) (hk : k ≤ 1000000) (i : Int) (o : Ord) (ok : Bool) (hP : pickB i L M = (o, ok)) (c : Int) (hne : ok = false ∨ o.client ≠ c) :
    Calls Try.prog 32 #[.pointer (some ⟨x, 0, none⟩), .int .i64 c, .int .i64 i] wr fun e w' => e = .returned (.int .i64 7) ∧ Exc w w' x ab s kb n F xs L M k ∧ Chg [] wr w' := by
  have HNE := Lib.hid hne
  clear hne
  have HP := Lib.hid hP
  have hlen := h.ok.len
  clear hP
  go_enter Try.func32, Try.ntmps32
  have x1 := h.e.hd.at (i := 1) rfl
  go_wp2_with fail
  refine (bFind_is h.b.bk i o ok HP.out).mono ?_
  rintro e w1 ⟨rfl, c1⟩
  have h1 := h.to c1
  have h2 := h1.to ((Chg.refl [] w1).alloc (.cells #[.int .i64 o.id, .int .i64 o.client, .bool o.buy, .int .u64 o.price, .int .u64 o.qty] 152))
  have c2 := c1.alloc (.cells #[.int .i64 o.id, .int .i64 o.client, .bool o.buy, .int .u64 o.price, .int .u64 o.qty] 152)
  have B : Blk (w1.alloc (.cells #[.int .i64 o.id, .int .i64 o.client, .bool o.buy, .int .u64 o.price, .int .u64 o.qty] 152)) w1.heap.size 152 (oc o) := Blk.new w1 (oc o) 152
  have hgF : w1.heap.size ∉ F := fun hm => by have := h1.b.new _ hm; omega
  have y0 := B.at (i := 0) rfl
  have y1 := B.at (i := 1) rfl
  have y2 := B.at (i := 2) rfl
  have y3 := B.at (i := 3) rfl
  have y4 := B.at (i := 4) rfl
  have hz1 := c1.size
  clear h h1 c1 x1
  go_upto_region 2 with (fail)
  generalize w1.heap.size = g at *
  generalize w1.alloc _ = W at *
  cases ok
  · go_wp2_with fail
    go_ret
    exact ⟨rfl, h2, c2⟩
  · have hnc : o.client ≠ c := HNE.out.resolve_left (by simp)
    have d1 : (o.client != c) = true := by simp; exact hnc
    have d2 : decide (o.client = c) = false := by simp; exact hnc
    clear hnc
    go_wp2_with fail
    go_ret
    exact ⟨rfl, h2, c2⟩

set_option maxRecDepth 100000 in
/-- Cancel, of what stands. -/
theorem cancel_yes {w wr : World} {x ab s kb n : Nat} {F : List Nat} {xs : List Int} {L M : List Ord} {k : Nat} (h : Exc w wr x ab s kb n F xs L M k) (hk : k ≤ 1000000) (i : Int) (o : Ord) (hP : pickB i L M = (o, true)) (c : Int) (hcc : o.client = c) :
    Calls Try.prog 32 #[.pointer (some ⟨x, 0, none⟩), .int .i64 c, .int .i64 i] wr fun e w' => e = .returned (.int .i64 0) ∧ Exc w w' x ab s kb n F (aPut n xs c (lockA o) (lockN o)) (sans i L) (remM i L M) k ∧ Chg (s :: F) wr w' := by
  have hin : OIn o := by
    have hm : o ∈ L ++ M := by
      unfold pickB at hP
      rcases pickQ_spec i L with ⟨e1, e2, -⟩ | ⟨e1, e2⟩
      · rw [if_pos e1] at hP; rw [hP] at e2; simp [e2]
      · rw [e1] at hP; simp at hP
        rcases pickQ_spec i M with ⟨e3, e4, -⟩ | ⟨e3, e4⟩
        · rw [hP] at e4; simp [e4]
        · rw [hP] at e3; simp at e3
    exact (h.ok.oin o hm).1
  have HIN := Lib.hid hin
  have hrok := h.ok.remove i
  have HRK := Lib.hid hrok
  subst hcc
  clear hin hrok
  have HP := Lib.hid hP
  have hlen := h.ok.len
  clear hP
  go_enter Try.func32, Try.ntmps32
  have x1 := h.e.hd.at (i := 1) rfl
  go_wp2_with fail
  refine (bFind_is h.b.bk i o true HP.out).mono ?_
  rintro e w1 ⟨rfl, c1⟩
  have h1 := h.to c1
  have h2 := h1.to ((Chg.refl [] w1).alloc (.cells #[.int .i64 o.id, .int .i64 o.client, .bool o.buy, .int .u64 o.price, .int .u64 o.qty] 152))
  have c2 := c1.alloc (.cells #[.int .i64 o.id, .int .i64 o.client, .bool o.buy, .int .u64 o.price, .int .u64 o.qty] 152)
  have B : Blk (w1.alloc (.cells #[.int .i64 o.id, .int .i64 o.client, .bool o.buy, .int .u64 o.price, .int .u64 o.qty] 152)) w1.heap.size 152 (oc o) := Blk.new w1 (oc o) 152
  have hgF : w1.heap.size ∉ F := fun hm => by have := h1.b.new _ hm; omega
  have y0 := B.at (i := 0) rfl
  have y1 := B.at (i := 1) rfl
  have y2 := B.at (i := 2) rfl
  have y3 := B.at (i := 3) rfl
  have y4 := B.at (i := 4) rfl
  have hz1 := c1.size
  clear h h1 c1 x1
  go_upto_region 2 with (fail)
  generalize w1.heap.size = g at *
  generalize w1.alloc _ = W at *
  have d1 : (o.client != o.client) = false := by simp
  have x1 := h2.e.hd.at (i := 1) rfl
  go_wp2_with fail
  refine (bRemove_is h2.b i o true _ _ (by rw [HP.out]) (by omega) (by omega)).mono ?_
  rintro e w4 ⟨rfl, hB4, c4⟩
  have h4 := h2.book hB4 c4 (Grw.refl _ _) rfl HRK.out
  have B4 := B.chg c4 hgF
  have hc4 := Lib.hid ((c2.mono (R := s :: F) (by simp)).trans (c4.mono (by simp +contextual)))
  clear h2 hB4 B c2 c4 x1 y0 y1 y2 y3 y4
  have y0 := B4.at (i := 0) rfl
  have y1 := B4.at (i := 1) rfl
  have y2 := B4.at (i := 2) rfl
  have y3 := B4.at (i := 3) rfl
  have y4 := B4.at (i := 4) rfl
  go_wp2_with fail
  refine (exfree_any h4.e h4.a h4.ne.1 o HIN.out).mono ?_
  rintro e w5 ⟨rfl, -, hA5, c5⟩
  have h5 := h4.acct hA5 c5
  have hc5 : Chg (s :: F) wr w5 := hc4.out.trans (c5.mono (by simp))
  clear h4 B4 hc4 hA5 c5 y0 y1 y2 y3 y4
  go_wp2_with fail
  go_ret
  exact ⟨rfl, h5, hc5⟩
end Go.Proofs.Yteabcpmpcbjicaa
