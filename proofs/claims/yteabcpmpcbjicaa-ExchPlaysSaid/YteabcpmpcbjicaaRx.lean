
import Derived.Test.YteabcpmpcbjicaaEx2
import Derived.Test.YteabcpmpcbjicaaRbook
import Derived.Test.YteabcpmpcbjicaaRef6A
import Derived.BigQuiet
import Derived.StillTailTactics
namespace Go.Proofs.Yteabcpmpcbjicaa
set_option linter.unusedVariables false
open Go Go.Proofs Go.RowKit
attribute [local go_sem ↓] Go.wp_at_zero Go.wp_at_succ

/-! The document's exchange. -/
structure Rxc (w wr : World) (y rb rs g n : Nat) (F : List Nat) (xs : List Int) (L M : List Ord) (k : Nat) : Prop where
  hd : Blk wr y 109 [.pointer (some ⟨rb, 0, none⟩), .pointer (some ⟨g, 0, none⟩), .int .i64 (k : Int)]
  a : RAcc wr rb rs n xs
  b : Rbk wr F g L M
  inF : y ∈ F ∧ rb ∈ F ∧ rs ∈ F
  ne : y ≠ rs ∧ y ≠ rb
  lo : w.heap.size ≤ y ∧ w.heap.size ≤ rb ∧ w.heap.size ≤ rs ∧ w.heap.size ≤ g
  ok : EOk n L M k
theorem Rxc.gne {w wr : World} {y rb rs g n : Nat} {F : List Nat} {xs : List Int} {L M : List Ord} {k : Nat} (h : Rxc w wr y rb rs g n F xs L M k) : g ≠ y ∧ g ≠ rb ∧ g ≠ rs :=
  ⟨fun e => h.b.ne (e ▸ h.inF.1), fun e => h.b.ne (e ▸ h.inF.2.1), fun e => h.b.ne (e ▸ h.inF.2.2)⟩
theorem Rxc.to {w wr w' : World} {y rb rs g n : Nat} {F : List Nat} {xs : List Int} {L M : List Ord} {k : Nat} (h : Rxc w wr y rb rs g n F xs L M k) (c : Chg [] wr w') : Rxc w w' y rb rs g n F xs L M k :=
  ⟨h.hd.chg c (by simp), h.a.chg c (by simp) (by simp), h.b.to c, h.inF, h.ne, h.lo, h.ok⟩
/-- Something else of F is turned. -/
theorem Rxc.far {w wr w' : World} {y rb rs g n : Nat} {F F' S : List Nat} {xs : List Int} {L M : List Ord} {k : Nat} (h : Rxc w wr y rb rs g n F xs L M k) (c : Chg S wr w') (hS : ∀ z ∈ S, z ∈ F) (hy : y ∉ S ∧ rb ∉ S ∧ rs ∉ S) (gr : Grw wr.heap.size F F') (hF' : ∀ z ∈ F', z < w'.heap.size) (hin : y ∈ F' ∧ rb ∈ F' ∧ rs ∈ F') : Rxc w w' y rb rs g n F' xs L M k :=
  ⟨h.hd.chg c hy.1, h.a.chg c hy.2.1 hy.2.2, h.b.far c hS gr hF', hin, h.ne, h.lo, h.ok⟩
theorem Rxc.acct {w wr w' : World} {y rb rs g n : Nat} {F : List Nat} {xs ys : List Int} {L M : List Ord} {k : Nat} (h : Rxc w wr y rb rs g n F xs L M k) (a : RAcc w' rb rs n ys) (c : Chg [rs] wr w') : Rxc w w' y rb rs g n F ys L M k :=
  ⟨h.hd.chg c (by simp; exact h.ne.1), a, h.b.far c (by simp; exact h.inF.2.2) (Grw.refl _ _) (fun z hz => Nat.lt_of_lt_of_le (h.b.fr z hz) c.size), h.inF, h.ne, h.lo, h.ok⟩
theorem Rxc.book {w wr w' : World} {y rb rs g n : Nat} {F : List Nat} {xs : List Int} {L M L' M' : List Ord} {k : Nat} (h : Rxc w wr y rb rs g n F xs L M k) (b : Rbk w' F g L' M') (c : Chg [g] wr w') (ok : EOk n L' M' k) : Rxc w w' y rb rs g n F xs L' M' k := by
  obtain ⟨g1, g2, g3⟩ := h.gne
  exact ⟨h.hd.chg c (by simp; omega), h.a.chg c (by simp; omega) (by simp; omega), b, h.inF, h.ne, h.lo, ok⟩
theorem Rxc.last {w wr : World} {y rb rs g n : Nat} {F : List Nat} {xs : List Int} {L M : List Ord} {k : Nat} (h : Rxc w wr y rb rs g n F xs L M k) : Rxc w (wr.setCell ⟨y, 2, none⟩ (.int .i64 ((k : Int) + 1))) y rb rs g n F xs L M (k + 1) := by
  obtain ⟨n1, n2⟩ := h.ne
  have c : Chg [y] wr (wr.setCell ⟨y, 2, none⟩ (.int .i64 ((k : Int) + 1))) := (Chg.refl _ _).setCell _ _ (by simp)
  exact ⟨by have := h.hd.set 2 (.int .i64 ((k : Int) + 1)); simpa using this, h.a.chg c (by simp; omega) (by simp; omega), h.b.far c (by simp; exact h.inF.1) (Grw.refl _ _) (fun z hz => Nat.lt_of_lt_of_le (h.b.fr z hz) c.size), h.inF, h.ne, h.lo, h.ok.mono (Nat.le_succ k)⟩
theorem Rxc.box {w wr w' : World} {y rb rs g n b : Nat} {F : List Nat} {xs : List Int} {L M : List Ord} {k : Nat} (h : Rxc w wr y rb rs g n F xs L M k) (c : Chg [] wr w') (hb : wr.heap.size ≤ b) (hb' : b < w'.heap.size) : Rxc w w' y rb rs g n (b :: F) xs L M k :=
  ⟨h.hd.chg c (by simp), h.a.chg c (by simp) (by simp), h.b.box c hb hb', ⟨List.mem_cons_of_mem _ h.inF.1, List.mem_cons_of_mem _ h.inF.2.1, List.mem_cons_of_mem _ h.inF.2.2⟩, h.ne, h.lo, h.ok⟩
theorem Rxc.sub {w wr : World} {y rb rs g n b : Nat} {F : List Nat} {xs : List Int} {L M : List Ord} {k : Nat} (h : Rxc w wr y rb rs g n (b :: F) xs L M k) (hin : y ∈ F ∧ rb ∈ F ∧ rs ∈ F) : Rxc w wr y rb rs g n F xs L M k :=
  ⟨h.hd, h.a, h.b.sub (fun z hz => List.mem_cons_of_mem _ hz), hin, h.ne, h.lo, h.ok⟩
theorem rput_is {w : World} {b s n : Nat} {xs : List Int} (h : RAcc w b s n xs) (c a v e0 : Int) (ys : List Int) (hv : U v) (h1 : aPutE n xs c a v = e0) (h2 : aPut n xs c a v = ys) :
    Calls Try.prog 44 #[.pointer (some ⟨b, 0, none⟩), .int .i64 c, .int .i64 a, .int .u64 v] w fun e w' => e = .returned (.int .i64 e0) ∧ RAcc w' b s n ys ∧ Chg [s] w w' := by
  subst h1; subst h2; exact rput_any h c a v hv
theorem rtake_is {w : World} {b s n : Nat} {xs : List Int} (h : RAcc w b s n xs) (c a v e0 : Int) (ys : List Int) (hv : U v) (h1 : aTakeE n xs c a v = e0) (h2 : aTake n xs c a v = ys) :
    Calls Try.prog 101 #[.pointer (some ⟨b, 0, none⟩), .int .i64 c, .int .i64 a, .int .u64 v] w fun e w' => e = .returned (.int .i64 e0) ∧ RAcc w' b s n ys ∧ Chg [s] w w' := by
  subst h1; subst h2; exact rtake_any h c a v hv

/-- needs. -/
theorem needs_any (o : Ord) (h : OIn o) (w : World) : Calls Try.prog 100 #[ov o] w fun e w' => e = .returned (.tuple #[.int .i64 (lockA o), .int .u64 (lockN o)]) ∧ Chg [] w w' := by
  obtain ⟨i, c, b, p, q⟩ := o
  obtain ⟨hp, hq⟩ := h
  dsimp only at hp hq
  have hm := mul_lt hp hq
  have wq : IntKind.u64.wrap (p * q) = p * q := by simp [IntKind.wrap, IntKind.bits, IntKind.signed]; omega
  have hb : Blk (w.alloc (.cells #[.int .i64 i, .int .i64 c, .bool b, .int .u64 p, .int .u64 q] 152)) w.heap.size 152 (oc ⟨i, c, b, p, q⟩) := Blk.new w (oc ⟨i, c, b, p, q⟩) 152
  have hc : Chg [] w (w.alloc (.cells #[.int .i64 i, .int .i64 c, .bool b, .int .u64 p, .int .u64 q] 152)) := (Chg.refl _ _).alloc _
  have y2 := hb.at (i := 2) rfl
  have y3 := hb.at (i := 3) rfl
  have y4 := hb.at (i := 4) rfl
  have HC := Lib.hid hc
  clear hb hc
  cases b
  · show Calls _ _ _ _ fun e w' => e = .returned (.tuple #[.int .i64 0, .int .u64 q]) ∧ _
    go_enter Try.func100, Try.ntmps100
    go_upto_region 3 with (fail)
    generalize w.alloc _ = W at *
    go_quiet (fail)
    go_wp2_with fail
    go_ret2
    exact ⟨rfl, HC.out.drewN nq⟩
  · show Calls _ _ _ _ fun e w' => e = .returned (.tuple #[.int .i64 1, .int .u64 (p * q)]) ∧ _
    go_enter Try.func100, Try.ntmps100
    go_upto_region 2 with (fail)
    generalize w.alloc _ = W at *
    go_quiet (fail)
    go_wp2_with fail
    go_ret2
    exact ⟨rfl, HC.out.drewN nq⟩

/-- NewExchange, over accounts that were made since the world w. -/
theorem rxNew {w wr : World} {rb rs n : Nat} {xs : List Int} {F : List Nat} (ha : RAcc wr rb rs n xs) (hF : ∀ z ∈ F, z < wr.heap.size) (hin : rb ∈ F ∧ rs ∈ F) (hw : w.heap.size ≤ wr.heap.size) (l1 : w.heap.size ≤ rb) (l2 : w.heap.size ≤ rs) :
    Calls Try.prog 45 #[.pointer (some ⟨rb, 0, none⟩)] wr fun e w' => ∃ y g, e = .returned (.pointer (some ⟨y, 0, none⟩)) ∧ Rxc w w' y rb rs g n (y :: F) xs [] [] 0 ∧ Chg [] wr w' ∧ wr.heap.size ≤ y := by
  have q1 := hF _ hin.1
  have q2 := hF _ hin.2
  go_enter Try.func45, Try.ntmps45
  go_wp2_with fail
  refine (rNewBook wr (by omega) F hF).mono ?_
  rintro e w1 ⟨g, rfl, hg, hB, c1⟩
  have hb : Blk (w1.alloc (.cells #[.pointer (some ⟨rb, 0, none⟩), .pointer (some ⟨g, 0, none⟩), .int .i64 0] 109)) w1.heap.size 109 [.pointer (some ⟨rb, 0, none⟩), .pointer (some ⟨g, 0, none⟩), .int .i64 0] := Blk.new w1 _ _
  have hc : Chg [] w1 (w1.alloc (.cells #[.pointer (some ⟨rb, 0, none⟩), .pointer (some ⟨g, 0, none⟩), .int .i64 0] 109)) := (Chg.refl _ _).alloc _
  have ha1 := (ha.chg c1 (by simp) (by simp)).chg hc (by simp) (by simp)
  have hB1 := hB.box hc (Nat.le_refl _) (by simp)
  have z1 := c1.size
  have hcc := c1.trans hc
  clear ha hB hc
  go_wp2_with fail
  go_ret
  exact ⟨w1.heap.size, g, rfl, ⟨hb, ha1, hB1, ⟨by simp, by simp [hin.1], by simp [hin.2]⟩, ⟨by omega, by omega⟩, ⟨by omega, l1, l2, by omega⟩, EOk.start n⟩, hcc, z1⟩

set_option maxRecDepth 100000 in
/-- Cancel, of what can not be. -/
theorem rxcancel_no {w wr : World} {y rb rs g n : Nat} {F : List Nat} {xs : List Int} {L M : List Ord} {k : Nat} (h : Rxc w wr y rb rs g n F xs L M k) (hk : k ≤ 1000000) (i : Int) (o : Ord) (ok : Bool) (hP : pickB i L M = (o, ok)) (c : Int) (hne : ok = false ∨ o.client ≠ c) :
    Calls Try.prog 46 #[.pointer (some ⟨y, 0, none⟩), .int .i64 c, .int .i64 i] wr fun e w' => e = .returned (.int .i64 7) ∧ Rxc w w' y rb rs g n F xs L M k ∧ Chg [] wr w' := by
  have HNE := Lib.hid hne
  clear hne
  have HP := Lib.hid hP
  have hlen := h.ok.len
  have HTW := Lib.hid h.ok.fr.two
  clear hP
  go_enter Try.func46, Try.ntmps46
  have x1 := h.hd.at (i := 1) rfl
  go_wp2_with fail
  refine (rbFind_is h.b HTW.out.1 HTW.out.2 i o ok HP.out (by omega) (by omega)).mono ?_
  rintro e w1 ⟨rfl, c1⟩
  have h1 := h.to c1
  have h2 := h1.to ((Chg.refl [] w1).alloc (.cells #[.int .i64 o.id, .int .i64 o.client, .bool o.buy, .int .u64 o.price, .int .u64 o.qty] 152))
  have c2 := c1.alloc (.cells #[.int .i64 o.id, .int .i64 o.client, .bool o.buy, .int .u64 o.price, .int .u64 o.qty] 152)
  have B : Blk (w1.alloc (.cells #[.int .i64 o.id, .int .i64 o.client, .bool o.buy, .int .u64 o.price, .int .u64 o.qty] 152)) w1.heap.size 152 (oc o) := Blk.new w1 (oc o) 152
  have hgb : g ≠ w1.heap.size := by have := h1.b.b.lt; omega
  have y0 := B.at (i := 0) rfl
  have y1 := B.at (i := 1) rfl
  have y2 := B.at (i := 2) rfl
  have y3 := B.at (i := 3) rfl
  have y4 := B.at (i := 4) rfl
  have hz1 := c1.size
  clear h h1 c1 x1
  go_upto_region 2 with (fail)
  generalize w1.heap.size = b7 at *
  generalize w1.alloc _ = W at *
  cases ok
  · go_wp2_with fail
    go_ret
    exact ⟨rfl, h2, c2⟩
  · have hnc : o.client ≠ c := HNE.out.resolve_left (by simp)
    have d1 : (o.client != c) = true := by simp; exact hnc
    have d2 : decide (o.client = c) = false := by simp; exact hnc
    clear hnc
    go_wp2_with fail
    go_ret
    exact ⟨rfl, h2, c2⟩

set_option maxRecDepth 100000 in
/-- Cancel, of what stands. -/
theorem rxcancel_yes {w wr : World} {y rb rs g n : Nat} {F : List Nat} {xs : List Int} {L M : List Ord} {k : Nat} (h : Rxc w wr y rb rs g n F xs L M k) (hk : k ≤ 1000000) (i : Int) (o : Ord) (hP : pickB i L M = (o, true)) (hm : o ∈ L ++ M) (c : Int) (hcc : o.client = c) :
    Calls Try.prog 46 #[.pointer (some ⟨y, 0, none⟩), .int .i64 c, .int .i64 i] wr fun e w' => e = .returned (.int .i64 0) ∧ Rxc w w' y rb rs g n F (aPut n xs c (lockA o) (lockN o)) (sans i L) (remM i L M) k ∧ Chg [g, rs] wr w' := by
  have hin : OIn o := (h.ok.oin o hm).1
  have HIN := Lib.hid hin
  have hlk := hin.lock
  have HRK := Lib.hid (h.ok.remove i)
  subst hcc
  clear hin hm
  have HP := Lib.hid hP
  have hlen := h.ok.len
  have HTW := Lib.hid h.ok.fr.two
  clear hP
  go_enter Try.func46, Try.ntmps46
  have x1 := h.hd.at (i := 1) rfl
  go_wp2_with fail
  refine (rbFind_is h.b HTW.out.1 HTW.out.2 i o true HP.out (by omega) (by omega)).mono ?_
  rintro e w1 ⟨rfl, c1⟩
  have h1 := h.to c1
  have h2 := h1.to ((Chg.refl [] w1).alloc (.cells #[.int .i64 o.id, .int .i64 o.client, .bool o.buy, .int .u64 o.price, .int .u64 o.qty] 152))
  have c2 := c1.alloc (.cells #[.int .i64 o.id, .int .i64 o.client, .bool o.buy, .int .u64 o.price, .int .u64 o.qty] 152)
  have B : Blk (w1.alloc (.cells #[.int .i64 o.id, .int .i64 o.client, .bool o.buy, .int .u64 o.price, .int .u64 o.qty] 152)) w1.heap.size 152 (oc o) := Blk.new w1 (oc o) 152
  have hgb : g ≠ w1.heap.size := by have := h1.b.b.lt; omega
  have y0 := B.at (i := 0) rfl
  have y1 := B.at (i := 1) rfl
  have y2 := B.at (i := 2) rfl
  have y3 := B.at (i := 3) rfl
  have y4 := B.at (i := 4) rfl
  have hz1 := c1.size
  clear h h1 c1 x1
  go_upto_region 2 with (fail)
  generalize w1.heap.size = b7 at *
  generalize w1.alloc _ = W at *
  have d1 : (o.client != o.client) = false := by simp
  have x1 := h2.hd.at (i := 1) rfl
  go_wp2_with fail
  refine (rbRemove_is h2.b HTW.out.1 HTW.out.2 i o true HP.out (by omega) (by omega)).mono ?_
  rintro e w4 ⟨rfl, hB4, c4⟩
  have h4 := h2.book hB4 c4 HRK.out
  have B4 := B.chg c4 (by simp; omega)
  have hc4 := Lib.hid ((c2.mono (R := [g, rs]) (by simp)).trans (c4.mono (by simp)))
  clear h2 hB4 B c2 c4 x1 y0 y1 y2 y3 y4
  have y0 := B4.at (i := 0) rfl
  have y1 := B4.at (i := 1) rfl
  have y2 := B4.at (i := 2) rfl
  have y3 := B4.at (i := 3) rfl
  have y4 := B4.at (i := 4) rfl
  go_wp2_with fail
  refine (needs_any o HIN.out w4).mono ?_
  rintro e w5 ⟨rfl, c5⟩
  have h5 := h4.to c5
  have hc5 := Lib.hid (hc4.out.trans (c5.mono (by simp)))
  clear h4 B4 hc4 c5 y0 y1 y2 y3 y4
  have x0 := h5.hd.at (i := 0) rfl
  obtain ⟨lA, hlA⟩ : ∃ l, lockA o = l := ⟨_, rfl⟩
  obtain ⟨lN, hlN⟩ : ∃ l, lockN o = l := ⟨_, rfl⟩
  rw [hlN] at hlk
  rw [hlA, hlN]
  have HLL := Lib.hid (And.intro hlA hlN)
  clear hlA hlN
  go_wp2_with fail
  refine (rput_is h5.a o.client lA lN _ _ ⟨by omega, by omega⟩ rfl rfl).mono ?_
  rintro e w6 ⟨rfl, hA6, c6⟩
  have h6 := h5.acct hA6 c6
  have hc6 : Chg [g, rs] wr w6 := hc5.out.trans (c6.mono (by simp))
  clear h5 hc5 hA6 c6 x0
  go_wp2_with fail
  go_ret
  exact ⟨rfl, by rw [HLL.out.1, HLL.out.2]; exact h6, hc6⟩
end Go.Proofs.Yteabcpmpcbjicaa
