
import Derived.Test.YteabcpmpcbjicaaExA
import Derived.Test.YteabcpmpcbjicaaRbook
import Derived.Test.YteabcpmpcbjicaaRef6A
import Derived.BigQuiet
import Derived.StillTailTactics
import Derived.Deep.DrawnRows
import Derived.Deep.RegionHeld3
import Derived.Test.YteabcpmpcbjicaaExSA
import Derived.Test.YteabcpmpcbjicaaExB
namespace Go.Proofs.Yteabcpmpcbjicaa
set_option linter.unusedVariables false
open Go Go.Proofs Go.RowKit
attribute [local go_sem ↓] Go.wp_at_zero Go.wp_at_succ

/-! The document's exchange. -/
structure Rxc (w wr : World) (y rb rs g n : Nat) (F : List Nat) (xs : List Int) (L M : List Ord) (k : Nat) : Prop where
  hd : Blk wr y 109 [.pointer (some ⟨rb, 0, none⟩), .pointer (some ⟨g, 0, none⟩), .int .i64 (k : Int)]
  a : RAcc wr rb rs n xs
  b : Rbk wr F g L M
  inF : y ∈ F ∧ rb ∈ F ∧ rs ∈ F
  ne : y ≠ rs ∧ y ≠ rb
  lo : w.heap.size ≤ y ∧ w.heap.size ≤ rb ∧ w.heap.size ≤ rs ∧ w.heap.size ≤ g
  ok : EOk n L M k
theorem Rxc.gne {w wr : World} {y rb rs g n : Nat} {F : List Nat} {xs : List Int} {L M : List Ord} {k : Nat} (h : Rxc w wr y rb rs g n F xs L M k) : g ≠ y ∧ g ≠ rb ∧ g ≠ rs :=
  ⟨fun e => h.b.ne (e ▸ h.inF.1), fun e => h.b.ne (e ▸ h.inF.2.1), fun e => h.b.ne (e ▸ h.inF.2.2)⟩
theorem Rxc.to {w wr w' : World} {y rb rs g n : Nat} {F : List Nat} {xs : List Int} {L M : List Ord} {k : Nat} (h : Rxc w wr y rb rs g n F xs L M k) (c : Chg [] wr w') : Rxc w w' y rb rs g n F xs L M k :=
  ⟨h.hd.chg c (by simp), h.a.chg c (by simp) (by simp), h.b.to c, h.inF, h.ne, h.lo, h.ok⟩
/-- Something else of F is turned. -/
theorem Rxc.far {w wr w' : World} {y rb rs g n : Nat} {F F' S : List Nat} {xs : List Int} {L M : List Ord} {k : Nat} (h : Rxc w wr y rb rs g n F xs L M k) (c : Chg S wr w') (hS : ∀ z ∈ S, z ∈ F) (hy : y ∉ S ∧ rb ∉ S ∧ rs ∉ S) (gr : Grw wr.heap.size F F') (hF' : ∀ z ∈ F', z < w'.heap.size) (hin : y ∈ F' ∧ rb ∈ F' ∧ rs ∈ F') : Rxc w w' y rb rs g n F' xs L M k :=
  ⟨h.hd.chg c hy.1, h.a.chg c hy.2.1 hy.2.2, h.b.far c hS gr hF', hin, h.ne, h.lo, h.ok⟩
theorem Rxc.acct {w wr w' : World} {y rb rs g n : Nat} {F : List Nat} {xs ys : List Int} {L M : List Ord} {k : Nat} (h : Rxc w wr y rb rs g n F xs L M k) (a : RAcc w' rb rs n ys) (c : Chg [rs] wr w') : Rxc w w' y rb rs g n F ys L M k :=
  ⟨h.hd.chg c (by simp; exact h.ne.1), a, h.b.far c (by simp; exact h.inF.2.2) (Grw.refl _ _) (fun z hz => Nat.lt_of_lt_of_le (h.b.fr z hz) c.size), h.inF, h.ne, h.lo, h.ok⟩
theorem Rxc.book {w wr w' : World} {y rb rs g n : Nat} {F : List Nat} {xs : List Int} {L M L' M' : List Ord} {k : Nat} (h : Rxc w wr y rb rs g n F xs L M k) (b : Rbk w' F g L' M') (c : Chg [g] wr w') (ok : EOk n L' M' k) : Rxc w w' y rb rs g n F xs L' M' k := by
  obtain ⟨g1, g2, g3⟩ := h.gne
  exact ⟨h.hd.chg c (by simp; omega), h.a.chg c (by simp; omega) (by simp; omega), b, h.inF, h.ne, h.lo, ok⟩
theorem Rxc.last {w wr : World} {y rb rs g n : Nat} {F : List Nat} {xs : List Int} {L M : List Ord} {k : Nat} (h : Rxc w wr y rb rs g n F xs L M k) : Rxc w (wr.setCell ⟨y, 2, none⟩ (.int .i64 ((k : Int) + 1))) y rb rs g n F xs L M (k + 1) := by
  obtain ⟨n1, n2⟩ := h.ne
  have c : Chg [y] wr (wr.setCell ⟨y, 2, none⟩ (.int .i64 ((k : Int) + 1))) := (Chg.refl _ _).setCell _ _ (by simp)
  exact ⟨by have := h.hd.set 2 (.int .i64 ((k : Int) + 1)); simpa using this, h.a.chg c (by simp; omega) (by simp; omega), h.b.far c (by simp; exact h.inF.1) (Grw.refl _ _) (fun z hz => Nat.lt_of_lt_of_le (h.b.fr z hz) c.size), h.inF, h.ne, h.lo, h.ok.mono (Nat.le_succ k)⟩
theorem Rxc.box {w wr w' : World} {y rb rs g n b : Nat} {F : List Nat} {xs : List Int} {L M : List Ord} {k : Nat} (h : Rxc w wr y rb rs g n F xs L M k) (c : Chg [] wr w') (hb : wr.heap.size ≤ b) (hb' : b < w'.heap.size) : Rxc w w' y rb rs g n (b :: F) xs L M k :=
  ⟨h.hd.chg c (by simp), h.a.chg c (by simp) (by simp), h.b.box c hb hb', ⟨List.mem_cons_of_mem _ h.inF.1, List.mem_cons_of_mem _ h.inF.2.1, List.mem_cons_of_mem _ h.inF.2.2⟩, h.ne, h.lo, h.ok⟩
theorem Rxc.sub {w wr : World} {y rb rs g n b : Nat} {F : List Nat} {xs : List Int} {L M : List Ord} {k : Nat} (h : Rxc w wr y rb rs g n (b :: F) xs L M k) (hin : y ∈ F ∧ rb ∈ F ∧ rs ∈ F) : Rxc w wr y rb rs g n F xs L M k :=
  ⟨h.hd, h.a, h.b.sub (fun z hz => List.mem_cons_of_mem _ hz), hin, h.ne, h.lo, h.ok⟩
theorem rput_is {w : World} {b s n : Nat} {xs : List Int} (h : RAcc w b s n xs) (c a v e0 : Int) (ys : List Int) (hv : U v) (h1 : aPutE n xs c a v = e0) (h2 : aPut n xs c a v = ys) :
    Calls Try.prog 44 #[.pointer (some ⟨b, 0, none⟩), .int .i64 c, .int .i64 a, .int .u64 v] w fun e w' => e = .returned (.int .i64 e0) ∧ RAcc w' b s n ys ∧ Chg [s] w w' := by
  subst h1; subst h2; exact rput_any h c a v hv
theorem rtake_is {w : World} {b s n : Nat} {xs : List Int} (h : RAcc w b s n xs) (c a v e0 : Int) (ys : List Int) (hv : U v) (h1 : aTakeE n xs c a v = e0) (h2 : aTake n xs c a v = ys) :
    Calls Try.prog 101 #[.pointer (some ⟨b, 0, none⟩), .int .i64 c, .int .i64 a, .int .u64 v] w fun e w' => e = .returned (.int .i64 e0) ∧ RAcc w' b s n ys ∧ Chg [s] w w' := by
  subst h1; subst h2; exact rtake_any h c a v hv

/-- needs. -/
theorem needs_any (o : Ord) (h : OIn o) (w : World) : Calls Try.prog 100 #[ov o] w fun e w' => e = .returned (.tuple #[.int .i64 (lockA o), .int .u64 (lockN o)]) ∧ Chg [] w w' := by
  obtain ⟨i, c, b, p, q⟩ := o
  obtain ⟨hp, hq⟩ := h
  dsimp only at hp hq
  have hm := mul_lt hp hq
  have wq : IntKind.u64.wrap (p * q) = p * q := by simp [IntKind.wrap, IntKind.bits, IntKind.signed]; omega
  have hb : Blk (w.alloc (.cells #[.int .i64 i, .int .i64 c, .bool b, .int .u64 p, .int .u64 q] 152)) w.heap.size 152 (oc ⟨i, c, b, p, q⟩) := Blk.new w (oc ⟨i, c, b, p, q⟩) 152
  have hc : Chg [] w (w.alloc (.cells #[.int .i64 i, .int .i64 c, .bool b, .int .u64 p, .int .u64 q] 152)) := (Chg.refl _ _).alloc _
  have y2 := hb.at (i := 2) rfl
  have y3 := hb.at (i := 3) rfl
  have y4 := hb.at (i := 4) rfl
  have HC := Lib.hid hc
  clear hb hc
  cases b
  · show Calls _ _ _ _ fun e w' => e = .returned (.tuple #[.int .i64 0, .int .u64 q]) ∧ _
    go_enter Try.func100, Try.ntmps100
    go_upto_region 3 with (fail)
    generalize w.alloc _ = W at *
    go_quiet (fail)
    go_wp2_with fail
    go_ret2
    exact ⟨rfl, HC.out.drewN nq⟩
  · show Calls _ _ _ _ fun e w' => e = .returned (.tuple #[.int .i64 1, .int .u64 (p * q)]) ∧ _
    go_enter Try.func100, Try.ntmps100
    go_upto_region 2 with (fail)
    generalize w.alloc _ = W at *
    go_quiet (fail)
    go_wp2_with fail
    go_ret2
    exact ⟨rfl, HC.out.drewN nq⟩

/-- NewExchange, over accounts that were made since the world w. -/
theorem rxNew {w wr : World} {rb rs n : Nat} {xs : List Int} {F : List Nat} (ha : RAcc wr rb rs n xs) (hF : ∀ z ∈ F, z < wr.heap.size) (hin : rb ∈ F ∧ rs ∈ F) (hw : w.heap.size ≤ wr.heap.size) (l1 : w.heap.size ≤ rb) (l2 : w.heap.size ≤ rs) :
    Calls Try.prog 45 #[.pointer (some ⟨rb, 0, none⟩)] wr fun e w' => ∃ y g, e = .returned (.pointer (some ⟨y, 0, none⟩)) ∧ Rxc w w' y rb rs g n (y :: F) xs [] [] 0 ∧ Chg [] wr w' ∧ wr.heap.size ≤ y := by
  have q1 := hF _ hin.1
  have q2 := hF _ hin.2
  go_enter Try.func45, Try.ntmps45
  go_wp2_with fail
  refine (rNewBook wr (by omega) F hF).mono ?_
  rintro e w1 ⟨g, rfl, hg, hB, c1⟩
  have hb : Blk (w1.alloc (.cells #[.pointer (some ⟨rb, 0, none⟩), .pointer (some ⟨g, 0, none⟩), .int .i64 0] 109)) w1.heap.size 109 [.pointer (some ⟨rb, 0, none⟩), .pointer (some ⟨g, 0, none⟩), .int .i64 0] := Blk.new w1 _ _
  have hc : Chg [] w1 (w1.alloc (.cells #[.pointer (some ⟨rb, 0, none⟩), .pointer (some ⟨g, 0, none⟩), .int .i64 0] 109)) := (Chg.refl _ _).alloc _
  have ha1 := (ha.chg c1 (by simp) (by simp)).chg hc (by simp) (by simp)
  have hB1 := hB.box hc (Nat.le_refl _) (by simp)
  have z1 := c1.size
  have hcc := c1.trans hc
  clear ha hB hc
  go_wp2_with fail
  go_ret
  exact ⟨w1.heap.size, g, rfl, ⟨hb, ha1, hB1, ⟨by simp, by simp [hin.1], by simp [hin.2]⟩, ⟨by omega, by omega⟩, ⟨by omega, l1, l2, by omega⟩, EOk.start n⟩, hcc, z1⟩

set_option maxRecDepth 100000 in
/-- Cancel, of what can not be. -/
theorem rxcancel_no {w wr : World} {y rb rs g n : Nat} {F : List Nat} {xs : List Int} {L M : List Ord} {k : Nat} (h : Rxc w wr y rb rs g n F xs L M k) (hk : k ≤ 1000000) (i : Int) (o : Ord) (ok : Bool) (hP : pickB i L M = (o, ok)) (c : Int) (hne : ok = false ∨ o.client ≠ c) :
    Calls Try.prog 46 #[.pointer (some ⟨y, 0, none⟩), .int .i64 c, .int .i64 i] wr fun e w' => e = .returned (.int .i64 7) ∧ Rxc w w' y rb rs g n F xs L M k ∧ Chg [] wr w' := by
  have HNE := Lib.hid hne
  clear hne
  have HP := Lib.hid hP
  have hlen := h.ok.len
  have HTW := Lib.hid h.ok.fr.two
  clear hP
  go_enter Try.func46, Try.ntmps46
  have x1 := h.hd.at (i := 1) rfl
  go_wp2_with fail
  refine (rbFind_is h.b HTW.out.1 HTW.out.2 i o ok HP.out (by omega) (by omega)).mono ?_
  rintro e w1 ⟨rfl, c1⟩
  have h1 := h.to c1
  have h2 := h1.to ((Chg.refl [] w1).alloc (.cells #[.int .i64 o.id, .int .i64 o.client, .bool o.buy, .int .u64 o.price, .int .u64 o.qty] 152))
  have c2 := c1.alloc (.cells #[.int .i64 o.id, .int .i64 o.client, .bool o.buy, .int .u64 o.price, .int .u64 o.qty] 152)
  have B : Blk (w1.alloc (.cells #[.int .i64 o.id, .int .i64 o.client, .bool o.buy, .int .u64 o.price, .int .u64 o.qty] 152)) w1.heap.size 152 (oc o) := Blk.new w1 (oc o) 152
  have hgb : g ≠ w1.heap.size := by have := h1.b.b.lt; omega
  have y0 := B.at (i := 0) rfl
  have y1 := B.at (i := 1) rfl
  have y2 := B.at (i := 2) rfl
  have y3 := B.at (i := 3) rfl
  have y4 := B.at (i := 4) rfl
  have hz1 := c1.size
  clear h h1 c1 x1
  go_upto_region 2 with (fail)
  generalize w1.heap.size = b7 at *
  generalize w1.alloc _ = W at *
  cases ok
  · go_wp2_with fail
    go_ret
    exact ⟨rfl, h2, c2⟩
  · have hnc : o.client ≠ c := HNE.out.resolve_left (by simp)
    have d1 : (o.client != c) = true := by simp; exact hnc
    have d2 : decide (o.client = c) = false := by simp; exact hnc
    clear hnc
    go_wp2_with fail
    go_ret
    exact ⟨rfl, h2, c2⟩

set_option maxRecDepth 100000 in
/-- Cancel, of what stands. -/
theorem rxcancel_yes {w wr : World} {y rb rs g n : Nat} {F : List Nat} {xs : List Int} {L M : List Ord} {k : Nat} (h : Rxc w wr y rb rs g n F xs L M k) (hk : k ≤ 1000000) (i : Int) (o : Ord) (hP : pickB i L M = (o, true)) (hm : o ∈ L ++ M) (c : Int) (hcc : o.client = c) :
    Calls Try.prog 46 #[.pointer (some ⟨y, 0, none⟩), .int .i64 c, .int .i64 i] wr fun e w' => e = .returned (.int .i64 0) ∧ Rxc w w' y rb rs g n F (aPut n xs c (lockA o) (lockN o)) (sans i L) (remM i L M) k ∧ Chg [g, rs] wr w' := by
  have hin : OIn o := (h.ok.oin o hm).1
  have HIN := Lib.hid hin
  have hlk := hin.lock
  have HRK := Lib.hid (h.ok.remove i)
  subst hcc
  clear hin hm
  have HP := Lib.hid hP
  have hlen := h.ok.len
  have HTW := Lib.hid h.ok.fr.two
  clear hP
  go_enter Try.func46, Try.ntmps46
  have x1 := h.hd.at (i := 1) rfl
  go_wp2_with fail
  refine (rbFind_is h.b HTW.out.1 HTW.out.2 i o true HP.out (by omega) (by omega)).mono ?_
  rintro e w1 ⟨rfl, c1⟩
  have h1 := h.to c1
  have h2 := h1.to ((Chg.refl [] w1).alloc (.cells #[.int .i64 o.id, .int .i64 o.client, .bool o.buy, .int .u64 o.price, .int .u64 o.qty] 152))
  have c2 := c1.alloc (.cells #[.int .i64 o.id, .int .i64 o.client, .bool o.buy, .int .u64 o.price, .int .u64 o.qty] 152)
  have B : Blk (w1.alloc (.cells #[.int .i64 o.id, .int .i64 o.client, .bool o.buy, .int .u64 o.price, .int .u64 o.qty] 152)) w1.heap.size 152 (oc o) := Blk.new w1 (oc o) 152
  have hgb : g ≠ w1.heap.size := by have := h1.b.b.lt; omega
  have y0 := B.at (i := 0) rfl
  have y1 := B.at (i := 1) rfl
  have y2 := B.at (i := 2) rfl
  have y3 := B.at (i := 3) rfl
  have y4 := B.at (i := 4) rfl
  have hz1 := c1.size
  clear h h1 c1 x1
  go_upto_region 2 with (fail)
  generalize w1.heap.size = b7 at *
  generalize w1.alloc _ = W at *
  have d1 : (o.client != o.client) = false := by simp
  have x1 := h2.hd.at (i := 1) rfl
  go_wp2_with fail
  refine (rbRemove_is h2.b HTW.out.1 HTW.out.2 i o true HP.out (by omega) (by omega)).mono ?_
  rintro e w4 ⟨rfl, hB4, c4⟩
  have h4 := h2.book hB4 c4 HRK.out
  have B4 := B.chg c4 (by simp; omega)
  have hc4 := Lib.hid ((c2.mono (R := [g, rs]) (by simp)).trans (c4.mono (by simp)))
  clear h2 hB4 B c2 c4 x1 y0 y1 y2 y3 y4
  have y0 := B4.at (i := 0) rfl
  have y1 := B4.at (i := 1) rfl
  have y2 := B4.at (i := 2) rfl
  have y3 := B4.at (i := 3) rfl
  have y4 := B4.at (i := 4) rfl
  go_wp2_with fail
  refine (needs_any o HIN.out w4).mono ?_
  rintro e w5 ⟨rfl, c5⟩
  have h5 := h4.to c5
  have hc5 := Lib.hid (hc4.out.trans (c5.mono (by simp)))
  clear h4 B4 hc4 c5 y0 y1 y2 y3 y4
  have x0 := h5.hd.at (i := 0) rfl
  obtain ⟨lA, hlA⟩ : ∃ l, lockA o = l := ⟨_, rfl⟩
  obtain ⟨lN, hlN⟩ : ∃ l, lockN o = l := ⟨_, rfl⟩
  rw [hlN] at hlk
  rw [hlA, hlN]
  have HLL := Lib.hid (And.intro hlA hlN)
  clear hlA hlN
  go_wp2_with fail
  refine (rput_is h5.a o.client lA lN _ _ ⟨by omega, by omega⟩ rfl rfl).mono ?_
  rintro e w6 ⟨rfl, hA6, c6⟩
  have h6 := h5.acct hA6 c6
  have hc6 : Chg [g, rs] wr w6 := hc5.out.trans (c6.mono (by simp))
  clear h5 hc5 hA6 c6 x0
  go_wp2_with fail
  go_ret
  exact ⟨rfl, by rw [HLL.out.1, HLL.out.2]; exact h6, hc6⟩
end Go.Proofs.Yteabcpmpcbjicaa

namespace Go.Proofs.Yteabcpmpcbjicaa
set_option linter.unusedVariables false
open Go Go.Proofs Go.RowKit
attribute [local go_sem ↓] Go.wp_at_zero Go.wp_at_succ

set_option maxRecDepth 1000000 in
set_option maxHeartbeats 8000000 in
theorem place_reg {Q : Exit → Act → World → Prop} {u1 u2 u3 u4 u5 u6 u7 u8 u9 u10 u11 u12 u13 u14 u16 u17 u18 u19 u20 u21 u22 u23 u24 u25 u26 u27 u28 u29 u30 u31 u32 u33 u34 u35 u36 u37 u38 u39 u40 u41 u42 u43 u44 u45 u46 u47 u48 u49 u50 u51 u52 u53 u54 u55 u56 u57 u58 u59 u60 u61 u62 u63 u64 u65 u66 u67 u68 u69 u70 u71 u72 u73 u74 u75 u76 u77 u78 u79 u80 u81 u82 u83 u84 u85 u86 u87 u88 u89 u90 u91 u92 u93 u94 u95 u96 u97 u98 u99 u100 u101 u102 u103 u104 u105 u106 u107 u108 u109 u110 u111 u112 u113 u114 u115 u116 u117 u118 u119 u120 u121 u122 u123 u124 u125 u126 u127 u128 u129 u130 u131 u132 u133 u134 u135 u136 u137 u138 u139 u140 u141 u142 u143 u144 u145 u146 u147 u148 u149 u150 u151 u152 u153 u154 u155 u156 u157 u158 u159 u160 u161 u162 u163 u164 u165 u166 u167 : Value} (hP : ∀ c a d v w, Q (.panic c) (Act.put a d v) w → Q (.panic c) a w) {y g go nT : Nat} {oi c p q lft : Int} {b : Bool} {W : World} {PP : World → Option Addr → Nat → Prop} (hM : Calls Try.prog 102 #[.pointer (some ⟨g, 0, none⟩), ov ⟨oi, c, b, p, q⟩] W.drew fun e w' => ∃ a cap, e = .returned (.tuple #[.slice a nT cap, .int .u64 lft]) ∧ PP w' a cap) (HSP : Hid (∀ w' a d, PP w' a d → w'.cell? ⟨y, 1, none⟩ = some (.pointer (some ⟨g, 0, none⟩)) ∧ w'.cell? ⟨go, 0, none⟩ = some (.int .i64 oi) ∧ w'.cell? ⟨go, 1, none⟩ = some (.int .i64 c) ∧ w'.cell? ⟨go, 2, none⟩ = some (.bool b) ∧ w'.cell? ⟨go, 3, none⟩ = some (.int .u64 p) ∧ w'.cell? ⟨go, 4, none⟩ = some (.int .u64 q))) (x1 : W.cell? ⟨y, 1, none⟩ = some (.pointer (some ⟨g, 0, none⟩))) (y0 : W.cell? ⟨go, 0, none⟩ = some (.int .i64 oi)) (y1 : W.cell? ⟨go, 1, none⟩ = some (.int .i64 c)) (y2 : W.cell? ⟨go, 2, none⟩ = some (.bool b)) (y3 : W.cell? ⟨go, 3, none⟩ = some (.int .u64 p)) (y4 : W.cell? ⟨go, 4, none⟩ = some (.int .u64 q))
    (hQ : ∀ (w7 : World) (a7 : Option Addr) (d7 : Nat) (_ : PP w7 a7 d7) (x86 x87 x88 x89 x90 x91 x92 x93 x94 : Value), Q .normal ⟨#[.pointer (some ⟨y, 0, none⟩), u1, u2, u3, u4, u5, u6, u7, u8, u9, u10, u11, u12, u13, u14, .pointer (some ⟨go, 0, none⟩), u16, u17, u18, .slice a7 nT d7, .int .u64 lft, u21, u22, u23, u24, u25, u26, u27, u28, u29, u30, u31, u32, u33, u34, u35, u36, u37, u38, u39, u40, u41, u42, u43, u44, u45, u46, u47, u48, u49, u50, u51, u52, u53, u54, u55, u56, u57, u58, u59, u60, u61, u62, u63, u64, u65, u66, u67, u68, u69, u70, u71, u72, u73, u74, u75, u76, u77, u78, u79, u80, u81, u82, u83, u84, u85, x86, x87, x88, x89, x90, x91, x92, x93, x94, u95, u96, u97, u98, u99, u100, u101, u102, u103, u104, u105, u106, u107, u108, u109, u110, u111, u112, u113, u114, u115, u116, u117, u118, u119, u120, u121, u122, u123, u124, u125, u126, u127, u128, u129, u130, u131, u132, u133, u134, u135, u136, u137, u138, u139, u140, u141, u142, u143, u144, u145, u146, u147, u148, u149, u150, u151, u152, u153, u154, u155, u156, u157, u158, u159, u160, u161, u162, u163, u164, u165, u166, u167], []⟩ w7) :
    Code.wp Try.prog (regionOf Try.f47 11) Q ⟨#[.pointer (some ⟨y, 0, none⟩), u1, u2, u3, u4, u5, u6, u7, u8, u9, u10, u11, u12, u13, u14, .pointer (some ⟨go, 0, none⟩), u16, u17, u18, u19, u20, u21, u22, u23, u24, u25, u26, u27, u28, u29, u30, u31, u32, u33, u34, u35, u36, u37, u38, u39, u40, u41, u42, u43, u44, u45, u46, u47, u48, u49, u50, u51, u52, u53, u54, u55, u56, u57, u58, u59, u60, u61, u62, u63, u64, u65, u66, u67, u68, u69, u70, u71, u72, u73, u74, u75, u76, u77, u78, u79, u80, u81, u82, u83, u84, u85, u86, u87, u88, u89, u90, u91, u92, u93, u94, u95, u96, u97, u98, u99, u100, u101, u102, u103, u104, u105, u106, u107, u108, u109, u110, u111, u112, u113, u114, u115, u116, u117, u118, u119, u120, u121, u122, u123, u124, u125, u126, u127, u128, u129, u130, u131, u132, u133, u134, u135, u136, u137, u138, u139, u140, u141, u142, u143, u144, u145, u146, u147, u148, u149, u150, u151, u152, u153, u154, u155, u156, u157, u158, u159, u160, u161, u162, u163, u164, u165, u166, u167], []⟩ W := by
  conv => arg 2; whnf
  refine wp_region_held_drew (S := (fun w' => w'.cell? ⟨y, 1, none⟩ = some (.pointer (some ⟨g, 0, none⟩)) ∧ w'.cell? ⟨go, 0, none⟩ = some (.int .i64 oi) ∧ w'.cell? ⟨go, 1, none⟩ = some (.int .i64 c) ∧ w'.cell? ⟨go, 2, none⟩ = some (.bool b) ∧ w'.cell? ⟨go, 3, none⟩ = some (.int .u64 p) ∧ w'.cell? ⟨go, 4, none⟩ = some (.int .u64 q))) (by kernel_rfl) ⟨x1, y0, y1, y2, y3, y4⟩ (fun _ => ?_)
  refine wpAnyH_take (i := 0) (v := ?_) rfl (by kernel_rfl) (by kernel_rfl) (by kernel_rfl) (fun c a w h => hP c a _ _ w h) (Or.inl ⟨by rfl, ?_⟩) ⟨x1, y0, y1, y2, y3, y4⟩ ?_
  rotate_left
  · (intro w hSw; (try dsimp only at hSw); go_simp; (try (with_reducible rfl)))
  change wpAnyH _ _ _ _ _ _ _ (Act.put _ (some 87) _) _
  simp only [Act.put, List.setIfInBounds_toArray, List.set_cons_succ, List.set_cons_zero]
  refine wpAnyH_take (i := 1) (v := ?_) rfl (by kernel_rfl) (by kernel_rfl) (by kernel_rfl) (fun c a w h => hP c a _ _ w h) (Or.inl ⟨by rfl, ?_⟩) ⟨x1, y0, y1, y2, y3, y4⟩ ?_
  rotate_left
  · (intro w hSw; (try dsimp only at hSw); go_simp; (try (with_reducible rfl)))
  change wpAnyH _ _ _ _ _ _ _ (Act.put _ (some 88) _) _
  simp only [Act.put, List.setIfInBounds_toArray, List.set_cons_succ, List.set_cons_zero]
  refine wpAnyH_take (i := 2) (v := ?_) rfl (by kernel_rfl) (by kernel_rfl) (by kernel_rfl) (fun c a w h => hP c a _ _ w h) (Or.inl ⟨by rfl, ?_⟩) ⟨x1, y0, y1, y2, y3, y4⟩ ?_
  rotate_left
  · (intro w hSw; (try dsimp only at hSw); go_simp; (try (with_reducible rfl)))
  change wpAnyH _ _ _ _ _ _ _ (Act.put _ (some 89) _) _
  simp only [Act.put, List.setIfInBounds_toArray, List.set_cons_succ, List.set_cons_zero]
  refine wpAnyH_take (i := 3) (v := ?_) rfl (by kernel_rfl) (by kernel_rfl) (by kernel_rfl) (fun c a w h => hP c a _ _ w h) (Or.inl ⟨by rfl, ?_⟩) ⟨x1, y0, y1, y2, y3, y4⟩ ?_
  rotate_left
  · (intro w hSw; (try dsimp only at hSw); go_simp; (try (with_reducible rfl)))
  change wpAnyH _ _ _ _ _ _ _ (Act.put _ (some 90) _) _
  simp only [Act.put, List.setIfInBounds_toArray, List.set_cons_succ, List.set_cons_zero]
  refine wpAnyH_take (i := 4) (v := ?_) rfl (by kernel_rfl) (by kernel_rfl) (by kernel_rfl) (fun c a w h => hP c a _ _ w h) (Or.inl ⟨by rfl, ?_⟩) ⟨x1, y0, y1, y2, y3, y4⟩ ?_
  rotate_left
  · (intro w hSw; (try dsimp only at hSw); go_simp; (try (with_reducible rfl)))
  change wpAnyH _ _ _ _ _ _ _ (Act.put _ (some 91) _) _
  simp only [Act.put, List.setIfInBounds_toArray, List.set_cons_succ, List.set_cons_zero]
  refine wpAnyH_ready (rs := [5]) (by kernel_rfl) (by simp) (AllReadyH.cons rfl (fun K hK => ?_) AllReadyH.nil)
  go_simp
  refine hM.mono ?_
  rintro e w7 ⟨a7, d7, rfl, hP7⟩
  have HZ := HSP.out _ _ _ hP7
  go_wp2_with fail
  refine hK.out _ _ HZ (fun hHeld => ?_)
  clear hK K
  refine wpAnyH_take (i := 6) (v := ?_) rfl (by kernel_rfl) (by kernel_rfl) (by kernel_rfl) (fun c a w h => hP c a _ _ w h) (Or.inl ⟨by rfl, ?_⟩) HZ ?_
  rotate_left
  · (intro w hSw; (try dsimp only at hSw); go_simp; (try (with_reducible rfl)))
  change wpAnyH _ _ _ _ _ _ _ (Act.put _ (some 86) _) _
  simp only [Act.put, List.setIfInBounds_toArray, List.set_cons_succ, List.set_cons_zero]
  refine wpAnyH_take (i := 7) (v := ?_) rfl (by kernel_rfl) (by kernel_rfl) (by kernel_rfl) (fun c a w h => hP c a _ _ w h) (Or.inl ⟨by rfl, ?_⟩) HZ ?_
  rotate_left
  · (intro w hSw; (try dsimp only at hSw); go_simp; (try (with_reducible rfl)))
  change wpAnyH _ _ _ _ _ _ _ (Act.put _ (some 93) _) _
  simp only [Act.put, List.setIfInBounds_toArray, List.set_cons_succ, List.set_cons_zero]
  refine wpAnyH_take (i := 8) (v := ?_) rfl (by kernel_rfl) (by kernel_rfl) (by kernel_rfl) (fun c a w h => hP c a _ _ w h) (Or.inl ⟨by rfl, ?_⟩) HZ ?_
  rotate_left
  · (intro w hSw; (try dsimp only at hSw); go_simp; (try (with_reducible rfl)))
  change wpAnyH _ _ _ _ _ _ _ (Act.put _ (some 94) _) _
  simp only [Act.put, List.setIfInBounds_toArray, List.set_cons_succ, List.set_cons_zero]
  refine wpAnyH_take (i := 9) (v := ?_) rfl (by kernel_rfl) (by kernel_rfl) (by kernel_rfl) (fun c a w h => hP c a _ _ w h) (Or.inl ⟨by rfl, ?_⟩) HZ ?_
  rotate_left
  · (intro w hSw; (try dsimp only at hSw); go_simp; (try (with_reducible rfl)))
  change wpAnyH _ _ _ _ _ _ _ (Act.put _ (some 19) _) _
  simp only [Act.put, List.setIfInBounds_toArray, List.set_cons_succ, List.set_cons_zero]
  refine wpAnyH_take (i := 10) (v := ?_) rfl (by kernel_rfl) (by kernel_rfl) (by kernel_rfl) (fun c a w h => hP c a _ _ w h) (Or.inl ⟨by rfl, ?_⟩) HZ ?_
  rotate_left
  · (intro w hSw; (try dsimp only at hSw); go_simp; (try (with_reducible rfl)))
  change wpAnyH _ _ _ _ _ _ _ (Act.put _ (some 20) _) _
  simp only [Act.put, List.setIfInBounds_toArray, List.set_cons_succ, List.set_cons_zero]
  refine wpAnyH_done (by kernel_rfl) ?_ _
  exact hQ _ _ _ hP7 _ _ _ _ _ _ _ _ _
end Go.Proofs.Yteabcpmpcbjicaa

namespace Go.Proofs.Yteabcpmpcbjicaa
set_option linter.unusedVariables false
open Go Go.Proofs Go.RowKit
attribute [local go_sem ↓] Go.wp_at_zero Go.wp_at_succ

set_option maxRecDepth 100000 in
set_option maxHeartbeats 8000000 in
theorem rxplace_limit {w wr : World} {y rb rs g n : Nat} {F : List Nat} {xs : List Int} {L M : List Ord} {k : Nat} (h : Rxc w wr y rb rs g n F xs L M k) (hk : k < 1000000) (hgl : g < wr.heap.size) (c : Int) (b : Bool) (p q : Int) (hp : U p) (hq : U q) (hc : I c) (hOKS : ∀ z ∈ L ++ M, z.Ok) (hE : mtE n xs c b p q = 0)
    (xs1 xs2 : List Int) (T : List Trd) (lft : Int) (L' M' : List Ord) (hx1 : aTake n xs c (lockA ⟨(k : Int) + 1, c, b, p, q⟩) (lockN ⟨(k : Int) + 1, c, b, p, q⟩) = xs1) (hT : (mres ⟨(k : Int) + 1, c, b, p, q⟩ L M).1 = T ∧ (mres ⟨(k : Int) + 1, c, b, p, q⟩ L M).2.1 = lft) (hx2 : T.foldl (payL n ⟨(k : Int) + 1, c, b, p, q⟩) xs1 = xs2)
    (hL : mL ⟨(k : Int) + 1, c, b, p, q⟩ L M = L') (hM : mM ⟨(k : Int) + 1, c, b, p, q⟩ L M = M') :
    Calls Try.prog 47 #[.pointer (some ⟨y, 0, none⟩), .int .i64 c, .bool b, .int .u64 p, .int .u64 q, .bool true] wr fun e w' => ∃ a cap, e = .returned (.tuple #[.int .i64 ((k : Int) + 1), .slice a T.length cap, .int .i64 0]) ∧ NewF tc w' wr.heap.size 85 a T ∧ Rxc w w' y rb rs g n F xs2 (restL ⟨(k : Int) + 1, c, b, p, lft⟩ L') (restM ⟨(k : Int) + 1, c, b, p, lft⟩ M') (k + 1) ∧ Chg [y, g, rs] wr w' := by
  obtain ⟨hh, hw, hT0⟩ := mtE_zero hE ((k : Int) + 1)
  obtain ⟨hin, p1, q1⟩ := wIn_o hw ((k : Int) + 1) c b
  have hlk := hin.lock
  have hinp := hin.p
  have hinq := hin.q
  dsimp only at hinp hinq
  obtain ⟨hc0, hcl⟩ : 0 ≤ c ∧ c < (n : Int) := by
    obtain ⟨cn, hcn, hcl⟩ := aHas_nat hh
    omega
  have HTE := Lib.hid hT0
  have HIN := Lib.hid hin
  have HX1 := Lib.hid hx1
  have HX2 := Lib.hid hx2
  have HT := Lib.hid hT
  have HTI := Lib.hid (h.ok.trades hin)
  have HFA := Lib.hid (h.ok.fair ⟨(k : Int) + 1, c, b, p, q⟩)
  have hlf := mres_left h.ok hin
  rw [hT.2] at hlf
  have hv1 : 0 ≤ lft := hlf.1
  have hv2 : lft ≤ q := hlf.2
  have hv3 : lft < 18446744073709551616 := by omega
  have HU2 : Hid (U lft) := ⟨hv1, hv3⟩
  have HLF := Lib.hid hlf
  have hok := h.ok.met ⟨(k : Int) + 1, c, b, p, q⟩
  have HALL := Lib.hid (fun z hz => (h.ok.oin z hz))
  rw [hL, hM] at hok
  have HOK0 := Lib.hid hok
  have HOK := Lib.hid (hok.mono (Nat.le_succ k))
  have HLM := Lib.hid (And.intro hL hM)
  have hlen := h.ok.len
  have hlen2 := hok.len
  have hTl := mres_len ⟨(k : Int) + 1, c, b, p, q⟩ L M
  rw [hT.1] at hTl
  obtain ⟨nT, hnT⟩ : ∃ m, T.length = m := ⟨_, rfl⟩
  rw [hnT] at hTl ⊢
  have HNT := Lib.hid hnT
  have HOO : Hid ((⟨(k : Int) + 1, c, b, p, q⟩ : Ord).Ok) := ordOk _ _ _ _ _ ⟨by omega, by omega⟩ hc ⟨hp.1, hp.2⟩ ⟨hq.1, hq.2⟩
  have HOKS := Lib.hid hOKS
  have HHAS := Lib.hid hh
  obtain ⟨cap, hcap, -, hhd⟩ := h.a.head
  have x0 := h.hd.at (i := 0) rfl
  have x2 := h.hd.at (i := 2) rfl
  have r0 := hhd.at (i := 0) rfl
  have d1 : decide (c < 0) = false := by simp; omega
  have d2 : decide ((n : Int) ≤ c) = false := by simp; omega
  have d3 : (p == 0) = false := by simp; omega
  have d4 : decide (1048576 < p) = false := by simp; omega
  have d5 : (q == 0) = false := by simp; omega
  have d6 : decide (1048576 < q) = false := by simp; omega
  have wk : IntKind.i64.wrap ((k : Int) + 1) = (k : Int) + 1 := IntWalk.i64_in _ (by omega)
  have hbo : Blk (wr.alloc (.cells #[.int .i64 ((k : Int) + 1), .int .i64 c, .bool b, .int .u64 p, .int .u64 q] 152)) wr.heap.size 152 (oc ⟨(k : Int) + 1, c, b, p, q⟩) := Blk.new wr (oc ⟨(k : Int) + 1, c, b, p, q⟩) 152
  have h1 := h.box ((Chg.refl [] wr).alloc (.cells #[.int .i64 ((k : Int) + 1), .int .i64 c, .bool b, .int .u64 p, .int .u64 q] 152)) (Nat.le_refl _) (by simp)
  have HINF := Lib.hid h.inF
  have HOKR : Hid (EOk n (restL ⟨(k : Int) + 1, c, b, p, lft⟩ L') (restM ⟨(k : Int) + 1, c, b, p, lft⟩ M') (k + 1)) := HOK0.out.rest rfl (hin.lt lft hlf) hh
  have HIN2 : Hid (OIn ⟨(k : Int) + 1, c, b, p, lft⟩) := hin.lt lft hlf
  have lk2 := HIN2.out.lock
  have hc1 : Chg [] wr (wr.alloc (.cells #[.int .i64 ((k : Int) + 1), .int .i64 c, .bool b, .int .u64 p, .int .u64 q] 152)) := (Chg.refl _ _).alloc _
  have HC1 := Lib.hid hc1
  obtain ⟨n1, n2⟩ := h.ne
  obtain ⟨g1, g2, g3⟩ := h.gne
  have ly := h.hd.lt
  have lrs : rs < wr.heap.size := h.a.row.lt
  have lrb : rb < wr.heap.size := hhd.lt
  clear h hc1 hE hh hw hT0 hin hx1 hx2 hT hlf hok hL hM hnT hcap hhd hOKS
  go_enter Try.func47, Try.ntmps47
  go_upto_region 6 with (fail)
  clear x0 x2 r0 d1 d2 d3 d4 d5 d6
  obtain ⟨go, hgo⟩ : ∃ g, wr.heap.size = g := ⟨_, rfl⟩
  rw [hgo] at hbo h1 ly lrb lrs hgl ⊢
  have HG := Lib.hid hgo
  clear hgo
  generalize wr.alloc _ = W1 at *
  have y0 := hbo.at (i := 0) rfl
  have y1 := hbo.at (i := 1) rfl
  have y2 := hbo.at (i := 2) rfl
  have y3 := hbo.at (i := 3) rfl
  have y4 := hbo.at (i := 4) rfl
  go_wp2_with fail
  refine (needs_any ⟨(k : Int) + 1, c, b, p, q⟩ HIN.out W1).mono ?_
  rintro e w4 ⟨rfl, c4⟩
  have h2 := h1.to c4
  have hb2 := hbo.chg c4 (by simp)
  have HC2 := Lib.hid (HC1.out.trans c4)
  clear h1 HC1 c4 y0 y1 y2 y3 y4 hbo
  have x0 := h2.hd.at (i := 0) rfl
  obtain ⟨lA, hlA⟩ : ∃ l, lockA ⟨(k : Int) + 1, c, b, p, q⟩ = l := ⟨_, rfl⟩
  obtain ⟨lN, hlN⟩ : ∃ l, lockN ⟨(k : Int) + 1, c, b, p, q⟩ = l := ⟨_, rfl⟩
  rw [hlA, hlN] at HTE HX1
  rw [hlN] at hlk
  rw [hlA, hlN]
  clear hlA hlN
  go_wp2_with fail
  refine (rtake_is h2.a c lA lN 0 xs1 ⟨by omega, by omega⟩ HTE.out HX1.out).mono ?_
  rintro e w5 ⟨rfl, ha5, c5⟩
  have h3 := h2.acct ha5 c5
  have hb3 := hb2.chg c5 (by simp; omega)
  have HC3 : Hid (Chg [y, g, rs] wr w5) := (HC2.out.mono (by simp)).trans (c5.mono (by simp))
  clear h2 hb2 HC2 c5 x0 ha5
  have x2 := h3.hd.at (i := 2) rfl
  have fx2 := h3.hd.free 2
  have h4 := h3.last
  have c4 : Chg [y] w5 (w5.setCell ⟨y, 2, none⟩ (.int .i64 ((k : Int) + 1))) := (Chg.refl _ _).setCell _ _ (by simp)
  have hb4 := hb3.chg c4 (by simp; omega)
  have HC4 : Hid (Chg [y, g, rs] wr (w5.setCell ⟨y, 2, none⟩ (.int .i64 ((k : Int) + 1)))) := HC3.out.trans (c4.mono (by simp))
  clear h3 hb3 HC3 c4
  go_upto_region 11 with (fail)
  clear x2 fx2
  generalize w5.setCell _ _ = W6 at *
  have x1 := h4.hd.at (i := 1) rfl
  have y0 := hb4.at (i := 0) rfl
  have y1 := hb4.at (i := 1) rfl
  have y2 := hb4.at (i := 2) rfl
  have y3 := hb4.at (i := 3) rfl
  have y4 := hb4.at (i := 4) rfl
  have hM := rbMatch_is (h4.to (Chg.refl [] W6).drew).b ⟨(k : Int) + 1, c, b, p, q⟩ T lft HT.out HOO.out HOKS.out (by omega) (by omega)
  rw [HNT.out, HLM.out.1, HLM.out.2] at hM
  have hgo2 : go ∉ [g] := by simp; omega
  have hyg : y ∉ [g] := by simp; omega
  refine place_reg (by intro c a d v w h; cases d <;> exact h) hM (fun w' a d h => ⟨h.2.2.cell x1 hyg, h.2.2.cell y0 hgo2, h.2.2.cell y1 hgo2, h.2.2.cell y2 hgo2, h.2.2.cell y3 hgo2, h.2.2.cell y4 hgo2⟩) x1 y0 y1 y2 y3 y4 ?_
  rintro w7 a7 d7 ⟨hN7, hB7, c7⟩
  intros
  have hVl : go < W6.drew.heap.size := hb4.lt
  have h7 := (h4.to (Chg.refl [] W6).drew).book hB7 c7 HOK.out
  have hb7 := hb4.drew.chg c7 hgo2
  have HC7 : Hid (Chg [y, g, rs] wr w7) := HC4.out.drew.trans (c7.mono (by simp))
  clear hM x1 y0 y1 y2 y3 y4 h4 hb4 HC4 hB7 c7
  generalize W6.drew.heap.size = vz at *
  go_wp2_with fail
  go_loopw [21] (fun i wx => ∃ j : Nat, j ≤ nT ∧ i = .int .i64 j ∧ RAcc wx rb rs n ((T.take j).foldl (payL n ⟨(k : Int) + 1, c, b, p, q⟩) xs1) ∧ Chg [rs] w7 wx) (fun i _ => nT - (intOf i).toNat)
  case atStart => exact ⟨0, by omega, rfl, h7.a, Chg.refl _ _⟩
  case round =>
    obtain ⟨j, hj, rfl, hA, hch⟩ := hrel
    by_cases hjt : j < nT
    · have hjl : j < T.length := by rw [HNT.out]; exact hjt
      obtain ⟨gt, rfl, hgt, -, tat⟩ := tr_at (hN7.chg hch (by simp; omega)) hjl
      have hti := HTI.out (T.getD j Trd.zero) (by rw [HT.out.1]; simp [List.getD, hjl])
      have hfa := HFA.out (T.getD j Trd.zero) (by rw [HT.out.1]; simp [List.getD, hjl])
      have htk : (T.take (j + 1)).foldl (payL n ⟨(k : Int) + 1, c, b, p, q⟩) xs1 = payL n ⟨(k : Int) + 1, c, b, p, q⟩ ((T.take j).foldl (payL n ⟨(k : Int) + 1, c, b, p, q⟩) xs1) (T.getD j Trd.zero) := by
        rw [List.take_succ_eq_append_getElem hjl, List.foldl_append]
        simp [List.getD, hjl]
      generalize T.getD j Trd.zero = t at *
      obtain ⟨ys, hys⟩ : ∃ ys, (T.take j).foldl (payL n ⟨(k : Int) + 1, c, b, p, q⟩) xs1 = ys := ⟨_, rfl⟩
      rw [hys] at hA htk
      have HTK := Lib.hid htk
      have HFT := Lib.hid hfa
      obtain ⟨tp, tq, tl⟩ := hti
      dsimp only at tl
      have hm1 := mul_lt tp tq
      obtain ⟨t0, t1, t2, t3, t4, t5⟩ := tat
      have j1 : (0 : Int) ≤ (j : Int) := by omega
      have j2 : (j : Int) < (nT : Int) := by omega
      have hX1 := (h7.hd.chg hch (by simp; omega)).chg ((Chg.refl [] wr).alloc (.cells #[.int .i64 t.maker, .int .i64 t.taker, .int .i64 t.buyer, .int .i64 t.seller, .int .u64 t.price, .int .u64 t.qty] 85)) (by simp)
      have hA1 := hA.alloc (.cells #[.int .i64 t.maker, .int .i64 t.taker, .int .i64 t.buyer, .int .i64 t.seller, .int .u64 t.price, .int .u64 t.qty] 85)
      have hch1 := hch.alloc (.cells #[.int .i64 t.maker, .int .i64 t.taker, .int .i64 t.buyer, .int .i64 t.seller, .int .u64 t.price, .int .u64 t.qty] 85)
      have hbt : Blk (wr.alloc (.cells #[.int .i64 t.maker, .int .i64 t.taker, .int .i64 t.buyer, .int .i64 t.seller, .int .u64 t.price, .int .u64 t.qty] 85)) wr.heap.size 85 (tc t) := Blk.new wr (tc t) _
      have hrl : rs < wr.heap.size := hA.row.lt
      clear htk hjl hys hA hch hfa
      go_upto_region 16 with (fail)
      clear t0 t1 t2 t3 t4 t5
      generalize wr.heap.size = g9 at *
      generalize wr.alloc _ = W9 at *
      have w1 : IntKind.u64.wrap (t.price * t.qty) = t.price * t.qty := by simp [IntKind.wrap, IntKind.bits, IntKind.signed]; omega
      have x0 := hX1.at (i := 0) rfl
      have t3 := hbt.at (i := 3) rfl
      have t4 := hbt.at (i := 4) rfl
      have t5 := hbt.at (i := 5) rfl
      go_still_tail 11, (by kernel_rfl)
      change wpList _ _ _ _ _ W9.drew
      have hA2 := hA1.drew
      have hX2 := hX1.drew
      have ht2 := hbt.drew
      have hch2 := hch1.drew
      clear x0 t3 t4 t5 hA1 hX1 hbt hch1
      generalize W9.drew = V at *
      go_wp2_with fail
      refine (rput_is hA2 t.seller 1 (t.price * t.qty) _ _ ⟨by omega, by omega⟩ rfl rfl).mono ?_
      rintro e w3 ⟨rfl, hA3, c3⟩
      have hX3 := hX2.chg c3 (by simp; omega)
      have ht3 := ht2.chg c3 (by simp; omega)
      have hch3 := hch2.trans c3
      clear hA2 hX2 ht2 hch2 c3
      have x0 := hX3.at (i := 0) rfl
      have t2 := ht3.at (i := 2) rfl
      have t5 := ht3.at (i := 5) rfl
      go_upto_region 17 with (fail)
      go_still_tail 8, (by kernel_rfl)
      change wpList _ _ _ _ _ w3.drew
      have hA4 := hA3.drew
      have hX4 := hX3.drew
      have ht4 := ht3.drew
      have hch4 := hch3.drew
      clear x0 t2 t5 hA3 hX3 ht3 hch3
      generalize w3.drew = V4 at *
      go_wp2_with fail
      refine (rput_is hA4 t.buyer 0 t.qty _ _ ⟨by omega, by omega⟩ rfl rfl).mono ?_
      rintro e w5 ⟨rfl, hA5, c5⟩
      have hX5 := hX4.chg c5 (by simp; omega)
      have ht5 := ht4.chg c5 (by simp; omega)
      have hch5 := hch4.trans c5
      clear hA4 hX4 ht4 hch4 c5
      cases b
      · have hA6 : RAcc w5 rb rs n (payL n ⟨(k : Int) + 1, c, false, p, q⟩ ys t) := hA5
        rw [← HTK.out] at hA6
        go_wp2_with fail
        go_roundw
        case rel => exact ⟨j + 1, by omega, by go_num, hA6, hch5⟩
        case measure => simp [intOf]; omega
      · have tl2 := tl rfl
        have hm2 := mul_lt (a := p - t.price) ⟨by omega, by omega⟩ tq
        have w2 : IntKind.u64.wrap (p - t.price) = p - t.price := by simp [IntKind.wrap, IntKind.bits, IntKind.signed]; omega
        have w3 : IntKind.u64.wrap ((p - t.price) * t.qty) = (p - t.price) * t.qty := by simp [IntKind.wrap, IntKind.bits, IntKind.signed]; omega
        have x0 := hX5.at (i := 0) rfl
        have t4 := ht5.at (i := 4) rfl
        have t5 := ht5.at (i := 5) rfl
        clear tl
        go_upto_region 19 with (fail)
        go_still_tail 12, (by kernel_rfl)
        change wpList _ _ _ _ _ w5.drew
        have hA6 := hA5.drew
        have hch6 := hch5.drew
        clear x0 t4 t5 hA5 hX5 ht5 hch5
        generalize w5.drew = V6 at *
        go_wp2_with fail
        refine (rput_is hA6 c 1 ((p - t.price) * t.qty) _ _ ⟨by omega, by omega⟩ rfl rfl).mono ?_
        rintro e w8 ⟨rfl, hA7, c7⟩
        have hch7 := hch6.trans c7
        have hA8 : RAcc w8 rb rs n (payL n ⟨(k : Int) + 1, c, true, p, q⟩ ys t) := by
          have e : t.buyer = c := (HFT.out.1 (by trivial)).2
          have : payL n ⟨(k : Int) + 1, c, true, p, q⟩ ys t = aPut n (aPut n (aPut n ys t.seller 1 (t.price * t.qty)) t.buyer 0 t.qty) c 1 ((p - t.price) * t.qty) := by unfold payL; rw [if_pos rfl, ← e]
          rw [this]; exact hA7
        rw [← HTK.out] at hA8
        clear hA6 hch6 hA7 c7
        go_wp2_with fail
        go_roundw
        case rel => exact ⟨j + 1, by omega, by go_num, hA8, hch7⟩
        case measure => simp [intOf]; omega
    · obtain rfl : j = nT := by omega
      have hA9 : RAcc wr rb rs n xs2 := by have := hA; rwa [List.take_of_length_le (by rw [HNT.out]; exact Nat.le_refl _), HX2.out] at this
      have h9 := h7.acct hA9 hch
      have hN9 := hN7.chg hch (by simp; omega)
      have hb9 := hb7.chg hch (by simp; omega)
      have HC9 := Lib.hid (HC7.out.trans (hch.mono (by simp)))
      clear hA hA9 h7 hN7 hb7 HC7 hch
      have v4 := hb9.at (i := 4) rfl
      have fv := hb9.free 4
      have c10 : Chg [go] wr (wr.setCell ⟨go, 4, none⟩ (.int .u64 lft)) := (Chg.refl _ _).setCell _ _ (by simp)
      have h10 := h9.far c10 (by simp) ⟨by simp; omega, by simp; omega, by simp; omega⟩ (Grw.refl _ _) (fun z hz => Nat.lt_of_lt_of_le (h9.b.fr z hz) c10.size) h9.inF
      have hN10 := hN9.chg c10 (by simp; exact hVl)
      have hb10 : Blk (wr.setCell ⟨go, 4, none⟩ (.int .u64 lft)) go 152 (oc ⟨(k : Int) + 1, c, b, p, lft⟩) := hb9.set 4 _
      have HC10 : Hid (Chg [y, g, rs] _ (wr.setCell ⟨go, 4, none⟩ (.int .u64 lft))) := HC9.out.setCell _ _ (.inr (by rw [HG.out]; exact Nat.le_refl _))
      clear h9 hN9 hb9 HC9 c10
      go_upto_region 22 with (fail)
      clear v4 fv
      generalize wr.setCell _ _ = W10 at *
      have y0 := hb10.at (i := 0) rfl
      have y1 := hb10.at (i := 1) rfl
      have y2 := hb10.at (i := 2) rfl
      have y3 := hb10.at (i := 3) rfl
      have y4 := hb10.at (i := 4) rfl
      have x1 := h10.hd.at (i := 1) rfl
      go_still_tail 5, (by kernel_rfl)
      change wpList _ _ _ _ _ W10.drew
      have h11 := h10.to (Chg.refl [] W10).drew
      have hN11 := hN10.chg0 (Chg.refl [] W10).drew
      have hb11 := hb10.drew
      have HC11 := Lib.hid HC10.out.drew
      clear x1 y0 y1 y2 y3 y4 h10 hN10 hb10 HC10
      generalize W10.drew = V at *
      go_wp2_with fail
      refine (rbRest h11.b ⟨(k : Int) + 1, c, b, p, lft⟩ HU2.out (by omega) (by omega)).mono ?_
      rintro e w12 ⟨rfl, hB12, c12⟩
      have h12 := (h11.book hB12 c12 HOKR.out).sub HINF.out
      have hN12 := hN11.chg c12 (by simp; omega)
      have y0 := (hb11.chg c12 hgo2).at (i := 0) rfl
      have hcz : Chg [y, g, rs] _ w12 := HC11.out.trans (c12.mono (by simp))
      clear h11 hN11 hb11 HC11 hB12 c12
      go_wp2_with fail
      go_ret3
      first | exact ⟨a7, d7, rfl, by rw [HG.out]; exact hN12.mono (by omega), h12, hcz⟩ | exact ⟨a7, ⟨d7, rfl⟩, by rw [HG.out]; exact hN12.mono (by omega), h12, hcz⟩

set_option maxRecDepth 100000 in
set_option maxHeartbeats 8000000 in
theorem rxplace_now {w wr : World} {y rb rs g n : Nat} {F : List Nat} {xs : List Int} {L M : List Ord} {k : Nat} (h : Rxc w wr y rb rs g n F xs L M k) (hk : k < 1000000) (hgl : g < wr.heap.size) (c : Int) (b : Bool) (p q : Int) (hp : U p) (hq : U q) (hc : I c) (hOKS : ∀ z ∈ L ++ M, z.Ok) (hE : mtE n xs c b p q = 0)
    (xs1 xs2 : List Int) (T : List Trd) (lft : Int) (L' M' : List Ord) (hx1 : aTake n xs c (lockA ⟨(k : Int) + 1, c, b, p, q⟩) (lockN ⟨(k : Int) + 1, c, b, p, q⟩) = xs1) (hT : (mres ⟨(k : Int) + 1, c, b, p, q⟩ L M).1 = T ∧ (mres ⟨(k : Int) + 1, c, b, p, q⟩ L M).2.1 = lft) (hx2 : T.foldl (payL n ⟨(k : Int) + 1, c, b, p, q⟩) xs1 = xs2)
    (hL : mL ⟨(k : Int) + 1, c, b, p, q⟩ L M = L') (hM : mM ⟨(k : Int) + 1, c, b, p, q⟩ L M = M') :
    Calls Try.prog 47 #[.pointer (some ⟨y, 0, none⟩), .int .i64 c, .bool b, .int .u64 p, .int .u64 q, .bool false] wr fun e w' => ∃ a cap, e = .returned (.tuple #[.int .i64 ((k : Int) + 1), .slice a T.length cap, .int .i64 0]) ∧ NewF tc w' wr.heap.size 85 a T ∧ Rxc w w' y rb rs g n F (aPut n xs2 c (lockA ⟨(k : Int) + 1, c, b, p, lft⟩) (lockN ⟨(k : Int) + 1, c, b, p, lft⟩)) L' M' (k + 1) ∧ Chg [y, g, rs] wr w' := by
  obtain ⟨hh, hw, hT0⟩ := mtE_zero hE ((k : Int) + 1)
  obtain ⟨hin, p1, q1⟩ := wIn_o hw ((k : Int) + 1) c b
  have hlk := hin.lock
  have hinp := hin.p
  have hinq := hin.q
  dsimp only at hinp hinq
  obtain ⟨hc0, hcl⟩ : 0 ≤ c ∧ c < (n : Int) := by
    obtain ⟨cn, hcn, hcl⟩ := aHas_nat hh
    omega
  have HTE := Lib.hid hT0
  have HIN := Lib.hid hin
  have HX1 := Lib.hid hx1
  have HX2 := Lib.hid hx2
  have HT := Lib.hid hT
  have HTI := Lib.hid (h.ok.trades hin)
  have HFA := Lib.hid (h.ok.fair ⟨(k : Int) + 1, c, b, p, q⟩)
  have hlf := mres_left h.ok hin
  rw [hT.2] at hlf
  have hv1 : 0 ≤ lft := hlf.1
  have hv2 : lft ≤ q := hlf.2
  have hv3 : lft < 18446744073709551616 := by omega
  have HU2 : Hid (U lft) := ⟨hv1, hv3⟩
  have HLF := Lib.hid hlf
  have hok := h.ok.met ⟨(k : Int) + 1, c, b, p, q⟩
  have HALL := Lib.hid (fun z hz => (h.ok.oin z hz))
  rw [hL, hM] at hok
  have HOK0 := Lib.hid hok
  have HOK := Lib.hid (hok.mono (Nat.le_succ k))
  have HLM := Lib.hid (And.intro hL hM)
  have hlen := h.ok.len
  have hlen2 := hok.len
  have hTl := mres_len ⟨(k : Int) + 1, c, b, p, q⟩ L M
  rw [hT.1] at hTl
  obtain ⟨nT, hnT⟩ : ∃ m, T.length = m := ⟨_, rfl⟩
  rw [hnT] at hTl ⊢
  have HNT := Lib.hid hnT
  have HOO : Hid ((⟨(k : Int) + 1, c, b, p, q⟩ : Ord).Ok) := ordOk _ _ _ _ _ ⟨by omega, by omega⟩ hc ⟨hp.1, hp.2⟩ ⟨hq.1, hq.2⟩
  have HOKS := Lib.hid hOKS
  have HHAS := Lib.hid hh
  obtain ⟨cap, hcap, -, hhd⟩ := h.a.head
  have x0 := h.hd.at (i := 0) rfl
  have x2 := h.hd.at (i := 2) rfl
  have r0 := hhd.at (i := 0) rfl
  have d1 : decide (c < 0) = false := by simp; omega
  have d2 : decide ((n : Int) ≤ c) = false := by simp; omega
  have d3 : (p == 0) = false := by simp; omega
  have d4 : decide (1048576 < p) = false := by simp; omega
  have d5 : (q == 0) = false := by simp; omega
  have d6 : decide (1048576 < q) = false := by simp; omega
  have wk : IntKind.i64.wrap ((k : Int) + 1) = (k : Int) + 1 := IntWalk.i64_in _ (by omega)
  have hbo : Blk (wr.alloc (.cells #[.int .i64 ((k : Int) + 1), .int .i64 c, .bool b, .int .u64 p, .int .u64 q] 152)) wr.heap.size 152 (oc ⟨(k : Int) + 1, c, b, p, q⟩) := Blk.new wr (oc ⟨(k : Int) + 1, c, b, p, q⟩) 152
  have h1 := h.box ((Chg.refl [] wr).alloc (.cells #[.int .i64 ((k : Int) + 1), .int .i64 c, .bool b, .int .u64 p, .int .u64 q] 152)) (Nat.le_refl _) (by simp)
  have HINF := Lib.hid h.inF
  have HOKR : Hid (EOk n (restL ⟨(k : Int) + 1, c, b, p, lft⟩ L') (restM ⟨(k : Int) + 1, c, b, p, lft⟩ M') (k + 1)) := HOK0.out.rest rfl (hin.lt lft hlf) hh
  have HIN2 : Hid (OIn ⟨(k : Int) + 1, c, b, p, lft⟩) := hin.lt lft hlf
  have lk2 := HIN2.out.lock
  have hc1 : Chg [] wr (wr.alloc (.cells #[.int .i64 ((k : Int) + 1), .int .i64 c, .bool b, .int .u64 p, .int .u64 q] 152)) := (Chg.refl _ _).alloc _
  have HC1 := Lib.hid hc1
  obtain ⟨n1, n2⟩ := h.ne
  obtain ⟨g1, g2, g3⟩ := h.gne
  have ly := h.hd.lt
  have lrs : rs < wr.heap.size := h.a.row.lt
  have lrb : rb < wr.heap.size := hhd.lt
  clear h hc1 hE hh hw hT0 hin hx1 hx2 hT hlf hok hL hM hnT hcap hhd hOKS
  go_enter Try.func47, Try.ntmps47
  go_upto_region 6 with (fail)
  clear x0 x2 r0 d1 d2 d3 d4 d5 d6
  obtain ⟨go, hgo⟩ : ∃ g, wr.heap.size = g := ⟨_, rfl⟩
  rw [hgo] at hbo h1 ly lrb lrs hgl ⊢
  have HG := Lib.hid hgo
  clear hgo
  generalize wr.alloc _ = W1 at *
  have y0 := hbo.at (i := 0) rfl
  have y1 := hbo.at (i := 1) rfl
  have y2 := hbo.at (i := 2) rfl
  have y3 := hbo.at (i := 3) rfl
  have y4 := hbo.at (i := 4) rfl
  go_wp2_with fail
  refine (needs_any ⟨(k : Int) + 1, c, b, p, q⟩ HIN.out W1).mono ?_
  rintro e w4 ⟨rfl, c4⟩
  have h2 := h1.to c4
  have hb2 := hbo.chg c4 (by simp)
  have HC2 := Lib.hid (HC1.out.trans c4)
  clear h1 HC1 c4 y0 y1 y2 y3 y4 hbo
  have x0 := h2.hd.at (i := 0) rfl
  obtain ⟨lA, hlA⟩ : ∃ l, lockA ⟨(k : Int) + 1, c, b, p, q⟩ = l := ⟨_, rfl⟩
  obtain ⟨lN, hlN⟩ : ∃ l, lockN ⟨(k : Int) + 1, c, b, p, q⟩ = l := ⟨_, rfl⟩
  rw [hlA, hlN] at HTE HX1
  rw [hlN] at hlk
  rw [hlA, hlN]
  clear hlA hlN
  go_wp2_with fail
  refine (rtake_is h2.a c lA lN 0 xs1 ⟨by omega, by omega⟩ HTE.out HX1.out).mono ?_
  rintro e w5 ⟨rfl, ha5, c5⟩
  have h3 := h2.acct ha5 c5
  have hb3 := hb2.chg c5 (by simp; omega)
  have HC3 : Hid (Chg [y, g, rs] wr w5) := (HC2.out.mono (by simp)).trans (c5.mono (by simp))
  clear h2 hb2 HC2 c5 x0 ha5
  have x2 := h3.hd.at (i := 2) rfl
  have fx2 := h3.hd.free 2
  have h4 := h3.last
  have c4 : Chg [y] w5 (w5.setCell ⟨y, 2, none⟩ (.int .i64 ((k : Int) + 1))) := (Chg.refl _ _).setCell _ _ (by simp)
  have hb4 := hb3.chg c4 (by simp; omega)
  have HC4 : Hid (Chg [y, g, rs] wr (w5.setCell ⟨y, 2, none⟩ (.int .i64 ((k : Int) + 1)))) := HC3.out.trans (c4.mono (by simp))
  clear h3 hb3 HC3 c4
  go_upto_region 11 with (fail)
  clear x2 fx2
  generalize w5.setCell _ _ = W6 at *
  have x1 := h4.hd.at (i := 1) rfl
  have y0 := hb4.at (i := 0) rfl
  have y1 := hb4.at (i := 1) rfl
  have y2 := hb4.at (i := 2) rfl
  have y3 := hb4.at (i := 3) rfl
  have y4 := hb4.at (i := 4) rfl
  have hM := rbMatch_is (h4.to (Chg.refl [] W6).drew).b ⟨(k : Int) + 1, c, b, p, q⟩ T lft HT.out HOO.out HOKS.out (by omega) (by omega)
  rw [HNT.out, HLM.out.1, HLM.out.2] at hM
  have hgo2 : go ∉ [g] := by simp; omega
  have hyg : y ∉ [g] := by simp; omega
  refine place_reg (by intro c a d v w h; cases d <;> exact h) hM (fun w' a d h => ⟨h.2.2.cell x1 hyg, h.2.2.cell y0 hgo2, h.2.2.cell y1 hgo2, h.2.2.cell y2 hgo2, h.2.2.cell y3 hgo2, h.2.2.cell y4 hgo2⟩) x1 y0 y1 y2 y3 y4 ?_
  rintro w7 a7 d7 ⟨hN7, hB7, c7⟩
  intros
  have hVl : go < W6.drew.heap.size := hb4.lt
  have h7 := (h4.to (Chg.refl [] W6).drew).book hB7 c7 HOK.out
  have hb7 := hb4.drew.chg c7 hgo2
  have HC7 : Hid (Chg [y, g, rs] wr w7) := HC4.out.drew.trans (c7.mono (by simp))
  clear hM x1 y0 y1 y2 y3 y4 h4 hb4 HC4 hB7 c7
  generalize W6.drew.heap.size = vz at *
  go_wp2_with fail
  go_loopw [21] (fun i wx => ∃ j : Nat, j ≤ nT ∧ i = .int .i64 j ∧ RAcc wx rb rs n ((T.take j).foldl (payL n ⟨(k : Int) + 1, c, b, p, q⟩) xs1) ∧ Chg [rs] w7 wx) (fun i _ => nT - (intOf i).toNat)
  case atStart => exact ⟨0, by omega, rfl, h7.a, Chg.refl _ _⟩
  case round =>
    obtain ⟨j, hj, rfl, hA, hch⟩ := hrel
    by_cases hjt : j < nT
    · have hjl : j < T.length := by rw [HNT.out]; exact hjt
      obtain ⟨gt, rfl, hgt, -, tat⟩ := tr_at (hN7.chg hch (by simp; omega)) hjl
      have hti := HTI.out (T.getD j Trd.zero) (by rw [HT.out.1]; simp [List.getD, hjl])
      have hfa := HFA.out (T.getD j Trd.zero) (by rw [HT.out.1]; simp [List.getD, hjl])
      have htk : (T.take (j + 1)).foldl (payL n ⟨(k : Int) + 1, c, b, p, q⟩) xs1 = payL n ⟨(k : Int) + 1, c, b, p, q⟩ ((T.take j).foldl (payL n ⟨(k : Int) + 1, c, b, p, q⟩) xs1) (T.getD j Trd.zero) := by
        rw [List.take_succ_eq_append_getElem hjl, List.foldl_append]
        simp [List.getD, hjl]
      generalize T.getD j Trd.zero = t at *
      obtain ⟨ys, hys⟩ : ∃ ys, (T.take j).foldl (payL n ⟨(k : Int) + 1, c, b, p, q⟩) xs1 = ys := ⟨_, rfl⟩
      rw [hys] at hA htk
      have HTK := Lib.hid htk
      have HFT := Lib.hid hfa
      obtain ⟨tp, tq, tl⟩ := hti
      dsimp only at tl
      have hm1 := mul_lt tp tq
      obtain ⟨t0, t1, t2, t3, t4, t5⟩ := tat
      have j1 : (0 : Int) ≤ (j : Int) := by omega
      have j2 : (j : Int) < (nT : Int) := by omega
      have hX1 := (h7.hd.chg hch (by simp; omega)).chg ((Chg.refl [] wr).alloc (.cells #[.int .i64 t.maker, .int .i64 t.taker, .int .i64 t.buyer, .int .i64 t.seller, .int .u64 t.price, .int .u64 t.qty] 85)) (by simp)
      have hA1 := hA.alloc (.cells #[.int .i64 t.maker, .int .i64 t.taker, .int .i64 t.buyer, .int .i64 t.seller, .int .u64 t.price, .int .u64 t.qty] 85)
      have hch1 := hch.alloc (.cells #[.int .i64 t.maker, .int .i64 t.taker, .int .i64 t.buyer, .int .i64 t.seller, .int .u64 t.price, .int .u64 t.qty] 85)
      have hbt : Blk (wr.alloc (.cells #[.int .i64 t.maker, .int .i64 t.taker, .int .i64 t.buyer, .int .i64 t.seller, .int .u64 t.price, .int .u64 t.qty] 85)) wr.heap.size 85 (tc t) := Blk.new wr (tc t) _
      have hrl : rs < wr.heap.size := hA.row.lt
      clear htk hjl hys hA hch hfa
      go_upto_region 16 with (fail)
      clear t0 t1 t2 t3 t4 t5
      generalize wr.heap.size = g9 at *
      generalize wr.alloc _ = W9 at *
      have w1 : IntKind.u64.wrap (t.price * t.qty) = t.price * t.qty := by simp [IntKind.wrap, IntKind.bits, IntKind.signed]; omega
      have x0 := hX1.at (i := 0) rfl
      have t3 := hbt.at (i := 3) rfl
      have t4 := hbt.at (i := 4) rfl
      have t5 := hbt.at (i := 5) rfl
      go_still_tail 11, (by kernel_rfl)
      change wpList _ _ _ _ _ W9.drew
      have hA2 := hA1.drew
      have hX2 := hX1.drew
      have ht2 := hbt.drew
      have hch2 := hch1.drew
      clear x0 t3 t4 t5 hA1 hX1 hbt hch1
      generalize W9.drew = V at *
      go_wp2_with fail
      refine (rput_is hA2 t.seller 1 (t.price * t.qty) _ _ ⟨by omega, by omega⟩ rfl rfl).mono ?_
      rintro e w3 ⟨rfl, hA3, c3⟩
      have hX3 := hX2.chg c3 (by simp; omega)
      have ht3 := ht2.chg c3 (by simp; omega)
      have hch3 := hch2.trans c3
      clear hA2 hX2 ht2 hch2 c3
      have x0 := hX3.at (i := 0) rfl
      have t2 := ht3.at (i := 2) rfl
      have t5 := ht3.at (i := 5) rfl
      go_upto_region 17 with (fail)
      go_still_tail 8, (by kernel_rfl)
      change wpList _ _ _ _ _ w3.drew
      have hA4 := hA3.drew
      have hX4 := hX3.drew
      have ht4 := ht3.drew
      have hch4 := hch3.drew
      clear x0 t2 t5 hA3 hX3 ht3 hch3
      generalize w3.drew = V4 at *
      go_wp2_with fail
      refine (rput_is hA4 t.buyer 0 t.qty _ _ ⟨by omega, by omega⟩ rfl rfl).mono ?_
      rintro e w5 ⟨rfl, hA5, c5⟩
      have hX5 := hX4.chg c5 (by simp; omega)
      have ht5 := ht4.chg c5 (by simp; omega)
      have hch5 := hch4.trans c5
      clear hA4 hX4 ht4 hch4 c5
      cases b
      · have hA6 : RAcc w5 rb rs n (payL n ⟨(k : Int) + 1, c, false, p, q⟩ ys t) := hA5
        rw [← HTK.out] at hA6
        go_wp2_with fail
        go_roundw
        case rel => exact ⟨j + 1, by omega, by go_num, hA6, hch5⟩
        case measure => simp [intOf]; omega
      · have tl2 := tl rfl
        have hm2 := mul_lt (a := p - t.price) ⟨by omega, by omega⟩ tq
        have w2 : IntKind.u64.wrap (p - t.price) = p - t.price := by simp [IntKind.wrap, IntKind.bits, IntKind.signed]; omega
        have w3 : IntKind.u64.wrap ((p - t.price) * t.qty) = (p - t.price) * t.qty := by simp [IntKind.wrap, IntKind.bits, IntKind.signed]; omega
        have x0 := hX5.at (i := 0) rfl
        have t4 := ht5.at (i := 4) rfl
        have t5 := ht5.at (i := 5) rfl
        clear tl
        go_upto_region 19 with (fail)
        go_still_tail 12, (by kernel_rfl)
        change wpList _ _ _ _ _ w5.drew
        have hA6 := hA5.drew
        have hch6 := hch5.drew
        clear x0 t4 t5 hA5 hX5 ht5 hch5
        generalize w5.drew = V6 at *
        go_wp2_with fail
        refine (rput_is hA6 c 1 ((p - t.price) * t.qty) _ _ ⟨by omega, by omega⟩ rfl rfl).mono ?_
        rintro e w8 ⟨rfl, hA7, c7⟩
        have hch7 := hch6.trans c7
        have hA8 : RAcc w8 rb rs n (payL n ⟨(k : Int) + 1, c, true, p, q⟩ ys t) := by
          have e : t.buyer = c := (HFT.out.1 (by trivial)).2
          have : payL n ⟨(k : Int) + 1, c, true, p, q⟩ ys t = aPut n (aPut n (aPut n ys t.seller 1 (t.price * t.qty)) t.buyer 0 t.qty) c 1 ((p - t.price) * t.qty) := by unfold payL; rw [if_pos rfl, ← e]
          rw [this]; exact hA7
        rw [← HTK.out] at hA8
        clear hA6 hch6 hA7 c7
        go_wp2_with fail
        go_roundw
        case rel => exact ⟨j + 1, by omega, by go_num, hA8, hch7⟩
        case measure => simp [intOf]; omega
    · obtain rfl : j = nT := by omega
      have hA9 : RAcc wr rb rs n xs2 := by have := hA; rwa [List.take_of_length_le (by rw [HNT.out]; exact Nat.le_refl _), HX2.out] at this
      have h9 := h7.acct hA9 hch
      have hN9 := hN7.chg hch (by simp; omega)
      have hb9 := hb7.chg hch (by simp; omega)
      have HC9 := Lib.hid (HC7.out.trans (hch.mono (by simp)))
      clear hA hA9 h7 hN7 hb7 HC7 hch
      have v4 := hb9.at (i := 4) rfl
      have fv := hb9.free 4
      have c10 : Chg [go] wr (wr.setCell ⟨go, 4, none⟩ (.int .u64 lft)) := (Chg.refl _ _).setCell _ _ (by simp)
      have h10 := h9.far c10 (by simp) ⟨by simp; omega, by simp; omega, by simp; omega⟩ (Grw.refl _ _) (fun z hz => Nat.lt_of_lt_of_le (h9.b.fr z hz) c10.size) h9.inF
      have hN10 := hN9.chg c10 (by simp; exact hVl)
      have hb10 : Blk (wr.setCell ⟨go, 4, none⟩ (.int .u64 lft)) go 152 (oc ⟨(k : Int) + 1, c, b, p, lft⟩) := hb9.set 4 _
      have HC10 : Hid (Chg [y, g, rs] _ (wr.setCell ⟨go, 4, none⟩ (.int .u64 lft))) := HC9.out.setCell _ _ (.inr (by rw [HG.out]; exact Nat.le_refl _))
      clear h9 hN9 hb9 HC9 c10
      go_upto_region 24 with (fail)
      clear v4 fv
      generalize wr.setCell _ _ = W10 at *
      have y0 := hb10.at (i := 0) rfl
      have y1 := hb10.at (i := 1) rfl
      have y2 := hb10.at (i := 2) rfl
      have y3 := hb10.at (i := 3) rfl
      have y4 := hb10.at (i := 4) rfl
      go_wp2_with fail
      refine (needs_any ⟨(k : Int) + 1, c, b, p, lft⟩ HIN2.out W10).mono ?_
      rintro e w11 ⟨rfl, c11⟩
      have h11 := h10.to c11
      have hN11 := hN10.chg0 c11
      have hb11 := hb10.chg c11 (by simp)
      have HC11 : Hid (Chg [y, g, rs] _ w11) := HC10.out.trans (c11.mono (by simp))
      clear y0 y1 y2 y3 y4 h10 hN10 hb10 HC10 c11
      have x0 := h11.hd.at (i := 0) rfl
      obtain ⟨lA2, hlA2⟩ : ∃ l, lockA ⟨(k : Int) + 1, c, b, p, lft⟩ = l := ⟨_, rfl⟩
      obtain ⟨lN2, hlN2⟩ : ∃ l, lockN ⟨(k : Int) + 1, c, b, p, lft⟩ = l := ⟨_, rfl⟩
      rw [hlN2] at lk2
      rw [hlA2, hlN2]
      have HLL := Lib.hid (And.intro hlA2 hlN2)
      clear hlA2 hlN2
      go_wp2_with fail
      refine (rput_is h11.a c lA2 lN2 _ _ ⟨by omega, by omega⟩ rfl rfl).mono ?_
      rintro e w12 ⟨rfl, hA12, c12⟩
      have h12 := (h11.acct hA12 c12).sub HINF.out
      have hN12 := hN11.chg c12 (by simp; omega)
      have y0 := (hb11.chg c12 (by simp; omega)).at (i := 0) rfl
      have hcz : Chg [y, g, rs] _ w12 := HC11.out.trans (c12.mono (by simp))
      rw [← HLL.out.1, ← HLL.out.2] at h12
      clear h11 hN11 hb11 HC11 hA12 c12 x0
      go_wp2_with fail
      go_ret3
      first | exact ⟨a7, d7, rfl, by rw [HG.out]; exact hN12.mono (by omega), h12, hcz⟩ | exact ⟨a7, ⟨d7, rfl⟩, by rw [HG.out]; exact hN12.mono (by omega), h12, hcz⟩

end Go.Proofs.Yteabcpmpcbjicaa

namespace Go.Proofs.Yteabcpmpcbjicaa
set_option linter.unusedVariables false
open Go Go.Proofs Go.RowKit
attribute [local go_sem ↓] Go.wp_at_zero Go.wp_at_succ

theorem aTakeE_four {n : Nat} {xs : List Int} {c a v : Int} (h : aErr n c a = 0) (hne : aTakeE n xs c a v ≠ 0) : aTakeE n xs c a v = 4 ∧ aTake n xs c a v = xs := by
  have e : aTakeE n xs c a v = 4 := by
    unfold aTakeE at hne ⊢
    rw [if_pos h] at hne ⊢
    split at hne
    · omega
    · rw [if_neg (by assumption)]
  exact ⟨e, by unfold aTake; rw [if_neg hne]⟩
set_option maxRecDepth 100000 in
set_option maxHeartbeats 4000000 in
theorem rxplace_no {w wr : World} {y rb rs g n : Nat} {F : List Nat} {xs : List Int} {L M : List Ord} {k : Nat} (h : Rxc w wr y rb rs g n F xs L M k) (hk : k < 1000000) (c : Int) (b : Bool) (p q : Int) (rest : Bool) (hp : U p) (hq : U q) (hc : I c) (e0 : Int) (hE : mtE n xs c b p q = e0) (hne : e0 ≠ 0) :
    Calls Try.prog 47 #[.pointer (some ⟨y, 0, none⟩), .int .i64 c, .bool b, .int .u64 p, .int .u64 q, .bool rest] wr fun e w' => e = .returned (.tuple #[.int .i64 0, .slice none 0 0, .int .i64 e0]) ∧ Rxc w w' y rb rs g n F xs L M k ∧ Chg [rs] wr w' := by
  obtain ⟨cap, hcap, -, hhd⟩ := h.a.head
  have x0 := h.hd.at (i := 0) rfl
  have r0 := hhd.at (i := 0) rfl
  obtain ⟨p1, p2⟩ := hp
  obtain ⟨q1, q2⟩ := hq
  by_cases hh : aHas n c = true
  · obtain ⟨hc0, hcl⟩ : 0 ≤ c ∧ c < (n : Int) := by
      obtain ⟨cn, hcn, hcl⟩ := aHas_nat hh
      omega
    have d1 : decide (c < 0) = false := by simp; omega
    have d2 : decide ((n : Int) ≤ c) = false := by simp; omega
    by_cases hw : (wIn p && wIn q) = true
    · have hE4 : e0 = 4 ∧ aTakeE n xs c (lockA ⟨(k : Int) + 1, c, b, p, q⟩) (lockN ⟨(k : Int) + 1, c, b, p, q⟩) ≠ 0 := by
        unfold mtE at hE
        rw [if_pos hh, if_pos hw] at hE
        split at hE
        · omega
        · rename_i h9; exact ⟨hE.symm, h9⟩
      obtain ⟨rfl, hT⟩ := hE4
      obtain ⟨hin, pp1, qq1⟩ := wIn_o hw ((k : Int) + 1) c b
      have hlk := hin.lock
      have hinp := hin.p
      have hinq := hin.q
      dsimp only at hinp hinq
      obtain ⟨t1, t2⟩ := aTakeE_four (aErr_ok hh (by unfold lockA; split <;> rfl)) hT
      have HT1 := Lib.hid (And.intro t1 t2)
      have HIN := Lib.hid hin
      have d3 : (p == 0) = false := by simp; omega
      have d4 : decide (1048576 < p) = false := by simp; omega
      have d5 : (q == 0) = false := by simp; omega
      have d6 : decide (1048576 < q) = false := by simp; omega
      have wk : IntKind.i64.wrap ((k : Int) + 1) = (k : Int) + 1 := IntWalk.i64_in _ (by omega)
      have x2 := h.hd.at (i := 2) rfl
      have hbo : Blk (wr.alloc (.cells #[.int .i64 ((k : Int) + 1), .int .i64 c, .bool b, .int .u64 p, .int .u64 q] 152)) wr.heap.size 152 (oc ⟨(k : Int) + 1, c, b, p, q⟩) := Blk.new wr (oc ⟨(k : Int) + 1, c, b, p, q⟩) 152
      have h1 := h.to ((Chg.refl [] wr).alloc (.cells #[.int .i64 ((k : Int) + 1), .int .i64 c, .bool b, .int .u64 p, .int .u64 q] 152))
      have HC1 := Lib.hid ((Chg.refl [] wr).alloc (.cells #[.int .i64 ((k : Int) + 1), .int .i64 c, .bool b, .int .u64 p, .int .u64 q] 152))
      clear h hE hne hh hw hT hin t1 t2 hcap hhd
      go_enter Try.func47, Try.ntmps47
      go_upto_region 6 with (fail)
      clear x0 x2 r0 d1 d2 d3 d4 d5 d6
      have HC1' : Hid (Chg [] wr (wr.alloc (.cells #[.int .i64 ((k : Int) + 1), .int .i64 c, .bool b, .int .u64 p, .int .u64 q] 152))) := HC1
      clear HC1
      generalize wr.heap.size = go at *
      generalize wr.alloc _ = W1 at *
      have y0 := hbo.at (i := 0) rfl
      have y1 := hbo.at (i := 1) rfl
      have y2 := hbo.at (i := 2) rfl
      have y3 := hbo.at (i := 3) rfl
      have y4 := hbo.at (i := 4) rfl
      go_wp2_with fail
      refine (needs_any ⟨(k : Int) + 1, c, b, p, q⟩ HIN.out W1).mono ?_
      rintro e w4 ⟨rfl, c4⟩
      have h2 := h1.to c4
      have HC2 := Lib.hid (HC1'.out.trans c4)
      clear h1 HC1' c4 y0 y1 y2 y3 y4 hbo
      have x0 := h2.hd.at (i := 0) rfl
      obtain ⟨lA, hlA⟩ : ∃ l, lockA ⟨(k : Int) + 1, c, b, p, q⟩ = l := ⟨_, rfl⟩
      obtain ⟨lN, hlN⟩ : ∃ l, lockN ⟨(k : Int) + 1, c, b, p, q⟩ = l := ⟨_, rfl⟩
      rw [hlA, hlN] at HT1
      rw [hlN] at hlk
      rw [hlA, hlN]
      clear hlA hlN
      go_wp2_with fail
      refine (rtake_is h2.a c lA lN 4 xs ⟨by omega, by omega⟩ HT1.out.1 HT1.out.2).mono ?_
      rintro e w5 ⟨rfl, ha5, c5⟩
      have h3 := h2.acct ha5 c5
      have hc3 : Chg [rs] wr w5 := (HC2.out.mono (by simp)).trans c5
      clear h2 HC2 c5 x0 ha5
      go_wp2_with fail
      go_ret3
      exact ⟨rfl, h3, hc3⟩
    · have hE6 : e0 = 6 := by
        unfold mtE at hE
        rw [if_pos hh, if_neg hw] at hE
        exact hE.symm
      subst hE6
      have hw1 : (p = 0 ∨ 1048576 < p) ∨ ((1 ≤ p ∧ p ≤ 1048576) ∧ (q = 0 ∨ 1048576 < q)) := by
        unfold wIn at hw
        simp at hw
        omega
      clear hE hne hh hw hcap hhd
      rcases hw1 with (hp0 | hp0) | ⟨⟨hp1, hp2⟩, hq0 | hq0⟩
      · have d3 : (p == 0) = true := by simp [hp0]
        clear hp0 p1 p2
        go_enter Try.func47, Try.ntmps47
        go_wp2_with fail
        go_ret3
        exact ⟨rfl, h, Chg.refl _ _⟩
      · have d3 : (p == 0) = false := by simp; omega
        have d4 : decide (1048576 < p) = true := by simp; omega
        go_enter Try.func47, Try.ntmps47
        go_wp2_with fail
        go_ret3
        exact ⟨rfl, h, Chg.refl _ _⟩
      · have d3 : (p == 0) = false := by simp; omega
        have d4 : decide (1048576 < p) = false := by simp; omega
        have d5 : (q == 0) = true := by simp [hq0]
        clear hq0 q1 q2
        go_enter Try.func47, Try.ntmps47
        go_wp2_with fail
        go_ret3
        exact ⟨rfl, h, Chg.refl _ _⟩
      · have d3 : (p == 0) = false := by simp; omega
        have d4 : decide (1048576 < p) = false := by simp; omega
        have d5 : (q == 0) = false := by simp; omega
        have d6 : decide (1048576 < q) = true := by simp; omega
        go_enter Try.func47, Try.ntmps47
        go_wp2_with fail
        go_ret3
        exact ⟨rfl, h, Chg.refl _ _⟩
  · have hE2 : e0 = 2 := by
      unfold mtE at hE
      rw [if_neg hh] at hE
      exact hE.symm
    subst hE2
    have hh2 : c < 0 ∨ (0 ≤ c ∧ (n : Int) ≤ c) := by
      unfold aHas at hh
      simp at hh
      omega
    clear hE hne hh hcap hhd
    rcases hh2 with hz | ⟨hz, hz2⟩
    · have d1 : decide (c < 0) = true := by simp; omega
      go_enter Try.func47, Try.ntmps47
      go_wp2_with fail
      go_ret3
      exact ⟨rfl, h, Chg.refl _ _⟩
    · have d1 : decide (c < 0) = false := by simp; omega
      have d2 : decide ((n : Int) ≤ c) = true := by simp; omega
      go_enter Try.func47, Try.ntmps47
      go_wp2_with fail
      go_ret3
      exact ⟨rfl, h, Chg.refl _ _⟩
end Go.Proofs.Yteabcpmpcbjicaa

namespace Go.Proofs.Yteabcpmpcbjicaa
set_option linter.unusedVariables false
open Go Go.Proofs Go.RowKit
attribute [local go_sem ↓] Go.wp_at_zero Go.wp_at_succ

set_option maxRecDepth 100000 in
set_option maxHeartbeats 4000000 in
/-- Locked. -/
theorem rxlocked_any {w W0 : World} {y rb rs g n : Nat} {F : List Nat} {xs : List Int} {L M : List Ord} {k : Nat} (h : Rxc w W0 y rb rs g n F xs L M k) (hk : k ≤ 1000000) (c a r : Int) (hr : lkd c a L + lkd c a M = r) :
    Calls Try.prog 50 #[.pointer (some ⟨y, 0, none⟩), .int .i64 c, .int .i64 a] W0 fun e w' => e = .returned (.int .u64 r) ∧ Chg [] W0 w' := by
  have hlen := h.ok.len
  have HOI : Hid (∀ o ∈ L ++ M, OIn o) := fun o ho => (h.ok.oin o ho).1
  obtain ⟨nL, hnL⟩ : ∃ m, L.length = m := ⟨_, rfl⟩
  obtain ⟨nM, hnM⟩ : ∃ m, M.length = m := ⟨_, rfl⟩
  rw [hnL, hnM] at hlen
  have HNL := Lib.hid hnL
  have HNM := Lib.hid hnM
  have hsl := lkd_in (c := c) (a := a) (Q := L) (fun o ho => HOI.out o (by simp [ho]))
  rw [hnL] at hsl
  obtain ⟨sL, hsL⟩ : ∃ q, lkd c a L = q := ⟨_, rfl⟩
  obtain ⟨sM, hsM⟩ : ∃ q, lkd c a M = q := ⟨_, rfl⟩
  rw [hsL, hsM] at hr
  rw [hsL] at hsl
  have HSL := Lib.hid hsL
  have HSM := Lib.hid hsM
  have HR := Lib.hid hr
  obtain ⟨sl1, sl2⟩ := hsl
  clear hnL hnM hsL hsM hr
  go_enter Try.func50, Try.ntmps50
  go_wp2_with fail
  go_loopw [7, 8] (fun v i wx => Rxc w wx y rb rs g n F xs L M k ∧ Chg [] W0 wx ∧ ((i = .int .i64 0 ∧ v = .int .u64 0) ∨ (i = .int .i64 1 ∧ v = .int .u64 sL) ∨ (i = .int .i64 2 ∧ v = .int .u64 (sL + sM)))) (fun _ i _ => 2 - (intOf i).toNat)
  case atStart => exact ⟨h, Chg.refl _ _, .inl ⟨rfl, rfl⟩⟩
  case round =>
    clear h
    obtain ⟨h, hch, hcs⟩ := hrel
    rcases hcs with ⟨rfl, rfl⟩ | ⟨rfl, rfl⟩ | ⟨rfl, rfl⟩
    · have x1 := h.hd.at (i := 1) rfl
      go_wp2_with fail
      refine (rSide0 g _).mono ?_
      rintro e w3 ⟨rfl, rfl⟩
      clear x1
      go_wp2_with fail
      go_loopw [7, 10] (fun v i wx => ∃ m : Nat, m ≤ nL ∧ i = .int .i64 m ∧ v = .int .u64 (0 + lkd c a (L.take m)) ∧ Rxc w wx y rb rs g n F xs L M k ∧ Chg [] W0 wx) (fun _ i _ => nL - (intOf i).toNat)
      case atStart => exact ⟨0, by omega, rfl, by simp [lkd, isum], h, hch⟩
      case round =>
        clear h hch
        obtain ⟨m, hm, rfl, rfl, h, hch⟩ := hrel
        obtain ⟨s1, hs1, -⟩ := h.b.b
        by_cases hmt : m < nL
        · have hml : m < L.length := by rw [HNL.out]; exact hmt
          obtain ⟨cp, r1, -, -, -, t0, t1, t2, t3, t4⟩ := hs1.at hml
          rw [HNL.out] at r1
          have htk := lkd_take (c := c) (a := a) hml
          have hin := HOI.out _ (List.mem_append.2 (.inl (getD_mem hml)))
          have hls := lkd_in (c := c) (a := a) (Q := L.take m) (fun z hz => HOI.out z (List.mem_append.2 (.inl (List.mem_of_mem_take hz))))
          rw [List.length_take, Nat.min_eq_left (by omega)] at hls
          generalize L.getD m Ord.zero = o at *
          have hl1 := lk1_in (c := c) (a := a) hin
          obtain ⟨sq, hsq⟩ : ∃ q, lkd c a (L.take m) = q := ⟨_, rfl⟩
          rw [hsq] at htk hls ⊢
          have HTK := Lib.hid htk
          have HIN := Lib.hid hin
          have HLK : Hid (lk1 c a o = if o.client = c ∧ lockA o = a then lockN o else 0) := rfl
          obtain ⟨ls1, ls2⟩ := hls
          obtain ⟨l11, l12⟩ := hl1
          have j1 : (0 : Int) ≤ (m : Int) := by omega
          have j2 : (m : Int) < (nL : Int) := by omega
          have dm : decide ((m : Int) < (nL : Int)) = true := by simp; omega
          have dm2 : decide (m < nL) = true := by simp; omega
          clear hsq htk hin hml hs1
          go_wp2_with fail
          refine (needs_any o HIN.out wr).mono ?_
          rintro e w2 ⟨rfl, c2⟩
          have r1' := c2.cell r1 (by simp)
          have t1' := c2.cell t1 (by simp)
          have h2 := h.to c2
          have hc2 := hch.trans c2
          clear h hch c2 r1 t0 t1 t2 t3 t4
          obtain ⟨lA, hlA⟩ : ∃ l, lockA o = l := ⟨_, rfl⟩
          obtain ⟨lN, hlN⟩ : ∃ l, lockN o = l := ⟨_, rfl⟩
          rw [hlA, hlN] at HLK
          rw [hlA, hlN]
          obtain ⟨l1v, hl1v⟩ : ∃ l, lk1 c a o = l := ⟨_, rfl⟩
          rw [hl1v] at HLK HTK l11 l12
          clear hlA hlN hl1v
          by_cases e1 : o.client = c
          · by_cases e2 : lA = a
            · have e3 : l1v = lN := by have := HLK.out; rw [if_pos ⟨e1, e2⟩] at this; exact this
              have d1 : (o.client == c) = true := by simp [e1]
              have d2 : (lA == a) = true := by simp [e2]
              have wq : IntKind.u64.wrap (0 + sq + lN) = 0 + sq + lN := by rw [← e3]; simp [IntKind.wrap, IntKind.bits, IntKind.signed]; omega
              have wq0 : IntKind.u64.wrap (sq + lN) = sq + lN := by rw [← e3]; simp [IntKind.wrap, IntKind.bits, IntKind.signed]; omega
              have E3 := Lib.hid e3
              clear e1 e2 e3
              go_wp2_with fail
              go_roundw
              case rel => exact ⟨m + 1, by omega, by go_num, by rw [HTK.out, E3.out]; simp, h2, hc2⟩
              case measure => simp [intOf]; omega
            · have e3 : l1v = 0 := by have := HLK.out; rw [if_neg (fun z => e2 z.2)] at this; exact this
              have d1 : (o.client == c) = true := by simp [e1]
              have d2 : (lA == a) = false := by simp [e2]
              have E3 := Lib.hid e3
              clear e1 e2 e3
              go_wp2_with fail
              go_roundw
              case rel => exact ⟨m + 1, by omega, by go_num, by rw [HTK.out, E3.out]; simp, h2, hc2⟩
              case measure => simp [intOf]; omega
          · have e3 : l1v = 0 := by have := HLK.out; rw [if_neg (fun z => e1 z.1)] at this; exact this
            have d1 : (o.client == c) = false := by simp [e1]
            have E3 := Lib.hid e3
            clear e1 e3
            go_wp2_with fail
            go_roundw
            case rel => exact ⟨m + 1, by omega, by go_num, by rw [HTK.out, E3.out]; simp, h2, hc2⟩
            case measure => simp [intOf]; omega
        · obtain rfl : m = nL := by omega
          obtain ⟨ar, cr, r1, -, -, -⟩ := hs1.row
          rw [HNL.out] at r1
          have e9 : 0 + lkd c a (L.take m) = sL := by rw [List.take_of_length_le (by rw [HNL.out]; exact Nat.le_refl _)]; rw [HSL.out]; simp
          rw [e9]
          clear e9 hs1
          go_wp2_with fail
          go_roundw
          case rel => exact ⟨h, hch, .inr (.inl ⟨rfl, rfl⟩)⟩
          case measure => simp [intOf]
    · have x1 := h.hd.at (i := 1) rfl
      go_wp2_with fail
      refine (rSide2 g _).mono ?_
      rintro e w3 ⟨rfl, rfl⟩
      clear x1
      go_wp2_with fail
      go_loopw [7, 10] (fun v i wx => ∃ m : Nat, m ≤ nM ∧ i = .int .i64 m ∧ v = .int .u64 (sL + lkd c a (M.take m)) ∧ Rxc w wx y rb rs g n F xs L M k ∧ Chg [] W0 wx) (fun _ i _ => nM - (intOf i).toNat)
      case atStart => exact ⟨0, by omega, rfl, by simp [lkd, isum], h, hch⟩
      case round =>
        clear h hch
        obtain ⟨m, hm, rfl, rfl, h, hch⟩ := hrel
        obtain ⟨s1, hs1, -⟩ := h.b.a
        by_cases hmt : m < nM
        · have hml : m < M.length := by rw [HNM.out]; exact hmt
          obtain ⟨cp, r1, -, -, -, t0, t1, t2, t3, t4⟩ := hs1.at hml
          rw [HNM.out] at r1
          have htk := lkd_take (c := c) (a := a) hml
          have hin := HOI.out _ (List.mem_append.2 (.inr (getD_mem hml)))
          have hls := lkd_in (c := c) (a := a) (Q := M.take m) (fun z hz => HOI.out z (List.mem_append.2 (.inr (List.mem_of_mem_take hz))))
          rw [List.length_take, Nat.min_eq_left (by omega)] at hls
          generalize M.getD m Ord.zero = o at *
          have hl1 := lk1_in (c := c) (a := a) hin
          obtain ⟨sq, hsq⟩ : ∃ q, lkd c a (M.take m) = q := ⟨_, rfl⟩
          rw [hsq] at htk hls ⊢
          have HTK := Lib.hid htk
          have HIN := Lib.hid hin
          have HLK : Hid (lk1 c a o = if o.client = c ∧ lockA o = a then lockN o else 0) := rfl
          obtain ⟨ls1, ls2⟩ := hls
          obtain ⟨l11, l12⟩ := hl1
          have j1 : (0 : Int) ≤ (m : Int) := by omega
          have j2 : (m : Int) < (nM : Int) := by omega
          have dm : decide ((m : Int) < (nM : Int)) = true := by simp; omega
          have dm2 : decide (m < nM) = true := by simp; omega
          clear hsq htk hin hml hs1
          go_wp2_with fail
          refine (needs_any o HIN.out wr).mono ?_
          rintro e w2 ⟨rfl, c2⟩
          have r1' := c2.cell r1 (by simp)
          have t1' := c2.cell t1 (by simp)
          have h2 := h.to c2
          have hc2 := hch.trans c2
          clear h hch c2 r1 t0 t1 t2 t3 t4
          obtain ⟨lA, hlA⟩ : ∃ l, lockA o = l := ⟨_, rfl⟩
          obtain ⟨lN, hlN⟩ : ∃ l, lockN o = l := ⟨_, rfl⟩
          rw [hlA, hlN] at HLK
          rw [hlA, hlN]
          obtain ⟨l1v, hl1v⟩ : ∃ l, lk1 c a o = l := ⟨_, rfl⟩
          rw [hl1v] at HLK HTK l11 l12
          clear hlA hlN hl1v
          by_cases e1 : o.client = c
          · by_cases e2 : lA = a
            · have e3 : l1v = lN := by have := HLK.out; rw [if_pos ⟨e1, e2⟩] at this; exact this
              have d1 : (o.client == c) = true := by simp [e1]
              have d2 : (lA == a) = true := by simp [e2]
              have wq : IntKind.u64.wrap (sL + sq + lN) = sL + sq + lN := by rw [← e3]; simp [IntKind.wrap, IntKind.bits, IntKind.signed]; omega
        
              have E3 := Lib.hid e3
              clear e1 e2 e3
              go_wp2_with fail
              go_roundw
              case rel => exact ⟨m + 1, by omega, by go_num, by rw [HTK.out, E3.out]; rw [Int.add_assoc], h2, hc2⟩
              case measure => simp [intOf]; omega
            · have e3 : l1v = 0 := by have := HLK.out; rw [if_neg (fun z => e2 z.2)] at this; exact this
              have d1 : (o.client == c) = true := by simp [e1]
              have d2 : (lA == a) = false := by simp [e2]
              have E3 := Lib.hid e3
              clear e1 e2 e3
              go_wp2_with fail
              go_roundw
              case rel => exact ⟨m + 1, by omega, by go_num, by rw [HTK.out, E3.out]; simp, h2, hc2⟩
              case measure => simp [intOf]; omega
          · have e3 : l1v = 0 := by have := HLK.out; rw [if_neg (fun z => e1 z.1)] at this; exact this
            have d1 : (o.client == c) = false := by simp [e1]
            have E3 := Lib.hid e3
            clear e1 e3
            go_wp2_with fail
            go_roundw
            case rel => exact ⟨m + 1, by omega, by go_num, by rw [HTK.out, E3.out]; simp, h2, hc2⟩
            case measure => simp [intOf]; omega
        · obtain rfl : m = nM := by omega
          obtain ⟨ar, cr, r1, -, -, -⟩ := hs1.row
          rw [HNM.out] at r1
          have e9 : sL + lkd c a (M.take m) = sL + sM := by rw [List.take_of_length_le (by rw [HNM.out]; exact Nat.le_refl _)]; rw [HSM.out]
          rw [e9]
          clear e9 hs1
          go_wp2_with fail
          go_roundw
          case rel => exact ⟨h, hch, .inr (.inr ⟨rfl, rfl⟩)⟩
          case measure => simp [intOf]
    · rw [HR.out]
      go_wp2_with fail
      go_ret
      exact ⟨rfl, hch⟩
end Go.Proofs.Yteabcpmpcbjicaa
