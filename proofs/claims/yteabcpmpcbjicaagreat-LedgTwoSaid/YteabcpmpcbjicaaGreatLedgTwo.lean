
import Derived.Test.YteabcpmpcbjicaaGreatTwoR
import Derived.Test.YteabcpmpcbjicaaGreatShell
import Derived.Deep.CutBlock
namespace Go.Proofs.YteabcpmpcbjicaaGreat
set_option linter.unusedVariables false
set_option linter.unusedSimpArgs false
set_option maxRecDepth 100000
open Go Go.Proofs Go.RowKit
attribute [local go_sem ↓] Go.wp_at_zero Go.wp_at_succ

theorem cell_blk2 {w : World} {b o : Nat} {v : Value} (h : w.cell? ⟨b, o, none⟩ = some v) : b < w.heap.size := cell_blk h
/-- Two ledgers, two rows of entries, and the rows of numbers. -/
structure TwoS (w wr : World) (x y gA gS : Nat) (FX FY : List Nat) (v0 v1 : Value) (R0 R1 : List Ent) (SX SY : LS) (tx ty : Nat) (sa sb : Value) : Prop where
  x : LedX w wr x 2 FX SX tx
  y : LedX w wr y 2 FY SY ty
  a : Blk wr gA 93 [v0, v1]
  s : Blk wr gS 57 [sa, sb]
  r0 : Rw wr v0 R0
  r1 : Rw wr v1 R1
  xy : ∀ z ∈ FX, z ∉ FY
  nA : gA ∉ FX ∧ gA ∉ FY
  nS : gS ∉ FX ∧ gS ∉ FY
  AS : gA ≠ gS
  d0 : ∀ z ∈ ob1 v0, z ∉ FX ∧ z ∉ FY ∧ z ≠ gA ∧ z ≠ gS ∧ z ∉ ob1 v1 ∧ w.heap.size ≤ z
  d1 : ∀ z ∈ ob1 v1, z ∉ FX ∧ z ∉ FY ∧ z ≠ gA ∧ z ≠ gS ∧ w.heap.size ≤ z
  lo : w.heap.size ≤ gA ∧ w.heap.size ≤ gS
section
variable {w wr : World} {x y gA gS : Nat} {FX FY : List Nat} {v0 v1 : Value} {R0 R1 : List Ent} {SX SY : LS} {tx ty : Nat} {sa sb : Value}
theorem TwoS.to {w' : World} (h : TwoS w wr x y gA gS FX FY v0 v1 R0 R1 SX SY tx ty sa sb) (c : Chg [] wr w') : TwoS w w' x y gA gS FX FY v0 v1 R0 R1 SX SY tx ty sa sb :=
  ⟨h.x.to c, h.y.to c, h.a.chg c (by simp), h.s.chg c (by simp), h.r0.chg c (by simp), h.r1.chg c (by simp), h.xy, h.nA, h.nS, h.AS, h.d0, h.d1, h.lo⟩
theorem TwoS.doX {w' : World} {FX' : List Nat} {SX' : LS} {tx' : Nat} (h : TwoS w wr x y gA gS FX FY v0 v1 R0 R1 SX SY tx ty sa sb) (k : LedX w w' x 2 FX' SX' tx') (c : Chg FX wr w') (g : Grw wr.heap.size FX FX') : TwoS w w' x y gA gS FX' FY v0 v1 R0 R1 SX' SY tx' ty sa sb := by
  refine ⟨k, h.y.aside c (fun z hz => ⟨h.xy z hz, (h.x.lt z hz).1⟩), h.a.chg c h.nA.1, h.s.chg c h.nS.1, h.r0.chg c (fun z hz => (h.d0 z hz).1), h.r1.chg c (fun z hz => (h.d1 z hz).1), fun z hz hm => ?_, ⟨fun hm => ?_, h.nA.2⟩, ⟨fun hm => ?_, h.nS.2⟩, h.AS, fun z hz => ⟨fun hm => ?_, (h.d0 z hz).2⟩, fun z hz => ⟨fun hm => ?_, (h.d1 z hz).2⟩, h.lo⟩
  · rcases g z hz with q | q
    · exact h.xy z q hm
    · have := (h.y.lt z hm).2; omega
  · rcases g _ hm with q | q
    · exact h.nA.1 q
    · have := h.a.lt; omega
  · rcases g _ hm with q | q
    · exact h.nS.1 q
    · have := h.s.lt; omega
  · rcases g _ hm with q | q
    · exact (h.d0 z hz).1 q
    · have := h.r0.lt z hz; omega
  · rcases g _ hm with q | q
    · exact (h.d1 z hz).1 q
    · have := h.r1.lt z hz; omega
theorem TwoS.doY {w' : World} {FY' : List Nat} {SY' : LS} {ty' : Nat} (h : TwoS w wr x y gA gS FX FY v0 v1 R0 R1 SX SY tx ty sa sb) (k : LedX w w' y 2 FY' SY' ty') (c : Chg FY wr w') (g : Grw wr.heap.size FY FY') : TwoS w w' x y gA gS FX FY' v0 v1 R0 R1 SX SY' tx ty' sa sb := by
  refine ⟨h.x.aside c (fun z hz => ⟨fun hm => h.xy z hm hz, (h.y.lt z hz).1⟩), k, h.a.chg c h.nA.2, h.s.chg c h.nS.2, h.r0.chg c (fun z hz => (h.d0 z hz).2.1), h.r1.chg c (fun z hz => (h.d1 z hz).2.1), fun z hz hm => ?_, ⟨h.nA.1, fun hm => ?_⟩, ⟨h.nS.1, fun hm => ?_⟩, h.AS, fun z hz => ⟨(h.d0 z hz).1, fun hm => ?_, (h.d0 z hz).2.2⟩, fun z hz => ⟨(h.d1 z hz).1, fun hm => ?_, (h.d1 z hz).2.2⟩, h.lo⟩
  · rcases g z hm with q | q
    · exact h.xy z hz q
    · have := (h.x.lt z hz).2; omega
  · rcases g _ hm with q | q
    · exact h.nA.2 q
    · have := h.a.lt; omega
  · rcases g _ hm with q | q
    · exact h.nS.2 q
    · have := h.s.lt; omega
  · rcases g _ hm with q | q
    · exact (h.d0 z hz).2.1 q
    · have := h.r0.lt z hz; omega
  · rcases g _ hm with q | q
    · exact (h.d1 z hz).2.1 q
    · have := h.r1.lt z hz; omega
theorem TwoS.lay0 {w' : World} {v3 : Value} {R3 : List Ent} (h : TwoS w wr x y gA gS FX FY v0 v1 R0 R1 SX SY tx ty sa sb) (r : Rw w' v3 R3) (b : Blk w' gA 93 [v3, v1]) (c : Chg (gA :: ob1 v0) wr w') (hat : ∀ z ∈ ob1 v3, z ∈ ob1 v0 ∨ wr.heap.size ≤ z) : TwoS w w' x y gA gS FX FY v3 v1 R3 R1 SX SY tx ty sa sb := by
  have hc : ∀ z ∈ gA :: ob1 v0, z ∉ FX ∧ z ∉ FY ∧ z ≠ gS ∧ z ∉ ob1 v1 ∧ w.heap.size ≤ z := fun z hz => by
    rcases List.mem_cons.1 hz with q | q
    · subst q; exact ⟨h.nA.1, h.nA.2, h.AS, fun hm => (h.d1 _ hm).2.2.1 rfl, h.lo.1⟩
    · have := h.d0 z q; exact ⟨this.1, this.2.1, this.2.2.2.1, this.2.2.2.2.1, this.2.2.2.2.2⟩
  refine ⟨h.x.aside c (fun z hz => ⟨(hc z hz).1, (hc z hz).2.2.2.2⟩), h.y.aside c (fun z hz => ⟨(hc z hz).2.1, (hc z hz).2.2.2.2⟩), b, h.s.chg c (fun hm => (hc _ hm).2.2.1 rfl), r, h.r1.chg c (fun z hz hm => (hc z hm).2.2.2.1 hz), h.xy, h.nA, h.nS, h.AS, fun z hz => ?_, h.d1, h.lo⟩
  rcases hat z hz with q | q
  · exact h.d0 z q
  · exact ⟨fun hm => by have := (h.x.lt z hm).2; omega, fun hm => by have := (h.y.lt z hm).2; omega, fun e => by have := h.a.lt; omega, fun e => by have := h.s.lt; omega, fun hm => by have := h.r1.lt z hm; omega, by have := h.x.c.size; omega⟩
theorem TwoS.lay1 {w' : World} {v3 : Value} {R3 : List Ent} (h : TwoS w wr x y gA gS FX FY v0 v1 R0 R1 SX SY tx ty sa sb) (r : Rw w' v3 R3) (b : Blk w' gA 93 [v0, v3]) (c : Chg (gA :: ob1 v1) wr w') (hat : ∀ z ∈ ob1 v3, z ∈ ob1 v1 ∨ wr.heap.size ≤ z) : TwoS w w' x y gA gS FX FY v0 v3 R0 R3 SX SY tx ty sa sb := by
  have hc : ∀ z ∈ gA :: ob1 v1, z ∉ FX ∧ z ∉ FY ∧ z ≠ gS ∧ z ∉ ob1 v0 ∧ w.heap.size ≤ z := fun z hz => by
    rcases List.mem_cons.1 hz with q | q
    · subst q; exact ⟨h.nA.1, h.nA.2, h.AS, fun hm => (h.d0 _ hm).2.2.1 rfl, h.lo.1⟩
    · have := h.d1 z q; exact ⟨this.1, this.2.1, this.2.2.2.1, fun hm => (h.d0 z hm).2.2.2.2.1 q, this.2.2.2.2⟩
  refine ⟨h.x.aside c (fun z hz => ⟨(hc z hz).1, (hc z hz).2.2.2.2⟩), h.y.aside c (fun z hz => ⟨(hc z hz).2.1, (hc z hz).2.2.2.2⟩), b, h.s.chg c (fun hm => (hc _ hm).2.2.1 rfl), h.r0.chg c (fun z hz hm => (hc z hm).2.2.2.1 hz), r, h.xy, h.nA, h.nS, h.AS, fun z hz => ?_, fun z hz => ?_, h.lo⟩
  · have := h.d0 z hz
    refine ⟨this.1, this.2.1, this.2.2.1, this.2.2.2.1, fun hm => ?_, this.2.2.2.2.2⟩
    rcases hat z hm with q | q
    · exact this.2.2.2.2.1 q
    · have := h.r0.lt z hz; omega
  · rcases hat z hz with q | q
    · exact h.d1 z q
    · exact ⟨fun hm => by have := (h.x.lt z hm).2; omega, fun hm => by have := (h.y.lt z hm).2; omega, fun e => by have := h.a.lt; omega, fun e => by have := h.s.lt; omega, by have := h.x.c.size; omega⟩
end
theorem en2_tr {c : Int} {i : Nat} {s : Int} {f q : Nat} (h : bits BinOp.and .u64 (s / 65536) 3 = 0) (hf : bits BinOp.and .u64 s 7 = f) (hq : bits BinOp.and .u64 (s / 32) 2047 = q) : ec (en2 c i s) = [.int .i64 c, .int .u64 i, .int .u64 f, .bool true, .int .i64 3, .int .i64 0, .int .i64 c, .bool false, .int .u64 0, .int .u64 q, .int .i64 0] := by
  unfold en2 eOf
  rw [if_pos h, hf, hq]
  simp [ec, ent2]
theorem en2_no {c : Int} {i : Nat} {s : Int} {f a3 a4 q : Nat} (h : ¬ bits BinOp.and .u64 (s / 65536) 3 = 0) (hf : bits BinOp.and .u64 s 7 = f) (h3 : bits BinOp.and .u64 (s / 8) 1 = a3) (l3 : a3 < 2) (h4 : bits BinOp.and .u64 (s / 16) 1 = a4) (hq : bits BinOp.and .u64 (s / 32) 2047 = q) : ec (en2 c i s) = [.int .i64 c, .int .u64 i, .int .u64 f, .bool true, .int .i64 ((a3 : Int) + 1), .int .i64 a4, .int .i64 0, .bool false, .int .u64 0, .int .u64 q, .int .i64 0] := by
  unfold en2 eOf
  rw [if_neg h, hf, h3, h4, hq]
  have : ¬ (a3 : Int) + 1 = 3 := by omega
  simp [ec, ent2, this]
theorem takeLen {z : List Int} {m : Nat} (h : m ≤ z.length) : (z.take m).length = m := by rw [List.length_take]; omega
section
variable {w wr : World} {x y gA gS : Nat} {FX FY : List Nat} {v0 v1 : Value} {R0 R1 : List Ent} {SX SY : LS} {tx ty : Nat} {sa sb : Value}
theorem TwoS.box {w' : World} {g : Nat} (h : TwoS w wr x y gA gS FX FY v0 v1 R0 R1 SX SY tx ty sa sb) (c : Chg [g] wr w') (n : g ∉ FX ∧ g ∉ FY ∧ g ≠ gA ∧ g ≠ gS ∧ g ∉ ob1 v0 ∧ g ∉ ob1 v1 ∧ w.heap.size ≤ g) : TwoS w w' x y gA gS FX FY v0 v1 R0 R1 SX SY tx ty sa sb := by
  obtain ⟨n1, n2, n3, n4, n5, n6, n7⟩ := n
  exact ⟨h.x.aside c (fun z hz => by simp at hz; subst hz; exact ⟨n1, n7⟩), h.y.aside c (fun z hz => by simp at hz; subst hz; exact ⟨n2, n7⟩), h.a.chg c (by simp; exact fun e => n3 e.symm), h.s.chg c (by simp; exact fun e => n4 e.symm), h.r0.chg c (fun z hz hm => by simp at hm; subst hm; exact n5 hz), h.r1.chg c (fun z hz hm => by simp at hm; subst hm; exact n6 hz), h.xy, h.nA, h.nS, h.AS, h.d0, h.d1, h.lo⟩
end
set_option maxHeartbeats 16000000 in
theorem ledgtwo_walk (a0 a1 : Option Addr) (n0 c0 n1 c1 : Nat) (z0 z1 : List Int) (mix : Int) (w : World) (hn0 : n0 = z0.length) (hm0 : n0 ≤ 9223372036854775807) (hr0 : Row64 w a0 z0) (hn1 : n1 = z1.length) (hm1 : n1 ≤ 9223372036854775807) (hr1 : Row64 w a1 z1) :
    Calls Tryz.prog 9 #[.slice a0 n0 c0, .slice a1 n1 c1, .int .i64 mix] w fun e w' => e = .returned (.bool true) ∧ Below w.heap.size w w' := by
  have HR0 := Lib.hid hr0
  have HR1 := Lib.hid hr1
  have HNZ0 := Lib.hid hn0
  have HNZ1 := Lib.hid hn1
  obtain ⟨A, hA⟩ : ∃ A, z0.take 10 = A := ⟨_, rfl⟩
  obtain ⟨B, hB⟩ : ∃ B, z1.take 10 = B := ⟨_, rfl⟩
  have HA : Hid (A = z0.take 10) := hA.symm
  have HB : Hid (B = z1.take 10) := hB.symm
  have HAL : Hid (A.length ≤ 10) := by show _ ≤ _; rw [← hA, List.length_take]; omega
  have HBL : Hid (B.length ≤ 10) := by show _ ≤ _; rw [← hB, List.length_take]; omega
  clear hA hB hr0 hr1 hn0 hn1
  go_enter Tryz.func9, Tryz.ntmps9
  go_wp2_with fail
  refine (ledNew 2 (by omega) (by omega) w).mono ?_
  rintro y' w1 ⟨x, FX, rfl, h1⟩
  have H1 := Lib.hid h1
  clear h1
  go_wp2_with fail
  refine (ledNew 2 (by omega) (by omega) w1).mono ?_
  rintro y' w2 ⟨y, FY, rfl, h2⟩
  have H2 := Lib.hid h2
  clear h2
  have bA : Blk ((w2.alloc (.cells #[.slice none 0 0, .slice none 0 0] 93)).alloc (.cells #[.slice a0 n0 c0, .slice a1 n1 c1] 57)) w2.heap.size 93 [.slice none 0 0, .slice none 0 0] := (Blk.new w2 _ _).alloc _
  have bS : Blk ((w2.alloc (.cells #[.slice none 0 0, .slice none 0 0] 93)).alloc (.cells #[.slice a0 n0 c0, .slice a1 n1 c1] 57)) (w2.heap.size + 1) 57 [.slice a0 n0 c0, .slice a1 n1 c1] := by
    have := Blk.new (w2.alloc (.cells #[.slice none 0 0, .slice none 0 0] 93)) [.slice a0 n0 c0, .slice a1 n1 c1] 57
    rwa [World.size_alloc] at this
  have cA : Chg [] w2 ((w2.alloc (.cells #[.slice none 0 0, .slice none 0 0] 93)).alloc (.cells #[.slice a0 n0 c0, .slice a1 n1 c1] 57)) := ((Chg.refl _ _).alloc _).alloc _
  have HT : Hid (TwoS w ((w2.alloc (.cells #[.slice none 0 0, .slice none 0 0] 93)).alloc (.cells #[.slice a0 n0 c0, .slice a1 n1 c1] 57)) x y w2.heap.size (w2.heap.size + 1) FX FY (.slice none 0 0) (.slice none 0 0) [] [] (comb (lo2 []) (lo2 [])) (comb (lo2 []) (lo2 [])) 0 0 (.slice a0 n0 c0) (.slice a1 n1 c1)) := by
    have hx := H1.out.to H2.out.c
    have hy := H2.out.rebase2 H1.out.c
    rw [LS1_two] at hx hy
    refine ⟨hx.to cA, hy.to cA, bA, bS, Rw.nil _, Rw.nil _, fun z hz hm => ?_, ⟨fun hm => ?_, fun hm => ?_⟩, ⟨fun hm => ?_, fun hm => ?_⟩, by omega, by simp [ob1, Value.ownBlock], by simp [ob1, Value.ownBlock], ⟨hx.c.size, by have := hx.c.size; omega⟩⟩
    · have := (H1.out.lt z hz).2; have := (H2.out.lt z hm).1; omega
    · have := (hx.lt _ hm).2; omega
    · have := (hy.lt _ hm).2; omega
    · have := (hx.lt _ hm).2; omega
    · have := (hy.lt _ hm).2; omega
  clear bA bS cA H1 H2
  go_upto_region 6 with (fail)
  obtain ⟨gA, hgA⟩ : ∃ g, w2.heap.size = g := ⟨_, rfl⟩
  rw [hgA] at HT
  (try simp only [hgA])
  clear hgA
  obtain ⟨gS, hgS⟩ : ∃ g, gA + 1 = g := ⟨_, rfl⟩
  rw [hgS] at HT
  (try simp only [hgS])
  clear hgS
  generalize (w2.alloc _).alloc _ = W4 at *
  go_wp2_with fail
  go_loopw [28] (fun i wr => ∃ (la lb : List Int) (v0 v1 : Value) (FX FY : List Nat) (t : Nat), ((i = .int .i64 0 ∧ la = [] ∧ lb = [] ∧ t ≤ 0) ∨ (i = .int .i64 1 ∧ A = la ∧ lb = [] ∧ t ≤ 10) ∨ (i = .int .i64 2 ∧ A = la ∧ B = lb ∧ t ≤ 20)) ∧ Hid (TwoS w wr x y gA gS FX FY v0 v1 (rowE 0 la) (rowE 1 lb) (comb (lo2 la) (lo2 lb)) (comb (lo2 []) (lo2 [])) t 0 (.slice a0 n0 c0) (.slice a1 n1 c1))) (fun i _ => 2 - (intOf i).toNat)
  case atStart => exact ⟨[], [], _, _, FX, FY, 0, .inl ⟨rfl, rfl, rfl, by omega⟩, HT⟩
  case round =>
    clear HT
    obtain ⟨la, lb, v0, v1, FX, FY, t, hk, HT⟩ := hrel
    rcases hk with ⟨rfl, rfl, rfl, ht⟩ | ⟨rfl, rfl, rfl, ht⟩ | ⟨rfl, rfl, rfl, ht⟩
    · have z0c := HT.out.s.at (i := 0) rfl
      go_wp2_with fail
      go_loopw [12] (fun i wr => ∃ (m : Nat) (u0 u1 : Value) (FX : List Nat), m ≤ n0 ∧ m ≤ 10 ∧ i = .int .i64 m ∧ Hid (TwoS w wr x y gA gS FX FY u0 u1 (rowE 0 (z0.take m)) [] (comb (lo2 (z0.take m)) (lo2 [])) (comb (lo2 []) (lo2 [])) (t + m) 0 (.slice a0 n0 c0) (.slice a1 n1 c1))) (fun i _ => 10 - (intOf i).toNat)
      case atStart => exact ⟨0, v0, v1, FX, by omega, by omega, rfl, HT⟩
      case round =>
        clear HT
        obtain ⟨m, v0, v1, FX, hm1, hm2, rfl, H⟩ := hrel
        by_cases hin : m < n0 ∧ m < 10
        · obtain ⟨hl1, hl2⟩ := hin
          have hml : m < z0.length := by have := HNZ0.out; omega
          have i0 : (0 : Int) ≤ (m : Int) := by omega
          have i2 : (m : Int) < (n0 : Int) := by omega
          have i3 : (m : Int) < 10 := by omega
          have wj : IntKind.u64.wrap (m : Int) = m := by simp [IntKind.wrap, IntKind.bits, IntKind.signed]; omega
          obtain ⟨b, off, ea, hcell⟩ := row_cells HR0.out (k := m) (by have := HNZ0.out; omega)
          subst ea
          have s1 := hcell wr H.out.x.c.below
          obtain ⟨s, hs⟩ : ∃ u, z0.getD m 0 = u := ⟨_, rfl⟩
          rw [hs] at s1 hcell
          have HSZ := Lib.hid hs
          have HCE := Lib.hid hcell
          clear hs hcell
          have lb := cell_blk s1
          obtain ⟨f, hf, lf⟩ := and7_u64 s
          obtain ⟨a3, h3, l3⟩ : ∃ f : Nat, bits BinOp.and .u64 (s / 8) 1 = f ∧ f < 2 := low_u64 (s / 8) 1 (by omega)
          obtain ⟨a4, h4, l4⟩ : ∃ f : Nat, bits BinOp.and .u64 (s / 16) 1 = f ∧ f < 2 := low_u64 (s / 16) 1 (by omega)
          obtain ⟨q, hq, lq⟩ : ∃ f : Nat, bits BinOp.and .u64 (s / 32) 2047 = f ∧ f < 2048 := low_u64 (s / 32) 11 (by omega)
          have w3' : IntKind.i64.wrap (a3 : Int) = a3 := by simp [IntKind.wrap, IntKind.bits, IntKind.signed]; omega
          have w3b : IntKind.i64.wrap ((a3 : Int) + 1) = (a3 : Int) + 1 := by simp [IntKind.wrap, IntKind.bits, IntKind.signed]; omega
          have w4' : IntKind.i64.wrap (a4 : Int) = a4 := by simp [IntKind.wrap, IntKind.bits, IntKind.signed]; omega
          go_upto_region 11 with (fail)
          refine two_ent (kc := 0) (by intro c a d v w h; cases d <;> exact h) lb s1 i0 i2 wj hf h3 w3' w3b h4 w4' hq ?_
          intro v2 gE hbE c2 hgE
          intros
          have HGE := Lib.hid hgE
          have H2 := Lib.hid (H.out.to c2)
          have s2 := HCE.out v2 (H.out.x.c.trans c2).below
          clear s1 c2 hgE lb
          by_cases htr : bits BinOp.and .u64 (s / 65536) 3 = 0
          · have hec := en2_tr (c := 0) (i := m) htr hf hq
            have b1 : (bits BinOp.and .u64 (s / 65536) 3 == 0) = true := by simp [htr]
            have f4 := hbE.free 4
            have y4 := hbE.at (i := 4) rfl
            have f5 := hbE.free 5
            have y5 := hbE.at (i := 5) rfl
            have f6 := hbE.free 6
            have y6 := hbE.at (i := 6) rfl
            have f7 := hbE.free 7
            have y7 := hbE.at (i := 7) rfl
            have f8 := hbE.free 8
            have y8 := hbE.at (i := 8) rfl
            have f9 := hbE.free 9
            have y9 := hbE.at (i := 9) rfl
            have f10 := hbE.free 10
            have y10 := hbE.at (i := 10) rfl
            go_upto_region 14 with (fail)
            have cS : Chg [gE] v2 (((((((v2.setCell ⟨gE, 4, none⟩ (.int .i64 3)).setCell ⟨gE, 5, none⟩ (.int .i64 0)).setCell ⟨gE, 6, none⟩ (.int .i64 0)).setCell ⟨gE, 7, none⟩ (.bool false)).setCell ⟨gE, 8, none⟩ (.int .u64 0)).setCell ⟨gE, 9, none⟩ (.int .u64 q)).setCell ⟨gE, 10, none⟩ (.int .i64 0)) := ((((((((Chg.refl [gE] v2).setCell ⟨gE, 4, none⟩ (.int .i64 3) (.inl (by simp))).setCell ⟨gE, 5, none⟩ (.int .i64 0) (.inl (by simp))).setCell ⟨gE, 6, none⟩ (.int .i64 0) (.inl (by simp))).setCell ⟨gE, 7, none⟩ (.bool false) (.inl (by simp))).setCell ⟨gE, 8, none⟩ (.int .u64 0) (.inl (by simp))).setCell ⟨gE, 9, none⟩ (.int .u64 q) (.inl (by simp))).setCell ⟨gE, 10, none⟩ (.int .i64 0) (.inl (by simp)))
            have hbF : Blk (((((((v2.setCell ⟨gE, 4, none⟩ (.int .i64 3)).setCell ⟨gE, 5, none⟩ (.int .i64 0)).setCell ⟨gE, 6, none⟩ (.int .i64 0)).setCell ⟨gE, 7, none⟩ (.bool false)).setCell ⟨gE, 8, none⟩ (.int .u64 0)).setCell ⟨gE, 9, none⟩ (.int .u64 q)).setCell ⟨gE, 10, none⟩ (.int .i64 0)) gE 51 [.int .i64 0, .int .u64 m, .int .u64 f, .bool true, .int .i64 3, .int .i64 0, .int .i64 0, .bool false, .int .u64 0, .int .u64 q, .int .i64 0] := (((((((hbE.set 4 (.int .i64 3)).set 5 (.int .i64 0)).set 6 (.int .i64 0)).set 7 (.bool false)).set 8 (.int .u64 0)).set 9 (.int .u64 q)).set 10 (.int .i64 0))
            have hgF : gE ∉ FX ∧ gE ∉ FY ∧ gE ≠ gA ∧ gE ≠ gS ∧ gE ∉ ob1 v0 ∧ gE ∉ ob1 v1 ∧ w.heap.size ≤ gE := by
              have h2 := HGE.out
              exact ⟨fun hm => by have := (H.out.x.lt _ hm).2; omega, fun hm => by have := (H.out.y.lt _ hm).2; omega, fun e => by have := H.out.a.lt; omega, fun e => by have := H.out.s.lt; omega, fun hm => by have := H.out.r0.lt _ hm; omega, fun hm => by have := H.out.r1.lt _ hm; omega, by have := H.out.x.c.size; omega⟩
            have H2b := Lib.hid (H2.out.box cS hgF)
            clear H2 cS s2 hbE f4 f5 f6 f7 f8 f9 f10 y4 y5 y6 y7 y8 y9 y10 hf h3 h4 hq w3' w3b w4' b1 hgF
            generalize (((((((v2.setCell ⟨gE, 4, none⟩ (.int .i64 3)).setCell ⟨gE, 5, none⟩ (.int .i64 0)).setCell ⟨gE, 6, none⟩ (.int .i64 0)).setCell ⟨gE, 7, none⟩ (.bool false)).setCell ⟨gE, 8, none⟩ (.int .u64 0)).setCell ⟨gE, 9, none⟩ (.int .u64 q)).setCell ⟨gE, 10, none⟩ (.int .i64 0)) = V at *
            have H2 := H2b
            clear H2b
            have HTR := Lib.hid htr
            clear htr
            obtain ⟨e, he⟩ : ∃ e, en2 0 m s = e := ⟨_, rfl⟩
            rw [he] at hec
            have hE : Blk V gE 51 (ec e) := by rw [hec]; exact hbF
            have HE := Lib.hid hE
            obtain ⟨r, hD⟩ := do0 (z0.take m) [] s (by rw [takeLen (by omega)]; omega) (by simp)
            rw [takeLen (by omega), he] at hD
            have HD := Lib.hid hD
            have HEQ := Lib.hid he
            have HOK : Hid e.Ok := by show e.Ok; rw [← he]; exact en2_ok 0 m s (by omega) (by omega)
            clear hE hD he hec hbF
            have hb0 : gE ∉ ob1 v0 := fun hm => by have h1 := H2.out.r0.lt _ hm; have h2 := HGE.out; have h3 := (H.out.r0.lt _ hm); omega
            have hAE : gA ≠ gE := fun e => by have h1 := H.out.a.lt; have h2 := HGE.out; omega
            go_upto_region 14 with (fail)
            refine two_lay0 (by intro c a d v w h; cases d <;> exact h) (Lib.hid H2.out.a) HE (Lib.hid H2.out.r0) (by rw [rowE_len, takeLen (by omega)]; omega) (fun hm => (H2.out.d0 _ hm).2.2.1 rfl) hb0 hAE ?_
            intro v4 w3 rr rb rc rh
            intros
            have H3 := Lib.hid (H2.out.lay0 rr rb rc rh)
            have HE3 := Lib.hid (HE.out.chg rc (fun hm => by
              rcases List.mem_cons.1 hm with q | q
              · exact hAE q.symm
              · exact hb0 q))
            clear rr rb rc rh H2 HE hb0
            obtain ⟨y0, y1, y2, y3, y4, y5, y6, y7, y8, y9, y10⟩ := ent_cells HE3.out
            go_wp2_with fail
            refine (lxDo H3.out.x (by omega) e HOK.out _ r HD.out).mono ?_
            rintro y' v5 ⟨a5, d5, FX5, rfl, -, k5, c5, g5⟩
            have H4 := Lib.hid (H3.out.doX k5 c5 g5)
            clear H3 HE3 k5 c5 g5 y0 y1 y2 y3 y4 y5 y6 y7 y8 y9 y10
            have H5 : Hid (TwoS w v5 x y gA gS FX5 FY w3 v1 (rowE 0 (z0.take (m + 1))) [] (comb (lo2 (z0.take (m + 1))) (lo2 [])) (comb (lo2 []) (lo2 [])) (t + m + 1) 0 (.slice (some ⟨b, off, none⟩) n0 c0) (.slice a1 n1 c1)) := by
              show TwoS _ _ _ _ _ _ _ _ _ _ _ _ _ _ _ _ _ _
              have h1 := H4.out
              rw [take_sn (l := z0) (i := m) (by have := HNZ0.out; omega), HSZ.out, rowE_snoc, takeLen (by have := HNZ0.out; omega), HEQ.out]
              exact h1
            clear H4
            go_wp2_with fail
            go_roundw
            case rel => exact ⟨m + 1, w3, v1, FX5, by omega, by omega, by go_num, H5⟩
            case measure => simp [intOf]; omega
          · have hec := en2_no (c := 0) (i := m) htr hf h3 l3 h4 hq
            have b1 : (bits BinOp.and .u64 (s / 65536) 3 == 0) = false := by simp [htr]
            have hbF := hbE
            have HTR := Lib.hid htr
            clear htr
            go_upto_region 14 with (fail)
            clear s2 hbE hf h3 h4 hq w3' w3b w4' b1
            obtain ⟨e, he⟩ : ∃ e, en2 0 m s = e := ⟨_, rfl⟩
            rw [he] at hec
            have hE : Blk v2 gE 51 (ec e) := by rw [hec]; exact hbF
            have HE := Lib.hid hE
            obtain ⟨r, hD⟩ := do0 (z0.take m) [] s (by rw [takeLen (by omega)]; omega) (by simp)
            rw [takeLen (by omega), he] at hD
            have HD := Lib.hid hD
            have HEQ := Lib.hid he
            have HOK : Hid e.Ok := by show e.Ok; rw [← he]; exact en2_ok 0 m s (by omega) (by omega)
            clear hE hD he hec hbF
            have hb0 : gE ∉ ob1 v0 := fun hm => by have h1 := H2.out.r0.lt _ hm; have h2 := HGE.out; have h3 := (H.out.r0.lt _ hm); omega
            have hAE : gA ≠ gE := fun e => by have h1 := H.out.a.lt; have h2 := HGE.out; omega
            go_upto_region 14 with (fail)
            refine two_lay0 (by intro c a d v w h; cases d <;> exact h) (Lib.hid H2.out.a) HE (Lib.hid H2.out.r0) (by rw [rowE_len, takeLen (by omega)]; omega) (fun hm => (H2.out.d0 _ hm).2.2.1 rfl) hb0 hAE ?_
            intro v4 w3 rr rb rc rh
            intros
            have H3 := Lib.hid (H2.out.lay0 rr rb rc rh)
            have HE3 := Lib.hid (HE.out.chg rc (fun hm => by
              rcases List.mem_cons.1 hm with q | q
              · exact hAE q.symm
              · exact hb0 q))
            clear rr rb rc rh H2 HE hb0
            obtain ⟨y0, y1, y2, y3, y4, y5, y6, y7, y8, y9, y10⟩ := ent_cells HE3.out
            go_wp2_with fail
            refine (lxDo H3.out.x (by omega) e HOK.out _ r HD.out).mono ?_
            rintro y' v5 ⟨a5, d5, FX5, rfl, -, k5, c5, g5⟩
            have H4 := Lib.hid (H3.out.doX k5 c5 g5)
            clear H3 HE3 k5 c5 g5 y0 y1 y2 y3 y4 y5 y6 y7 y8 y9 y10
            have H5 : Hid (TwoS w v5 x y gA gS FX5 FY w3 v1 (rowE 0 (z0.take (m + 1))) [] (comb (lo2 (z0.take (m + 1))) (lo2 [])) (comb (lo2 []) (lo2 [])) (t + m + 1) 0 (.slice (some ⟨b, off, none⟩) n0 c0) (.slice a1 n1 c1)) := by
              show TwoS _ _ _ _ _ _ _ _ _ _ _ _ _ _ _ _ _ _
              have h1 := H4.out
              rw [take_sn (l := z0) (i := m) (by have := HNZ0.out; omega), HSZ.out, rowE_snoc, takeLen (by have := HNZ0.out; omega), HEQ.out]
              exact h1
            clear H4
            go_wp2_with fail
            go_roundw
            case rel => exact ⟨m + 1, w3, v1, FX5, by omega, by omega, by go_num, H5⟩
            case measure => simp [intOf]; omega
        · have hex : ¬ (m < n0 ∧ m < 10) := hin
          go_upto_region 9 with (fail)
          go_cut [40] from 33 to 40 (fun v wx => v = .bool false ∧ wr = wx)
          case first =>
            rcases Nat.lt_or_ge m n0 with hh | hh
            · have h6 : ¬ m < 10 := fun h7 => hex ⟨hh, h7⟩
              have d6 : decide ((m : Int) < 10) = false := by simp; omega
              go_wp2_with fail
              go_meet
              exact ⟨rfl, rfl⟩
            · have d6 : decide ((m : Int) < (n0 : Int)) = false := by simp; omega
              have d6b : decide (m < n0) = false := by simp; omega
              go_wp2_with fail
              go_meet
              exact ⟨rfl, rfl⟩
          case rest =>
            obtain ⟨rfl, rfl⟩ := hcut
            go_wp2_with fail
            go_roundw
            case rel =>
              have hmA : z0.take m = A := by
                have h1 := HNZ0.out
                rw [HA.out]
                by_cases q : m < 10
                · have : m = n0 := by omega
                  rw [List.take_of_length_le (by omega), List.take_of_length_le (by omega)]
                · have : m = 10 := by omega
                  rw [this]
              have h1 := H.out
              rw [hmA] at h1
              exact ⟨A, [], v0, v1, FX, FY, t + m, .inr (.inl ⟨by go_num, rfl, rfl, by omega⟩), h1⟩
            case measure => simp [intOf]
    · have z1c := HT.out.s.at (i := 1) rfl
      go_wp2_with fail
      go_loopw [12] (fun i wr => ∃ (m : Nat) (u0 u1 : Value) (FX : List Nat), m ≤ n1 ∧ m ≤ 10 ∧ i = .int .i64 m ∧ Hid (TwoS w wr x y gA gS FX FY u0 u1 (rowE 0 A) (rowE 1 (z1.take m)) (comb (lo2 A) (lo2 (z1.take m))) (comb (lo2 []) (lo2 [])) (t + m) 0 (.slice a0 n0 c0) (.slice a1 n1 c1))) (fun i _ => 10 - (intOf i).toNat)
      case atStart => exact ⟨0, v0, v1, FX, by omega, by omega, rfl, HT⟩
      case round =>
        clear HT
        obtain ⟨m, v0, v1, FX, hm1, hm2, rfl, H⟩ := hrel
        by_cases hin : m < n1 ∧ m < 10
        · obtain ⟨hl1, hl2⟩ := hin
          have hml : m < z1.length := by have := HNZ1.out; omega
          have i0 : (0 : Int) ≤ (m : Int) := by omega
          have i2 : (m : Int) < (n1 : Int) := by omega
          have i3 : (m : Int) < 10 := by omega
          have wj : IntKind.u64.wrap (m : Int) = m := by simp [IntKind.wrap, IntKind.bits, IntKind.signed]; omega
          obtain ⟨b, off, ea, hcell⟩ := row_cells HR1.out (k := m) (by have := HNZ1.out; omega)
          subst ea
          have s1 := hcell wr H.out.x.c.below
          obtain ⟨s, hs⟩ : ∃ u, z1.getD m 0 = u := ⟨_, rfl⟩
          rw [hs] at s1 hcell
          have HSZ := Lib.hid hs
          have HCE := Lib.hid hcell
          clear hs hcell
          have lb := cell_blk s1
          obtain ⟨f, hf, lf⟩ := and7_u64 s
          obtain ⟨a3, h3, l3⟩ : ∃ f : Nat, bits BinOp.and .u64 (s / 8) 1 = f ∧ f < 2 := low_u64 (s / 8) 1 (by omega)
          obtain ⟨a4, h4, l4⟩ : ∃ f : Nat, bits BinOp.and .u64 (s / 16) 1 = f ∧ f < 2 := low_u64 (s / 16) 1 (by omega)
          obtain ⟨q, hq, lq⟩ : ∃ f : Nat, bits BinOp.and .u64 (s / 32) 2047 = f ∧ f < 2048 := low_u64 (s / 32) 11 (by omega)
          have w3' : IntKind.i64.wrap (a3 : Int) = a3 := by simp [IntKind.wrap, IntKind.bits, IntKind.signed]; omega
          have w3b : IntKind.i64.wrap ((a3 : Int) + 1) = (a3 : Int) + 1 := by simp [IntKind.wrap, IntKind.bits, IntKind.signed]; omega
          have w4' : IntKind.i64.wrap (a4 : Int) = a4 := by simp [IntKind.wrap, IntKind.bits, IntKind.signed]; omega
          go_upto_region 11 with (fail)
          refine two_ent (kc := 1) (by intro c a d v w h; cases d <;> exact h) lb s1 i0 i2 wj hf h3 w3' w3b h4 w4' hq ?_
          intro v2 gE hbE c2 hgE
          intros
          have HGE := Lib.hid hgE
          have H2 := Lib.hid (H.out.to c2)
          have s2 := HCE.out v2 (H.out.x.c.trans c2).below
          clear s1 c2 hgE lb
          by_cases htr : bits BinOp.and .u64 (s / 65536) 3 = 0
          · have hec := en2_tr (c := 1) (i := m) htr hf hq
            have b1 : (bits BinOp.and .u64 (s / 65536) 3 == 0) = true := by simp [htr]
            have f4 := hbE.free 4
            have y4 := hbE.at (i := 4) rfl
            have f5 := hbE.free 5
            have y5 := hbE.at (i := 5) rfl
            have f6 := hbE.free 6
            have y6 := hbE.at (i := 6) rfl
            have f7 := hbE.free 7
            have y7 := hbE.at (i := 7) rfl
            have f8 := hbE.free 8
            have y8 := hbE.at (i := 8) rfl
            have f9 := hbE.free 9
            have y9 := hbE.at (i := 9) rfl
            have f10 := hbE.free 10
            have y10 := hbE.at (i := 10) rfl
            go_upto_region 14 with (fail)
            have cS : Chg [gE] v2 (((((((v2.setCell ⟨gE, 4, none⟩ (.int .i64 3)).setCell ⟨gE, 5, none⟩ (.int .i64 0)).setCell ⟨gE, 6, none⟩ (.int .i64 1)).setCell ⟨gE, 7, none⟩ (.bool false)).setCell ⟨gE, 8, none⟩ (.int .u64 0)).setCell ⟨gE, 9, none⟩ (.int .u64 q)).setCell ⟨gE, 10, none⟩ (.int .i64 0)) := ((((((((Chg.refl [gE] v2).setCell ⟨gE, 4, none⟩ (.int .i64 3) (.inl (by simp))).setCell ⟨gE, 5, none⟩ (.int .i64 0) (.inl (by simp))).setCell ⟨gE, 6, none⟩ (.int .i64 1) (.inl (by simp))).setCell ⟨gE, 7, none⟩ (.bool false) (.inl (by simp))).setCell ⟨gE, 8, none⟩ (.int .u64 0) (.inl (by simp))).setCell ⟨gE, 9, none⟩ (.int .u64 q) (.inl (by simp))).setCell ⟨gE, 10, none⟩ (.int .i64 0) (.inl (by simp)))
            have hbF : Blk (((((((v2.setCell ⟨gE, 4, none⟩ (.int .i64 3)).setCell ⟨gE, 5, none⟩ (.int .i64 0)).setCell ⟨gE, 6, none⟩ (.int .i64 1)).setCell ⟨gE, 7, none⟩ (.bool false)).setCell ⟨gE, 8, none⟩ (.int .u64 0)).setCell ⟨gE, 9, none⟩ (.int .u64 q)).setCell ⟨gE, 10, none⟩ (.int .i64 0)) gE 51 [.int .i64 1, .int .u64 m, .int .u64 f, .bool true, .int .i64 3, .int .i64 0, .int .i64 1, .bool false, .int .u64 0, .int .u64 q, .int .i64 0] := (((((((hbE.set 4 (.int .i64 3)).set 5 (.int .i64 0)).set 6 (.int .i64 1)).set 7 (.bool false)).set 8 (.int .u64 0)).set 9 (.int .u64 q)).set 10 (.int .i64 0))
            have hgF : gE ∉ FX ∧ gE ∉ FY ∧ gE ≠ gA ∧ gE ≠ gS ∧ gE ∉ ob1 v0 ∧ gE ∉ ob1 v1 ∧ w.heap.size ≤ gE := by
              have h2 := HGE.out
              exact ⟨fun hm => by have := (H.out.x.lt _ hm).2; omega, fun hm => by have := (H.out.y.lt _ hm).2; omega, fun e => by have := H.out.a.lt; omega, fun e => by have := H.out.s.lt; omega, fun hm => by have := H.out.r0.lt _ hm; omega, fun hm => by have := H.out.r1.lt _ hm; omega, by have := H.out.x.c.size; omega⟩
            have H2b := Lib.hid (H2.out.box cS hgF)
            clear H2 cS s2 hbE f4 f5 f6 f7 f8 f9 f10 y4 y5 y6 y7 y8 y9 y10 hf h3 h4 hq w3' w3b w4' b1 hgF
            generalize (((((((v2.setCell ⟨gE, 4, none⟩ (.int .i64 3)).setCell ⟨gE, 5, none⟩ (.int .i64 0)).setCell ⟨gE, 6, none⟩ (.int .i64 1)).setCell ⟨gE, 7, none⟩ (.bool false)).setCell ⟨gE, 8, none⟩ (.int .u64 0)).setCell ⟨gE, 9, none⟩ (.int .u64 q)).setCell ⟨gE, 10, none⟩ (.int .i64 0)) = V at *
            have H2 := H2b
            clear H2b
            have HTR := Lib.hid htr
            clear htr
            obtain ⟨e, he⟩ : ∃ e, en2 1 m s = e := ⟨_, rfl⟩
            rw [he] at hec
            have hE : Blk V gE 51 (ec e) := by rw [hec]; exact hbF
            have HE := Lib.hid hE
            obtain ⟨r, hD⟩ := do1 A (z1.take m) s (by have := HAL.out; omega) (by rw [takeLen (by omega)]; omega)
            rw [takeLen (by omega), he] at hD
            have HD := Lib.hid hD
            have HEQ := Lib.hid he
            have HOK : Hid e.Ok := by show e.Ok; rw [← he]; exact en2_ok 1 m s (by omega) (by omega)
            clear hE hD he hec hbF
            have hb0 : gE ∉ ob1 v1 := fun hm => by have h1 := H2.out.r1.lt _ hm; have h2 := HGE.out; have h3 := (H.out.r1.lt _ hm); omega
            have hAE : gA ≠ gE := fun e => by have h1 := H.out.a.lt; have h2 := HGE.out; omega
            go_upto_region 14 with (fail)
            refine two_lay1 (by intro c a d v w h; cases d <;> exact h) (Lib.hid H2.out.a) HE (Lib.hid H2.out.r1) (by rw [rowE_len, takeLen (by omega)]; omega) (fun hm => (H2.out.d1 _ hm).2.2.1 rfl) hb0 hAE ?_
            intro v4 w3 rr rb rc rh
            intros
            have H3 := Lib.hid (H2.out.lay1 rr rb rc rh)
            have HE3 := Lib.hid (HE.out.chg rc (fun hm => by
              rcases List.mem_cons.1 hm with q | q
              · exact hAE q.symm
              · exact hb0 q))
            clear rr rb rc rh H2 HE hb0
            obtain ⟨y0, y1, y2, y3, y4, y5, y6, y7, y8, y9, y10⟩ := ent_cells HE3.out
            go_wp2_with fail
            refine (lxDo H3.out.x (by omega) e HOK.out _ r HD.out).mono ?_
            rintro y' v5 ⟨a5, d5, FX5, rfl, -, k5, c5, g5⟩
            have H4 := Lib.hid (H3.out.doX k5 c5 g5)
            clear H3 HE3 k5 c5 g5 y0 y1 y2 y3 y4 y5 y6 y7 y8 y9 y10
            have H5 : Hid (TwoS w v5 x y gA gS FX5 FY v0 w3 (rowE 0 A) (rowE 1 (z1.take (m + 1))) (comb (lo2 A) (lo2 (z1.take (m + 1)))) (comb (lo2 []) (lo2 [])) (t + m + 1) 0 (.slice a0 n0 c0) (.slice (some ⟨b, off, none⟩) n1 c1)) := by
              show TwoS _ _ _ _ _ _ _ _ _ _ _ _ _ _ _ _ _ _
              have h1 := H4.out
              rw [take_sn (l := z1) (i := m) (by have := HNZ1.out; omega), HSZ.out, rowE_snoc, takeLen (by have := HNZ1.out; omega), HEQ.out]
              exact h1
            clear H4
            go_wp2_with fail
            go_roundw
            case rel => exact ⟨m + 1, v0, w3, FX5, by omega, by omega, by go_num, H5⟩
            case measure => simp [intOf]; omega
          · have hec := en2_no (c := 1) (i := m) htr hf h3 l3 h4 hq
            have b1 : (bits BinOp.and .u64 (s / 65536) 3 == 0) = false := by simp [htr]
            have hbF := hbE
            have HTR := Lib.hid htr
            clear htr
            go_upto_region 14 with (fail)
            clear s2 hbE hf h3 h4 hq w3' w3b w4' b1
            obtain ⟨e, he⟩ : ∃ e, en2 1 m s = e := ⟨_, rfl⟩
            rw [he] at hec
            have hE : Blk v2 gE 51 (ec e) := by rw [hec]; exact hbF
            have HE := Lib.hid hE
            obtain ⟨r, hD⟩ := do1 A (z1.take m) s (by have := HAL.out; omega) (by rw [takeLen (by omega)]; omega)
            rw [takeLen (by omega), he] at hD
            have HD := Lib.hid hD
            have HEQ := Lib.hid he
            have HOK : Hid e.Ok := by show e.Ok; rw [← he]; exact en2_ok 1 m s (by omega) (by omega)
            clear hE hD he hec hbF
            have hb0 : gE ∉ ob1 v1 := fun hm => by have h1 := H2.out.r1.lt _ hm; have h2 := HGE.out; have h3 := (H.out.r1.lt _ hm); omega
            have hAE : gA ≠ gE := fun e => by have h1 := H.out.a.lt; have h2 := HGE.out; omega
            go_upto_region 14 with (fail)
            refine two_lay1 (by intro c a d v w h; cases d <;> exact h) (Lib.hid H2.out.a) HE (Lib.hid H2.out.r1) (by rw [rowE_len, takeLen (by omega)]; omega) (fun hm => (H2.out.d1 _ hm).2.2.1 rfl) hb0 hAE ?_
            intro v4 w3 rr rb rc rh
            intros
            have H3 := Lib.hid (H2.out.lay1 rr rb rc rh)
            have HE3 := Lib.hid (HE.out.chg rc (fun hm => by
              rcases List.mem_cons.1 hm with q | q
              · exact hAE q.symm
              · exact hb0 q))
            clear rr rb rc rh H2 HE hb0
            obtain ⟨y0, y1, y2, y3, y4, y5, y6, y7, y8, y9, y10⟩ := ent_cells HE3.out
            go_wp2_with fail
            refine (lxDo H3.out.x (by omega) e HOK.out _ r HD.out).mono ?_
            rintro y' v5 ⟨a5, d5, FX5, rfl, -, k5, c5, g5⟩
            have H4 := Lib.hid (H3.out.doX k5 c5 g5)
            clear H3 HE3 k5 c5 g5 y0 y1 y2 y3 y4 y5 y6 y7 y8 y9 y10
            have H5 : Hid (TwoS w v5 x y gA gS FX5 FY v0 w3 (rowE 0 A) (rowE 1 (z1.take (m + 1))) (comb (lo2 A) (lo2 (z1.take (m + 1)))) (comb (lo2 []) (lo2 [])) (t + m + 1) 0 (.slice a0 n0 c0) (.slice (some ⟨b, off, none⟩) n1 c1)) := by
              show TwoS _ _ _ _ _ _ _ _ _ _ _ _ _ _ _ _ _ _
              have h1 := H4.out
              rw [take_sn (l := z1) (i := m) (by have := HNZ1.out; omega), HSZ.out, rowE_snoc, takeLen (by have := HNZ1.out; omega), HEQ.out]
              exact h1
            clear H4
            go_wp2_with fail
            go_roundw
            case rel => exact ⟨m + 1, v0, w3, FX5, by omega, by omega, by go_num, H5⟩
            case measure => simp [intOf]; omega
        · have hex : ¬ (m < n1 ∧ m < 10) := hin
          go_upto_region 9 with (fail)
          go_cut [40] from 33 to 40 (fun v wx => v = .bool false ∧ wr = wx)
          case first =>
            rcases Nat.lt_or_ge m n1 with hh | hh
            · have h6 : ¬ m < 10 := fun h7 => hex ⟨hh, h7⟩
              have d6 : decide ((m : Int) < 10) = false := by simp; omega
              go_wp2_with fail
              go_meet
              exact ⟨rfl, rfl⟩
            · have d6 : decide ((m : Int) < (n1 : Int)) = false := by simp; omega
              have d6b : decide (m < n1) = false := by simp; omega
              go_wp2_with fail
              go_meet
              exact ⟨rfl, rfl⟩
          case rest =>
            obtain ⟨rfl, rfl⟩ := hcut
            go_wp2_with fail
            go_roundw
            case rel =>
              have hmA : z1.take m = B := by
                have h1 := HNZ1.out
                rw [HB.out]
                by_cases q : m < 10
                · have : m = n1 := by omega
                  rw [List.take_of_length_le (by omega), List.take_of_length_le (by omega)]
                · have : m = 10 := by omega
                  rw [this]
              have h1 := H.out
              rw [hmA] at h1
              exact ⟨A, B, v0, v1, FX, FY, t + m, .inr (.inr ⟨by go_num, rfl, rfl, by omega⟩), h1⟩
            case measure => simp [intOf]
    · obtain ⟨p0, d0, e0⟩ := HT.out.r0.sl
      obtain ⟨p1, d1, e1⟩ := HT.out.r1.sl
      rw [rowE_len] at e0 e1
      obtain ⟨nA, hnA⟩ : ∃ k, A.length = k := ⟨_, rfl⟩
      obtain ⟨nB, hnB⟩ : ∃ k, B.length = k := ⟨_, rfl⟩
      rw [hnA] at e0
      rw [hnB] at e1
      subst e0 e1
      have A10 : nA ≤ 10 := by rw [← hnA]; exact HAL.out
      have B10 : nB ≤ 10 := by rw [← hnB]; exact HBL.out
      have HN0 := Lib.hid hnA
      have HN1 := Lib.hid hnB
      clear hnA hnB
      go_wp2_with fail
      go_loopw [14, 15] (fun vi vj wr => ∃ (i j : Nat) (FY : List Nat) (ty : Nat) (q0 q1 : Option Addr), q0 = p0 ∧ q1 = p1 ∧ i ≤ nA ∧ j ≤ nB ∧ ty ≤ i + j ∧ vi = .int .i64 i ∧ vj = .int .i64 j ∧ Hid (TwoS w wr x y gA gS FX FY (.slice p0 nA d0) (.slice p1 nB d1) (rowE 0 A) (rowE 1 B) (comb (lo2 A) (lo2 B)) (comb (lo2 (A.take i)) (lo2 (B.take j))) t ty (.slice a0 n0 c0) (.slice a1 n1 c1))) (fun vi vj _ => (nA + nB) - ((intOf vi).toNat + (intOf vj).toNat))
      case atStart => exact ⟨0, 0, FY, 0, _, _, rfl, rfl, by omega, by omega, by omega, rfl, rfl, HT⟩
      case round =>
        clear HT
        obtain ⟨i, j, FY, ty, q0', q1', hq0, hq1, hi, hj, hty, rfl, rfl, H⟩ := hrel
        clear hq0 hq1
        have q0 := H.out.a.at (i := 0) rfl
        have q1 := H.out.a.at (i := 1) rfl
        have i0 : (0 : Int) ≤ (i : Int) := by omega
        have j0 : (0 : Int) ≤ (j : Int) := by omega
        have i9 : (i : Int) ≤ 10 := by omega
        have j9 : (j : Int) ≤ 10 := by omega
        by_cases hi2 : i < nA
        · have dI : decide ((i : Int) < (nA : Int)) = true := by simp; omega
          have dI2 : decide (i < nA) = true := by simp; omega
          have i2 : (i : Int) < (nA : Int) := by omega
          by_cases hj2 : j < nB
          · have jE : ((j : Int) == (nB : Int)) = false := by simp; omega
            have jE2 : (j == nB) = false := by simp; omega
            have jE3 : decide (j = nB) = false := by simp; omega
            have j2 : (j : Int) < (nB : Int) := by omega
            have wij : IntKind.i64.wrap ((i : Int) + (j : Int)) = (i : Int) + (j : Int) := by simp [IntKind.wrap, IntKind.bits, IntKind.signed]; omega
            obtain ⟨rr, hrr, lrr⟩ : ∃ f : Nat, bits BinOp.and .i64 ((i : Int) + (j : Int)) 31 = f ∧ f < 32 := low_i64 _ 5 (by omega)
            have wrr : IntKind.u64.wrap (rr : Int) = rr := by simp [IntKind.wrap, IntKind.bits, IntKind.signed]; omega
            by_cases hb : bits BinOp.and IntKind.i64 (mix / 2 ^ rr) 1 = 1
            · have b1 : (bits BinOp.and IntKind.i64 (mix / 2 ^ rr) 1 == 1) = true := by simp [hb]
              clear hb
              obtain ⟨g, cc, eS, hc⟩ := H.out.r0.at (i := i) (by rw [rowE_len, HN0.out]; omega)
              injection eS with e1 e2 e3
              subst e1 e3
              clear e2
              rw [rowE_at (by rw [HN0.out]; omega)] at hc
              obtain ⟨sv, hsv⟩ : ∃ s, A.getD i 0 = s := ⟨_, rfl⟩
              rw [hsv] at hc
              obtain ⟨e, he⟩ : ∃ e, en2 0 i sv = e := ⟨_, rfl⟩
              rw [he] at hc
              have HOK : Hid e.Ok := by show e.Ok; rw [← he]; exact en2_ok 0 i sv (by omega) (by omega)
              obtain ⟨r, hD⟩ := do0 (A.take i) (B.take j) sv (by rw [takeLen (by rw [HN0.out]; omega)]; omega) (by rw [takeLen (by rw [HN1.out]; omega)]; omega)
              rw [takeLen (by rw [HN0.out]; omega), he] at hD
              have HD := Lib.hid hD
              have HSV := Lib.hid hsv
              have y0 : wr.cell? ⟨g, i * 11, none⟩ = some (.int .i64 e.client) := hc 0 _ rfl (by omega)
              have y1 := hc 1 _ rfl (by omega)
              have y2 := hc 2 _ rfl (by omega)
              have y3 := hc 3 _ rfl (by omega)
              have y4 := hc 4 _ rfl (by omega)
              have y5 := hc 5 _ rfl (by omega)
              have y6 := hc 6 _ rfl (by omega)
              have y7 := hc 7 _ rfl (by omega)
              have y8 := hc 8 _ rfl (by omega)
              have y9 := hc 9 _ rfl (by omega)
              have y10 := hc 10 _ rfl (by omega)
              clear he hD hsv hc
              go_wp2_with fail
              refine (lxDo H.out.y (by omega) e HOK.out _ r HD.out).mono ?_
              rintro y' v5 ⟨a5, d5, FY5, rfl, -, k5, c5, g5⟩
              have H4 := Lib.hid (H.out.doY k5 c5 g5)
              clear H k5 c5 g5 y0 y1 y2 y3 y4 y5 y6 y7 y8 y9 y10
              have h4 := H4.out
              rw [← HSV.out, ← take_sn (l := A) (i := i) (by rw [HN0.out]; omega)] at h4
              have H5 := Lib.hid h4
              clear H4 h4
              go_wp2_with fail
              go_roundw
              case rel => exact ⟨i + 1, j, FY5, ty + 1, _, _, rfl, rfl, by omega, by omega, by omega, by go_num, rfl, H5⟩
              case measure => simp [intOf]; omega
            · have b1 : (bits BinOp.and IntKind.i64 (mix / 2 ^ rr) 1 == 1) = false := by simp [hb]
              clear hb
              obtain ⟨g, cc, eS, hc⟩ := H.out.r1.at (i := j) (by rw [rowE_len, HN1.out]; omega)
              injection eS with e1 e2 e3
              subst e1 e3
              clear e2
              rw [rowE_at (by rw [HN1.out]; omega)] at hc
              obtain ⟨sv, hsv⟩ : ∃ s, B.getD j 0 = s := ⟨_, rfl⟩
              rw [hsv] at hc
              obtain ⟨e, he⟩ : ∃ e, en2 1 j sv = e := ⟨_, rfl⟩
              rw [he] at hc
              have HOK : Hid e.Ok := by show e.Ok; rw [← he]; exact en2_ok 1 j sv (by omega) (by omega)
              obtain ⟨r, hD⟩ := do1 (A.take i) (B.take j) sv (by rw [takeLen (by rw [HN0.out]; omega)]; omega) (by rw [takeLen (by rw [HN1.out]; omega)]; omega)
              rw [takeLen (by rw [HN1.out]; omega), he] at hD
              have HD := Lib.hid hD
              have HSV := Lib.hid hsv
              have y0 : wr.cell? ⟨g, j * 11, none⟩ = some (.int .i64 e.client) := hc 0 _ rfl (by omega)
              have y1 := hc 1 _ rfl (by omega)
              have y2 := hc 2 _ rfl (by omega)
              have y3 := hc 3 _ rfl (by omega)
              have y4 := hc 4 _ rfl (by omega)
              have y5 := hc 5 _ rfl (by omega)
              have y6 := hc 6 _ rfl (by omega)
              have y7 := hc 7 _ rfl (by omega)
              have y8 := hc 8 _ rfl (by omega)
              have y9 := hc 9 _ rfl (by omega)
              have y10 := hc 10 _ rfl (by omega)
              clear he hD hsv hc
              go_wp2_with fail
              refine (lxDo H.out.y (by omega) e HOK.out _ r HD.out).mono ?_
              rintro y' v5 ⟨a5, d5, FY5, rfl, -, k5, c5, g5⟩
              have H4 := Lib.hid (H.out.doY k5 c5 g5)
              clear H k5 c5 g5 y0 y1 y2 y3 y4 y5 y6 y7 y8 y9 y10
              have h4 := H4.out
              rw [← HSV.out, ← take_sn (l := B) (i := j) (by rw [HN1.out]; omega)] at h4
              have H5 := Lib.hid h4
              clear H4 h4
              go_wp2_with fail
              go_roundw
              case rel => exact ⟨i, j + 1, FY5, ty + 1, _, _, rfl, rfl, by omega, by omega, by omega, rfl, by go_num, H5⟩
              case measure => simp [intOf]; omega
          · have hjB : j = nB := by omega
            have jE : ((j : Int) == (nB : Int)) = true := by simp [hjB]
            have jE2 : (j == nB) = true := by simp [hjB]
            have jE3 : decide (j = nB) = true := by simp [hjB]
            clear hjB
            obtain ⟨g, cc, eS, hc⟩ := H.out.r0.at (i := i) (by rw [rowE_len, HN0.out]; omega)
            injection eS with e1 e2 e3
            subst e1 e3
            clear e2
            rw [rowE_at (by rw [HN0.out]; omega)] at hc
            obtain ⟨sv, hsv⟩ : ∃ s, A.getD i 0 = s := ⟨_, rfl⟩
            rw [hsv] at hc
            obtain ⟨e, he⟩ : ∃ e, en2 0 i sv = e := ⟨_, rfl⟩
            rw [he] at hc
            have HOK : Hid e.Ok := by show e.Ok; rw [← he]; exact en2_ok 0 i sv (by omega) (by omega)
            obtain ⟨r, hD⟩ := do0 (A.take i) (B.take j) sv (by rw [takeLen (by rw [HN0.out]; omega)]; omega) (by rw [takeLen (by rw [HN1.out]; omega)]; omega)
            rw [takeLen (by rw [HN0.out]; omega), he] at hD
            have HD := Lib.hid hD
            have HSV := Lib.hid hsv
            have y0 : wr.cell? ⟨g, i * 11, none⟩ = some (.int .i64 e.client) := hc 0 _ rfl (by omega)
            have y1 := hc 1 _ rfl (by omega)
            have y2 := hc 2 _ rfl (by omega)
            have y3 := hc 3 _ rfl (by omega)
            have y4 := hc 4 _ rfl (by omega)
            have y5 := hc 5 _ rfl (by omega)
            have y6 := hc 6 _ rfl (by omega)
            have y7 := hc 7 _ rfl (by omega)
            have y8 := hc 8 _ rfl (by omega)
            have y9 := hc 9 _ rfl (by omega)
            have y10 := hc 10 _ rfl (by omega)
            clear he hD hsv hc
            go_wp2_with fail
            refine (lxDo H.out.y (by omega) e HOK.out _ r HD.out).mono ?_
            rintro y' v5 ⟨a5, d5, FY5, rfl, -, k5, c5, g5⟩
            have H4 := Lib.hid (H.out.doY k5 c5 g5)
            clear H k5 c5 g5 y0 y1 y2 y3 y4 y5 y6 y7 y8 y9 y10
            have h4 := H4.out
            rw [← HSV.out, ← take_sn (l := A) (i := i) (by rw [HN0.out]; omega)] at h4
            have H5 := Lib.hid h4
            clear H4 h4
            go_wp2_with fail
            go_roundw
            case rel => exact ⟨i + 1, j, FY5, ty + 1, _, _, rfl, rfl, by omega, by omega, by omega, by go_num, rfl, H5⟩
            case measure => simp [intOf]; omega
        · have dI : decide ((i : Int) < (nA : Int)) = false := by simp; omega
          have dI2 : decide (i < nA) = false := by simp; omega
          by_cases hj2 : j < nB
          · have jE : ((j : Int) == (nB : Int)) = false := by simp; omega
            have jE2 : (j == nB) = false := by simp; omega
            have jE3 : decide (j = nB) = false := by simp; omega
            have jL : decide ((j : Int) < (nB : Int)) = true := by simp; omega
            have jL2 : decide (j < nB) = true := by simp; omega
            have j2 : (j : Int) < (nB : Int) := by omega
            obtain ⟨g, cc, eS, hc⟩ := H.out.r1.at (i := j) (by rw [rowE_len, HN1.out]; omega)
            injection eS with e1 e2 e3
            subst e1 e3
            clear e2
            rw [rowE_at (by rw [HN1.out]; omega)] at hc
            obtain ⟨sv, hsv⟩ : ∃ s, B.getD j 0 = s := ⟨_, rfl⟩
            rw [hsv] at hc
            obtain ⟨e, he⟩ : ∃ e, en2 1 j sv = e := ⟨_, rfl⟩
            rw [he] at hc
            have HOK : Hid e.Ok := by show e.Ok; rw [← he]; exact en2_ok 1 j sv (by omega) (by omega)
            obtain ⟨r, hD⟩ := do1 (A.take i) (B.take j) sv (by rw [takeLen (by rw [HN0.out]; omega)]; omega) (by rw [takeLen (by rw [HN1.out]; omega)]; omega)
            rw [takeLen (by rw [HN1.out]; omega), he] at hD
            have HD := Lib.hid hD
            have HSV := Lib.hid hsv
            have y0 : wr.cell? ⟨g, j * 11, none⟩ = some (.int .i64 e.client) := hc 0 _ rfl (by omega)
            have y1 := hc 1 _ rfl (by omega)
            have y2 := hc 2 _ rfl (by omega)
            have y3 := hc 3 _ rfl (by omega)
            have y4 := hc 4 _ rfl (by omega)
            have y5 := hc 5 _ rfl (by omega)
            have y6 := hc 6 _ rfl (by omega)
            have y7 := hc 7 _ rfl (by omega)
            have y8 := hc 8 _ rfl (by omega)
            have y9 := hc 9 _ rfl (by omega)
            have y10 := hc 10 _ rfl (by omega)
            clear he hD hsv hc
            go_wp2_with fail
            refine (lxDo H.out.y (by omega) e HOK.out _ r HD.out).mono ?_
            rintro y' v5 ⟨a5, d5, FY5, rfl, -, k5, c5, g5⟩
            have H4 := Lib.hid (H.out.doY k5 c5 g5)
            clear H k5 c5 g5 y0 y1 y2 y3 y4 y5 y6 y7 y8 y9 y10
            have h4 := H4.out
            rw [← HSV.out, ← take_sn (l := B) (i := j) (by rw [HN1.out]; omega)] at h4
            have H5 := Lib.hid h4
            clear H4 h4
            go_wp2_with fail
            go_roundw
            case rel => exact ⟨i, j + 1, FY5, ty + 1, _, _, rfl, rfl, by omega, by omega, by omega, rfl, by go_num, H5⟩
            case measure => simp [intOf]; omega
          · have jL : decide ((j : Int) < (nB : Int)) = false := by simp; omega
            have jL2 : decide (j < nB) = false := by simp; omega
            have h1 := H.out.y
            rw [List.take_of_length_le (by rw [HN0.out]; omega), List.take_of_length_le (by rw [HN1.out]; omega)] at h1
            have HY := Lib.hid h1
            have HX := Lib.hid H.out.x
            have HAr := Lib.hid H.out.a
            obtain ⟨s, hs⟩ : ∃ s, bstr (stB 2 (comb (lo2 A) (lo2 B))) = s := ⟨_, rfl⟩
            obtain ⟨gt, hgt⟩ : ∃ g, (comb (lo2 A) (lo2 B)).got = g := ⟨_, rfl⟩
            have hx0 := next0 A B
            have hx1 := next1 A B
            rw [HN0.out] at hx0
            rw [HN1.out] at hx1
            have HSS := Lib.hid hs
            have HG := Lib.hid hgt
            have HX0 := Lib.hid hx0
            have HX1 := Lib.hid hx1
            have wn0 : IntKind.u64.wrap (nA : Int) = nA := by simp [IntKind.wrap, IntKind.bits, IntKind.signed]; omega
            have wn1 : IntKind.u64.wrap (nB : Int) = nB := by simp [IntKind.wrap, IntKind.bits, IntKind.signed]; omega
            clear h1 hs hgt hx0 hx1
            go_upto_region 24 with (fail)
            refine two_end (by intro c a d v w h; cases d <;> exact h) HX HY HAr (by omega) (by omega) HSS HG HX0 HX1 wn0 wn1 ?_
            intro v6 c6
            intros
            go_wp2_with fail
            go_ret
            exact ⟨rfl, (HX.out.c.trans c6).below⟩
end Go.Proofs.YteabcpmpcbjicaaGreat
