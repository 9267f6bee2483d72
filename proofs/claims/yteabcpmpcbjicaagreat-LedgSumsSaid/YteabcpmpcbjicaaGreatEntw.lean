
import Derived.Test.YteabcpmpcbjicaaGreatTxw
namespace Go.Proofs.YteabcpmpcbjicaaGreat
set_option linter.unusedVariables false
set_option linter.unusedSimpArgs false
set_option maxRecDepth 100000
open Go Go.Proofs Go.RowKit
attribute [local go_sem ↓] Go.wp_at_zero Go.wp_at_succ

theorem LedX.nxU {w wr : World} {l n : Nat} {F : List Nat} {S : LS} {t : Nat} (h : LedX w wr l n F S t) (c : Int) : U (lNextV n S c) := by
  obtain ⟨ab, s, fb, mb, x, kb, ns, F0, m, h, e0, e1, e2⟩ := h
  have hu := h.nu
  unfold lNextV
  split
  · by_cases q : c.toNat < S.nx.length
    · rw [show S.nx.getD c.toNat 0 = S.nx[c.toNat] by simp [List.getD, q]]; exact hu _ (List.getElem_mem q)
    · rw [show S.nx.getD c.toNat 0 = 0 by simp [List.getD, q]]; exact ⟨by decide, by decide⟩
  · exact ⟨by decide, by decide⟩
def sto11 (w : World) (g : Nat) (e : Ent) : World := ((((((((((w.setCell ⟨g, 0, none⟩ (.int .i64 e.client)).setCell ⟨g, 1, none⟩ (.int .u64 e.nonce)).setCell ⟨g, 2, none⟩ (.int .u64 e.fee)).setCell ⟨g, 3, none⟩ (.bool e.good)).setCell ⟨g, 4, none⟩ (.int .i64 e.tx.kind)).setCell ⟨g, 5, none⟩ (.int .i64 e.tx.asset)).setCell ⟨g, 6, none⟩ (.int .i64 e.tx.dst)).setCell ⟨g, 7, none⟩ (.bool e.tx.buy)).setCell ⟨g, 8, none⟩ (.int .u64 e.tx.price)).setCell ⟨g, 9, none⟩ (.int .u64 e.tx.qty)).setCell ⟨g, 10, none⟩ (.int .i64 e.tx.id)
theorem sto11_chg {S : List Nat} {a w : World} (h : Chg S a w) (g : Nat) (e : Ent) (hs : g ∈ S ∨ a.heap.size ≤ g) : Chg S a (sto11 w g e) :=
  ((((((((((h.setCell _ _ hs).setCell _ _ hs).setCell _ _ hs).setCell _ _ hs).setCell _ _ hs).setCell _ _ hs).setCell _ _ hs).setCell _ _ hs).setCell _ _ hs).setCell _ _ hs).setCell _ _ hs
set_option maxHeartbeats 8000000 in
theorem entry_any {w wr : World} {l n0 : Nat} {F : List Nat} {S : LS} {tl : Nat} (h : LedX w wr l n0 F S tl) (n m : Int) (hn : U n) (hm : U m) :
    Calls Tryz.prog 31 #[.func (.func 32) #[.pointer (some ⟨l, 0, none⟩)] #[], .int .u64 n, .int .u64 m] wr fun y w' => ∃ e : Ent, y = .returned (ev e) ∧ e.Ok ∧ Chg [] wr w' := by
  obtain ⟨c, hc, lc⟩ : ∃ f : Nat, bits BinOp.and .u64 (n / 65536) 3 = f ∧ f < 4 := low_u64 (n / 65536) 2 (by omega)
  obtain ⟨fe, hfe, lfe⟩ : ∃ f : Nat, bits BinOp.and .u64 (n / 262144) 15 = f ∧ f < 16 := low_u64 (n / 262144) 4 (by omega)
  obtain ⟨gg, hgg, lgg⟩ : ∃ f : Nat, bits BinOp.and .u64 (n / 4194304) 7 = f ∧ f < 8 := low_u64 (n / 4194304) 3 (by omega)
  obtain ⟨nz, hnz, lnz⟩ : ∃ f : Nat, bits BinOp.and .u64 (n / 33554432) 7 = f ∧ f < 8 := low_u64 (n / 33554432) 3 (by omega)
  obtain ⟨n2, hn2, ln2⟩ : ∃ f : Nat, bits BinOp.and .u64 (n / 268435456) 3 = f ∧ f < 4 := low_u64 (n / 268435456) 2 (by omega)
  have wc : IntKind.i64.wrap (c : Int) = c := by simp [IntKind.wrap, IntKind.bits, IntKind.signed]; omega
  obtain ⟨gd, hgd⟩ : ∃ b, decide (0 < gg) = b := ⟨_, rfl⟩
  have hgd1 : decide ((gg : Int) > 0) = gd := by rw [← hgd]; simp
  have hgd2 : decide ((0 : Int) < (gg : Int)) = gd := by rw [← hgd]; simp
  have HX := Lib.hid h
  have HN := Lib.hid hn
  have HM := Lib.hid hm
  have HL := Lib.hid (And.intro lc (And.intro lfe ln2))
  clear h hn hm lc lfe lgg lnz ln2
  have B1 : Blk (wr.alloc (.cells #[.int .i64 0, .int .u64 0, .int .u64 0, .bool false, .int .i64 0, .int .i64 0, .int .i64 0, .bool false, .int .u64 0, .int .u64 0, .int .i64 0] 51)) wr.heap.size 51 [.int .i64 0, .int .u64 0, .int .u64 0, .bool false, .int .i64 0, .int .i64 0, .int .i64 0, .bool false, .int .u64 0, .int .u64 0, .int .i64 0] := Blk.new wr _ _
  have cA : Chg [] wr (wr.alloc (.cells #[.int .i64 0, .int .u64 0, .int .u64 0, .bool false, .int .i64 0, .int .i64 0, .int .i64 0, .bool false, .int .u64 0, .int .u64 0, .int .i64 0] 51)) := (Chg.refl _ _).alloc _
  go_enter Tryz.func31, Tryz.ntmps31
  go_wp2_with fail
  have HC0 := Lib.hid cA
  have hl1 := B1.lt
  have HLO0 : Hid (wr.heap.size ≤ wr.heap.size) := Nat.le_refl _
  clear cA
  obtain ⟨g1, hg1⟩ : ∃ g, wr.heap.size = g := ⟨_, rfl⟩
  have HG1 := Lib.hid hg1
  rw [hg1] at B1 hl1
  (try simp only [hg1])
  clear HLO0 hg1
  generalize wr.alloc _ = wa at *
  refine (tx_any n m HN.out HM.out wa).mono ?_
  rintro y w1 ⟨t, rfl, ht, c1⟩
  have HT := Lib.hid ht
  have B1a := B1.chg c1 (by simp)
  have HC1 := Lib.hid (HC0.out.trans c1)
  have hs1 := c1.size
  clear B1 HC0 ht c1
  have cB : Chg [] w1 (w1.alloc (.cells #[.int .i64 c, .int .u64 0, .int .u64 fe, .bool gd, .int .i64 t.kind, .int .i64 t.asset, .int .i64 t.dst, .bool t.buy, .int .u64 t.price, .int .u64 t.qty, .int .i64 t.id] 51)) := (Chg.refl _ _).alloc _
  have B2 : Blk (w1.alloc (.cells #[.int .i64 c, .int .u64 0, .int .u64 fe, .bool gd, .int .i64 t.kind, .int .i64 t.asset, .int .i64 t.dst, .bool t.buy, .int .u64 t.price, .int .u64 t.qty, .int .i64 t.id] 51)) w1.heap.size 51 [.int .i64 c, .int .u64 0, .int .u64 fe, .bool gd, .int .i64 t.kind, .int .i64 t.asset, .int .i64 t.dst, .bool t.buy, .int .u64 t.price, .int .u64 t.qty, .int .i64 t.id] := Blk.new w1 _ _
  have B1 := B1a.chg cB (by simp)
  have HC := Lib.hid (HC1.out.trans cB)
  have hl2 := B2.lt
  go_upto_region 2 with (fail)
  have hne : w1.heap.size ≠ g1 := by omega
  have hlo : g1 ≤ w1.heap.size := by omega
  clear B1a HC1 cB
  generalize w1.heap.size = g2 at *
  generalize w1.alloc _ = W at *
  have HLO : Hid (wr.heap.size ≤ g1 ∧ wr.heap.size ≤ g2) := ⟨by rw [HG1.out]; exact Nat.le_refl _, by rw [HG1.out]; exact hlo⟩
  have HNE := Lib.hid hne
  clear hlo hs1 hl1 hl2
  have x0 := B2.at (i := 0) rfl
  obtain ⟨nx, hnx⟩ : ∃ v, lNextV n0 S (c : Int) = v := ⟨_, rfl⟩
  have HNX : Hid (U nx) := by show U nx; rw [← hnx]; exact HX.out.nxU _
  have HNV := Lib.hid hnx
  clear hnx
  go_wp2_with fail
  refine (lxNext (HX.out.to HC.out) (c : Int) nx HNV.out).mono ?_
  rintro y w2 ⟨rfl, c2⟩
  have B1b := B1.chg c2 (by simp)
  have B2b := B2.chg c2 (by simp)
  have HC2 := Lib.hid (HC.out.trans c2)
  clear B1 B2 HC c2 x0
  have y1 := B2b.at (i := 1) rfl
  have f1 := B2b.free 1
  go_upto_region 3 with (fail)
  have cS : Chg [g2] w2 (w2.setCell ⟨g2, 1, none⟩ (.int .u64 nx)) := (Chg.refl [g2] w2).setCell _ _ (.inl (by simp))
  have B2 := B2b.set 1 (.int .u64 nx)
  have B1 := B1b.chg cS (by simp; exact fun e => HNE.out e.symm)
  have HC := Lib.hid (HC2.out.trans' cS (fun z hz => .inr (by simp at hz; rw [hz]; exact HLO.out.2)))
  clear B1b B2b HC2 cS y1 f1
  generalize w2.setCell _ _ = V at *
  by_cases h0 : nz = 0
  · subst h0
    have y1 := B2.at (i := 1) rfl
    have f1 := B2.free 1
    go_upto_region 5 with (fail)
    have cS : Chg [g2] V (V.setCell ⟨g2, 1, none⟩ (.int .u64 n2)) := (Chg.refl [g2] V).setCell _ _ (.inl (by simp))
    have B2c := B2.set 1 (.int .u64 n2)
    have B1c := B1.chg cS (by simp; exact fun e => HNE.out e.symm)
    have HC3 := Lib.hid (HC.out.trans' cS (fun z hz => .inr (by simp at hz; rw [hz]; exact HLO.out.2)))
    clear B1 B2 HC cS y1 f1
    generalize V.setCell _ _ = U1 at *
    have B1 := B1c
    have B2 := B2c
    have HC := HC3
    clear B1c B2c HC3
    have x0 := B2.at (i := 0) rfl
    have z0 := B1.at (i := 0) rfl
    have f0 := B1.free 0
    have x1 := B2.at (i := 1) rfl
    have z1 := B1.at (i := 1) rfl
    have f1 := B1.free 1
    have x2 := B2.at (i := 2) rfl
    have z2 := B1.at (i := 2) rfl
    have f2 := B1.free 2
    have x3 := B2.at (i := 3) rfl
    have z3 := B1.at (i := 3) rfl
    have f3 := B1.free 3
    have x4 := B2.at (i := 4) rfl
    have z4 := B1.at (i := 4) rfl
    have f4 := B1.free 4
    have x5 := B2.at (i := 5) rfl
    have z5 := B1.at (i := 5) rfl
    have f5 := B1.free 5
    have x6 := B2.at (i := 6) rfl
    have z6 := B1.at (i := 6) rfl
    have f6 := B1.free 6
    have x7 := B2.at (i := 7) rfl
    have z7 := B1.at (i := 7) rfl
    have f7 := B1.free 7
    have x8 := B2.at (i := 8) rfl
    have z8 := B1.at (i := 8) rfl
    have f8 := B1.free 8
    have x9 := B2.at (i := 9) rfl
    have z9 := B1.at (i := 9) rfl
    have f9 := B1.free 9
    have x10 := B2.at (i := 10) rfl
    have z10 := B1.at (i := 10) rfl
    have f10 := B1.free 10
    go_wp2_with fail
    exact bodyPost_ret (v := ev (⟨c, n2, fe, gd, t⟩ : Ent)) (by simp [results, Tryz.results31, go_sem, z0, z1, z2, z3, z4, z5, z6, z7, z8, z9, z10]) rfl ⟨(⟨c, n2, fe, gd, t⟩ : Ent), rfl, ⟨nI (Nat.lt_of_lt_of_le HL.out.1 (by omega)), nU (Nat.lt_of_lt_of_le HL.out.2.2 (by omega)), nU (Nat.lt_of_lt_of_le HL.out.2.1 (by omega)), HT.out⟩, sto11_chg HC.out g1 (⟨c, n2, fe, gd, t⟩ : Ent) (.inr HLO.out.1)⟩
  · have h7b : ((nz : Int) == 0) = false := by simp; omega
    clear h0
    have x0 := B2.at (i := 0) rfl
    have z0 := B1.at (i := 0) rfl
    have f0 := B1.free 0
    have x1 := B2.at (i := 1) rfl
    have z1 := B1.at (i := 1) rfl
    have f1 := B1.free 1
    have x2 := B2.at (i := 2) rfl
    have z2 := B1.at (i := 2) rfl
    have f2 := B1.free 2
    have x3 := B2.at (i := 3) rfl
    have z3 := B1.at (i := 3) rfl
    have f3 := B1.free 3
    have x4 := B2.at (i := 4) rfl
    have z4 := B1.at (i := 4) rfl
    have f4 := B1.free 4
    have x5 := B2.at (i := 5) rfl
    have z5 := B1.at (i := 5) rfl
    have f5 := B1.free 5
    have x6 := B2.at (i := 6) rfl
    have z6 := B1.at (i := 6) rfl
    have f6 := B1.free 6
    have x7 := B2.at (i := 7) rfl
    have z7 := B1.at (i := 7) rfl
    have f7 := B1.free 7
    have x8 := B2.at (i := 8) rfl
    have z8 := B1.at (i := 8) rfl
    have f8 := B1.free 8
    have x9 := B2.at (i := 9) rfl
    have z9 := B1.at (i := 9) rfl
    have f9 := B1.free 9
    have x10 := B2.at (i := 10) rfl
    have z10 := B1.at (i := 10) rfl
    have f10 := B1.free 10
    go_wp2_with fail
    exact bodyPost_ret (v := ev (⟨c, nx, fe, gd, t⟩ : Ent)) (by simp [results, Tryz.results31, go_sem, z0, z1, z2, z3, z4, z5, z6, z7, z8, z9, z10]) rfl ⟨(⟨c, nx, fe, gd, t⟩ : Ent), rfl, ⟨nI (Nat.lt_of_lt_of_le HL.out.1 (by omega)), HNX.out, nU (Nat.lt_of_lt_of_le HL.out.2.1 (by omega)), HT.out⟩, sto11_chg HC.out g1 (⟨c, nx, fe, gd, t⟩ : Ent) (.inr HLO.out.1)⟩
end Go.Proofs.YteabcpmpcbjicaaGreat
