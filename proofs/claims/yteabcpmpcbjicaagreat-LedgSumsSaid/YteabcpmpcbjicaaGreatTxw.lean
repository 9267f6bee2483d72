
import Derived.Test.YteabcpmpcbjicaaGreatLedK
namespace Go.Proofs.YteabcpmpcbjicaaGreat
set_option linter.unusedVariables false
set_option linter.unusedSimpArgs false
set_option maxRecDepth 100000
open Go Go.Proofs Go.RowKit
attribute [local go_sem ↓] Go.wp_at_zero Go.wp_at_succ

theorem nI {f : Nat} (h : f < 100000000) : I (f : Int) := ⟨by omega, by omega⟩
theorem nU {f : Nat} (h : f < 100000000) : U (f : Int) := ⟨by omega, by omega⟩
set_option maxHeartbeats 4000000 in
theorem tx0 (n m : Int) (hn : U n) (hm : U m) (hk : bits BinOp.and .u64 n 7 = 0) (w : World) :
    Calls Tryz.prog 60 #[.int .u64 n, .int .u64 m] w fun y w' => ∃ t : Txx, y = .returned (txv t) ∧ t.Ok ∧ Chg [] w w' := by
  obtain ⟨a3, ha3, la3⟩ : ∃ f : Nat, bits BinOp.and .u64 (n / 8) 1 = f ∧ f < 2 := low_u64 (n / 8) 1 (by omega)
  obtain ⟨b3, hb3, lb3⟩ : ∃ f : Nat, bits BinOp.and .u64 (n / 8) 3 = f ∧ f < 4 := low_u64 (n / 8) 2 (by omega)
  obtain ⟨c3, hc3, lc3⟩ : ∃ f : Nat, bits BinOp.and .u64 (n / 8) 15 = f ∧ f < 16 := low_u64 (n / 8) 4 (by omega)
  obtain ⟨a4, ha4, la4⟩ : ∃ f : Nat, bits BinOp.and .u64 (n / 16) 7 = f ∧ f < 8 := low_u64 (n / 16) 3 (by omega)
  obtain ⟨a5, ha5, la5⟩ : ∃ f : Nat, bits BinOp.and .u64 (n / 32) 1 = f ∧ f < 2 := low_u64 (n / 32) 1 (by omega)
  obtain ⟨d, hd, ld⟩ : ∃ f : Nat, bits BinOp.and .u64 (n / 4096) 15 = f ∧ f < 16 := low_u64 (n / 4096) 4 (by omega)
  obtain ⟨q, hq, lq⟩ : ∃ f : Nat, bits BinOp.and .u64 m 4095 = f ∧ f < 4096 := low_u64 m 12 (by omega)
  obtain ⟨q2, hq2, lq2⟩ : ∃ f : Nat, bits BinOp.and .u64 m 15 = f ∧ f < 16 := low_u64 m 4 (by omega)
  obtain ⟨u, hu, lu⟩ : ∃ f : Nat, m / 1099511627776 = f ∧ f < 20000000 := ⟨(m / 1099511627776).toNat, by have := hm.1; omega, by have := hm.2; omega⟩
  have wa3 : IntKind.i64.wrap (a3 : Int) = a3 := by simp [IntKind.wrap, IntKind.bits, IntKind.signed]; omega
  have wb3 : IntKind.i64.wrap (b3 : Int) = b3 := by simp [IntKind.wrap, IntKind.bits, IntKind.signed]; omega
  have wc3 : IntKind.i64.wrap (c3 : Int) = c3 := by simp [IntKind.wrap, IntKind.bits, IntKind.signed]; omega
  have wa5 : IntKind.i64.wrap (a5 : Int) = a5 := by simp [IntKind.wrap, IntKind.bits, IntKind.signed]; omega
  have wu : IntKind.i64.wrap (u : Int) = u := by simp [IntKind.wrap, IntKind.bits, IntKind.signed]; omega
  have wk : IntKind.i64.wrap 0 = 0 := by rfl
  have HM := Lib.hid hm
  have HL := Lib.hid (And.intro la3 (And.intro lb3 (And.intro lc3 (And.intro la4 (And.intro la5 (And.intro lq (And.intro lq2 lu)))))))
  clear hn hm la3 lb3 lc3 la4 la5 ld lq lq2 lu
  have B1 : Blk ((w.alloc (.cells #[.int .i64 0, .int .i64 0, .int .i64 0, .bool false, .int .u64 0, .int .u64 0, .int .i64 0] 49)).alloc (.cells #[.int .i64 0, .int .i64 0, .int .i64 0, .bool false, .int .u64 0, .int .u64 0, .int .i64 0] 49)) w.heap.size 49 [.int .i64 0, .int .i64 0, .int .i64 0, .bool false, .int .u64 0, .int .u64 0, .int .i64 0] := (Blk.new w _ _).alloc _
  have B2 : Blk ((w.alloc (.cells #[.int .i64 0, .int .i64 0, .int .i64 0, .bool false, .int .u64 0, .int .u64 0, .int .i64 0] 49)).alloc (.cells #[.int .i64 0, .int .i64 0, .int .i64 0, .bool false, .int .u64 0, .int .u64 0, .int .i64 0] 49)) (w.heap.size + 1) 49 [.int .i64 0, .int .i64 0, .int .i64 0, .bool false, .int .u64 0, .int .u64 0, .int .i64 0] := by
    have := Blk.new (w.alloc (.cells #[.int .i64 0, .int .i64 0, .int .i64 0, .bool false, .int .u64 0, .int .u64 0, .int .i64 0] 49)) [.int .i64 0, .int .i64 0, .int .i64 0, .bool false, .int .u64 0, .int .u64 0, .int .i64 0] 49
    rwa [World.size_alloc] at this
  have HC : Hid (Chg [] w ((w.alloc (.cells #[.int .i64 0, .int .i64 0, .int .i64 0, .bool false, .int .u64 0, .int .u64 0, .int .i64 0] 49)).alloc (.cells #[.int .i64 0, .int .i64 0, .int .i64 0, .bool false, .int .u64 0, .int .u64 0, .int .i64 0] 49))) := ((Chg.refl _ _).alloc _).alloc _
  go_enter Tryz.func60, Tryz.ntmps60
  go_upto_region 2 with (fail)
  have hne : w.heap.size + 1 ≠ w.heap.size := by omega
  have hlo : w.heap.size ≤ w.heap.size + 1 := by omega
  have HLO : Hid (w.heap.size ≤ w.heap.size) := Nat.le_refl _
  have HW : Hid (w.heap.size = w.heap.size) := rfl
  obtain ⟨g1, hg1⟩ : ∃ g, w.heap.size = g := ⟨_, rfl⟩
  have HG1 := Lib.hid hg1
  rw [hg1] at B1 B2 hne hlo
  simp only [hg1]
  obtain ⟨g2, hg2⟩ : ∃ g, g1 + 1 = g := ⟨_, rfl⟩
  rw [hg2] at B2 hne hlo
  simp only [hg2]
  clear hg1 hg2 HLO HW
  have HLO := Lib.hid hlo
  have HNE := Lib.hid hne
  clear hlo
  generalize (w.alloc _).alloc _ = W at *
  have x0 := B2.at (i := 0) rfl
  by_cases h7 : d = 7
  · subst h7
    have y5 := B2.at (i := 5) rfl
    have f5 := B2.free 5
    have y6 := B2.at (i := 6) rfl
    have f6 := B2.free 6
    go_upto_region 15 with (fail)
    have cV : Chg [g2] W ((W.setCell ⟨g2, 5, none⟩ (.int .u64 m)).setCell ⟨g2, 6, none⟩ (.int .i64 u)) := (((Chg.refl [g2] W).setCell ⟨g2, 5, none⟩ (.int .u64 m) (.inl (by simp))).setCell ⟨g2, 6, none⟩ (.int .i64 u) (.inl (by simp)))
    have B2V : Blk ((W.setCell ⟨g2, 5, none⟩ (.int .u64 m)).setCell ⟨g2, 6, none⟩ (.int .i64 u)) g2 49 [.int .i64 0, .int .i64 0, .int .i64 0, .bool false, .int .u64 0, .int .u64 m, .int .i64 u] := ((B2.set 5 (.int .u64 m)).set 6 (.int .i64 u))
    have B1V := B1.chg cV (by simp; exact fun e => HNE.out e.symm)
    have HCV := Lib.hid (HC.out.trans' cV (fun z hz => .inr (by simp at hz; rw [hz, HG1.out]; exact HLO.out)))
    clear B1 B2 cV HC y5 f5 y6 f6
    generalize ((W.setCell ⟨g2, 5, none⟩ (.int .u64 m)).setCell ⟨g2, 6, none⟩ (.int .i64 u)) = V at *
    have x0 := B2V.at (i := 0) rfl
    have z0 := B1V.at (i := 0) rfl
    have f0 := B1V.free 0
    have x1 := B2V.at (i := 1) rfl
    have z1 := B1V.at (i := 1) rfl
    have f1 := B1V.free 1
    have x2 := B2V.at (i := 2) rfl
    have z2 := B1V.at (i := 2) rfl
    have f2 := B1V.free 2
    have x3 := B2V.at (i := 3) rfl
    have z3 := B1V.at (i := 3) rfl
    have f3 := B1V.free 3
    have x4 := B2V.at (i := 4) rfl
    have z4 := B1V.at (i := 4) rfl
    have f4 := B1V.free 4
    have x5 := B2V.at (i := 5) rfl
    have z5 := B1V.at (i := 5) rfl
    have f5 := B1V.free 5
    have x6 := B2V.at (i := 6) rfl
    have z6 := B1V.at (i := 6) rfl
    have f6 := B1V.free 6
    go_wp2_with fail
    exact bodyPost_ret (v := txv (⟨0, 0, 0, false, 0, (m : Int), (u : Int)⟩ : Txx)) (by simp [results, Tryz.results60, go_sem, z0, z1, z2, z3, z4, z5, z6]) rfl ⟨(⟨0, 0, 0, false, 0, (m : Int), (u : Int)⟩ : Txx), rfl, ⟨(⟨by decide, by decide⟩ : I 0), (⟨by decide, by decide⟩ : I 0), (⟨by decide, by decide⟩ : I 0), (⟨by decide, by decide⟩ : U 0), HM.out, nI (Nat.lt_of_lt_of_le (HL.out.2.2.2.2.2.2.2) (by omega))⟩, sto7_chg HCV.out g1 (⟨0, 0, 0, false, 0, (m : Int), (u : Int)⟩ : Txx) (.inr (by rw [HG1.out]; exact Nat.le_refl _))⟩
  · have h7b : ((d : Int) == 7) = false := by simp; omega
    clear h7
    have B2V := B2
    have B1V := B1
    have HCV := HC
    clear B1 B2 HC
    have x0 := B2V.at (i := 0) rfl
    have z0 := B1V.at (i := 0) rfl
    have f0 := B1V.free 0
    have x1 := B2V.at (i := 1) rfl
    have z1 := B1V.at (i := 1) rfl
    have f1 := B1V.free 1
    have x2 := B2V.at (i := 2) rfl
    have z2 := B1V.at (i := 2) rfl
    have f2 := B1V.free 2
    have x3 := B2V.at (i := 3) rfl
    have z3 := B1V.at (i := 3) rfl
    have f3 := B1V.free 3
    have x4 := B2V.at (i := 4) rfl
    have z4 := B1V.at (i := 4) rfl
    have f4 := B1V.free 4
    have x5 := B2V.at (i := 5) rfl
    have z5 := B1V.at (i := 5) rfl
    have f5 := B1V.free 5
    have x6 := B2V.at (i := 6) rfl
    have z6 := B1V.at (i := 6) rfl
    have f6 := B1V.free 6
    go_wp2_with fail
    exact bodyPost_ret (v := txv (⟨0, 0, 0, false, 0, 0, 0⟩ : Txx)) (by simp [results, Tryz.results60, go_sem, z0, z1, z2, z3, z4, z5, z6]) rfl ⟨(⟨0, 0, 0, false, 0, 0, 0⟩ : Txx), rfl, ⟨(⟨by decide, by decide⟩ : I 0), (⟨by decide, by decide⟩ : I 0), (⟨by decide, by decide⟩ : I 0), (⟨by decide, by decide⟩ : U 0), (⟨by decide, by decide⟩ : U 0), (⟨by decide, by decide⟩ : I 0)⟩, sto7_chg HCV.out g1 (⟨0, 0, 0, false, 0, 0, 0⟩ : Txx) (.inr (by rw [HG1.out]; exact Nat.le_refl _))⟩
set_option maxHeartbeats 4000000 in
theorem tx1 (n m : Int) (hn : U n) (hm : U m) (hk : bits BinOp.and .u64 n 7 = 1) (w : World) :
    Calls Tryz.prog 60 #[.int .u64 n, .int .u64 m] w fun y w' => ∃ t : Txx, y = .returned (txv t) ∧ t.Ok ∧ Chg [] w w' := by
  obtain ⟨a3, ha3, la3⟩ : ∃ f : Nat, bits BinOp.and .u64 (n / 8) 1 = f ∧ f < 2 := low_u64 (n / 8) 1 (by omega)
  obtain ⟨b3, hb3, lb3⟩ : ∃ f : Nat, bits BinOp.and .u64 (n / 8) 3 = f ∧ f < 4 := low_u64 (n / 8) 2 (by omega)
  obtain ⟨c3, hc3, lc3⟩ : ∃ f : Nat, bits BinOp.and .u64 (n / 8) 15 = f ∧ f < 16 := low_u64 (n / 8) 4 (by omega)
  obtain ⟨a4, ha4, la4⟩ : ∃ f : Nat, bits BinOp.and .u64 (n / 16) 7 = f ∧ f < 8 := low_u64 (n / 16) 3 (by omega)
  obtain ⟨a5, ha5, la5⟩ : ∃ f : Nat, bits BinOp.and .u64 (n / 32) 1 = f ∧ f < 2 := low_u64 (n / 32) 1 (by omega)
  obtain ⟨d, hd, ld⟩ : ∃ f : Nat, bits BinOp.and .u64 (n / 4096) 15 = f ∧ f < 16 := low_u64 (n / 4096) 4 (by omega)
  obtain ⟨q, hq, lq⟩ : ∃ f : Nat, bits BinOp.and .u64 m 4095 = f ∧ f < 4096 := low_u64 m 12 (by omega)
  obtain ⟨q2, hq2, lq2⟩ : ∃ f : Nat, bits BinOp.and .u64 m 15 = f ∧ f < 16 := low_u64 m 4 (by omega)
  obtain ⟨u, hu, lu⟩ : ∃ f : Nat, m / 1099511627776 = f ∧ f < 20000000 := ⟨(m / 1099511627776).toNat, by have := hm.1; omega, by have := hm.2; omega⟩
  have wa3 : IntKind.i64.wrap (a3 : Int) = a3 := by simp [IntKind.wrap, IntKind.bits, IntKind.signed]; omega
  have wb3 : IntKind.i64.wrap (b3 : Int) = b3 := by simp [IntKind.wrap, IntKind.bits, IntKind.signed]; omega
  have wc3 : IntKind.i64.wrap (c3 : Int) = c3 := by simp [IntKind.wrap, IntKind.bits, IntKind.signed]; omega
  have wa5 : IntKind.i64.wrap (a5 : Int) = a5 := by simp [IntKind.wrap, IntKind.bits, IntKind.signed]; omega
  have wu : IntKind.i64.wrap (u : Int) = u := by simp [IntKind.wrap, IntKind.bits, IntKind.signed]; omega
  have wk : IntKind.i64.wrap 1 = 1 := by rfl
  have HM := Lib.hid hm
  have HL := Lib.hid (And.intro la3 (And.intro lb3 (And.intro lc3 (And.intro la4 (And.intro la5 (And.intro lq (And.intro lq2 lu)))))))
  clear hn hm la3 lb3 lc3 la4 la5 ld lq lq2 lu
  have B1 : Blk ((w.alloc (.cells #[.int .i64 0, .int .i64 0, .int .i64 0, .bool false, .int .u64 0, .int .u64 0, .int .i64 0] 49)).alloc (.cells #[.int .i64 1, .int .i64 0, .int .i64 0, .bool false, .int .u64 0, .int .u64 0, .int .i64 0] 49)) w.heap.size 49 [.int .i64 0, .int .i64 0, .int .i64 0, .bool false, .int .u64 0, .int .u64 0, .int .i64 0] := (Blk.new w _ _).alloc _
  have B2 : Blk ((w.alloc (.cells #[.int .i64 0, .int .i64 0, .int .i64 0, .bool false, .int .u64 0, .int .u64 0, .int .i64 0] 49)).alloc (.cells #[.int .i64 1, .int .i64 0, .int .i64 0, .bool false, .int .u64 0, .int .u64 0, .int .i64 0] 49)) (w.heap.size + 1) 49 [.int .i64 1, .int .i64 0, .int .i64 0, .bool false, .int .u64 0, .int .u64 0, .int .i64 0] := by
    have := Blk.new (w.alloc (.cells #[.int .i64 0, .int .i64 0, .int .i64 0, .bool false, .int .u64 0, .int .u64 0, .int .i64 0] 49)) [.int .i64 1, .int .i64 0, .int .i64 0, .bool false, .int .u64 0, .int .u64 0, .int .i64 0] 49
    rwa [World.size_alloc] at this
  have HC : Hid (Chg [] w ((w.alloc (.cells #[.int .i64 0, .int .i64 0, .int .i64 0, .bool false, .int .u64 0, .int .u64 0, .int .i64 0] 49)).alloc (.cells #[.int .i64 1, .int .i64 0, .int .i64 0, .bool false, .int .u64 0, .int .u64 0, .int .i64 0] 49))) := ((Chg.refl _ _).alloc _).alloc _
  go_enter Tryz.func60, Tryz.ntmps60
  go_upto_region 2 with (fail)
  have hne : w.heap.size + 1 ≠ w.heap.size := by omega
  have hlo : w.heap.size ≤ w.heap.size + 1 := by omega
  have HLO : Hid (w.heap.size ≤ w.heap.size) := Nat.le_refl _
  have HW : Hid (w.heap.size = w.heap.size) := rfl
  obtain ⟨g1, hg1⟩ : ∃ g, w.heap.size = g := ⟨_, rfl⟩
  have HG1 := Lib.hid hg1
  rw [hg1] at B1 B2 hne hlo
  simp only [hg1]
  obtain ⟨g2, hg2⟩ : ∃ g, g1 + 1 = g := ⟨_, rfl⟩
  rw [hg2] at B2 hne hlo
  simp only [hg2]
  clear hg1 hg2 HLO HW
  have HLO := Lib.hid hlo
  have HNE := Lib.hid hne
  clear hlo
  generalize (w.alloc _).alloc _ = W at *
  have x0 := B2.at (i := 0) rfl
  have y1 := B2.at (i := 1) rfl
  have f1 := B2.free 1
  have y5 := B2.at (i := 5) rfl
  have f5 := B2.free 5
  go_upto_region 13 with (fail)
  have cV : Chg [g2] W ((W.setCell ⟨g2, 1, none⟩ (.int .i64 a3)).setCell ⟨g2, 5, none⟩ (.int .u64 q)) := (((Chg.refl [g2] W).setCell ⟨g2, 1, none⟩ (.int .i64 a3) (.inl (by simp))).setCell ⟨g2, 5, none⟩ (.int .u64 q) (.inl (by simp)))
  have B2V : Blk ((W.setCell ⟨g2, 1, none⟩ (.int .i64 a3)).setCell ⟨g2, 5, none⟩ (.int .u64 q)) g2 49 [.int .i64 1, .int .i64 a3, .int .i64 0, .bool false, .int .u64 0, .int .u64 q, .int .i64 0] := ((B2.set 1 (.int .i64 a3)).set 5 (.int .u64 q))
  have B1V := B1.chg cV (by simp; exact fun e => HNE.out e.symm)
  have HCV := Lib.hid (HC.out.trans' cV (fun z hz => .inr (by simp at hz; rw [hz, HG1.out]; exact HLO.out)))
  clear B1 B2 cV HC y1 f1 y5 f5
  generalize ((W.setCell ⟨g2, 1, none⟩ (.int .i64 a3)).setCell ⟨g2, 5, none⟩ (.int .u64 q)) = V at *
  have B1 := B1V
  have B2 := B2V
  have HC := HCV
  clear B1V B2V HCV
  generalize V = W at *
  by_cases h7 : d = 7
  · subst h7
    have y5 := B2.at (i := 5) rfl
    have f5 := B2.free 5
    have y6 := B2.at (i := 6) rfl
    have f6 := B2.free 6
    go_upto_region 15 with (fail)
    have cV : Chg [g2] W ((W.setCell ⟨g2, 5, none⟩ (.int .u64 m)).setCell ⟨g2, 6, none⟩ (.int .i64 u)) := (((Chg.refl [g2] W).setCell ⟨g2, 5, none⟩ (.int .u64 m) (.inl (by simp))).setCell ⟨g2, 6, none⟩ (.int .i64 u) (.inl (by simp)))
    have B2V : Blk ((W.setCell ⟨g2, 5, none⟩ (.int .u64 m)).setCell ⟨g2, 6, none⟩ (.int .i64 u)) g2 49 [.int .i64 1, .int .i64 a3, .int .i64 0, .bool false, .int .u64 0, .int .u64 m, .int .i64 u] := ((B2.set 5 (.int .u64 m)).set 6 (.int .i64 u))
    have B1V := B1.chg cV (by simp; exact fun e => HNE.out e.symm)
    have HCV := Lib.hid (HC.out.trans' cV (fun z hz => .inr (by simp at hz; rw [hz, HG1.out]; exact HLO.out)))
    clear B1 B2 cV HC y5 f5 y6 f6
    generalize ((W.setCell ⟨g2, 5, none⟩ (.int .u64 m)).setCell ⟨g2, 6, none⟩ (.int .i64 u)) = V at *
    have x0 := B2V.at (i := 0) rfl
    have z0 := B1V.at (i := 0) rfl
    have f0 := B1V.free 0
    have x1 := B2V.at (i := 1) rfl
    have z1 := B1V.at (i := 1) rfl
    have f1 := B1V.free 1
    have x2 := B2V.at (i := 2) rfl
    have z2 := B1V.at (i := 2) rfl
    have f2 := B1V.free 2
    have x3 := B2V.at (i := 3) rfl
    have z3 := B1V.at (i := 3) rfl
    have f3 := B1V.free 3
    have x4 := B2V.at (i := 4) rfl
    have z4 := B1V.at (i := 4) rfl
    have f4 := B1V.free 4
    have x5 := B2V.at (i := 5) rfl
    have z5 := B1V.at (i := 5) rfl
    have f5 := B1V.free 5
    have x6 := B2V.at (i := 6) rfl
    have z6 := B1V.at (i := 6) rfl
    have f6 := B1V.free 6
    go_wp2_with fail
    exact bodyPost_ret (v := txv (⟨1, (a3 : Int), 0, false, 0, (m : Int), (u : Int)⟩ : Txx)) (by simp [results, Tryz.results60, go_sem, z0, z1, z2, z3, z4, z5, z6]) rfl ⟨(⟨1, (a3 : Int), 0, false, 0, (m : Int), (u : Int)⟩ : Txx), rfl, ⟨(⟨by decide, by decide⟩ : I 1), nI (Nat.lt_of_lt_of_le (HL.out.1) (by omega)), (⟨by decide, by decide⟩ : I 0), (⟨by decide, by decide⟩ : U 0), HM.out, nI (Nat.lt_of_lt_of_le (HL.out.2.2.2.2.2.2.2) (by omega))⟩, sto7_chg HCV.out g1 (⟨1, (a3 : Int), 0, false, 0, (m : Int), (u : Int)⟩ : Txx) (.inr (by rw [HG1.out]; exact Nat.le_refl _))⟩
  · have h7b : ((d : Int) == 7) = false := by simp; omega
    clear h7
    have B2V := B2
    have B1V := B1
    have HCV := HC
    clear B1 B2 HC
    have x0 := B2V.at (i := 0) rfl
    have z0 := B1V.at (i := 0) rfl
    have f0 := B1V.free 0
    have x1 := B2V.at (i := 1) rfl
    have z1 := B1V.at (i := 1) rfl
    have f1 := B1V.free 1
    have x2 := B2V.at (i := 2) rfl
    have z2 := B1V.at (i := 2) rfl
    have f2 := B1V.free 2
    have x3 := B2V.at (i := 3) rfl
    have z3 := B1V.at (i := 3) rfl
    have f3 := B1V.free 3
    have x4 := B2V.at (i := 4) rfl
    have z4 := B1V.at (i := 4) rfl
    have f4 := B1V.free 4
    have x5 := B2V.at (i := 5) rfl
    have z5 := B1V.at (i := 5) rfl
    have f5 := B1V.free 5
    have x6 := B2V.at (i := 6) rfl
    have z6 := B1V.at (i := 6) rfl
    have f6 := B1V.free 6
    go_wp2_with fail
    exact bodyPost_ret (v := txv (⟨1, (a3 : Int), 0, false, 0, (q : Int), 0⟩ : Txx)) (by simp [results, Tryz.results60, go_sem, z0, z1, z2, z3, z4, z5, z6]) rfl ⟨(⟨1, (a3 : Int), 0, false, 0, (q : Int), 0⟩ : Txx), rfl, ⟨(⟨by decide, by decide⟩ : I 1), nI (Nat.lt_of_lt_of_le (HL.out.1) (by omega)), (⟨by decide, by decide⟩ : I 0), (⟨by decide, by decide⟩ : U 0), nU (Nat.lt_of_lt_of_le (HL.out.2.2.2.2.2.1) (by omega)), (⟨by decide, by decide⟩ : I 0)⟩, sto7_chg HCV.out g1 (⟨1, (a3 : Int), 0, false, 0, (q : Int), 0⟩ : Txx) (.inr (by rw [HG1.out]; exact Nat.le_refl _))⟩
set_option maxHeartbeats 4000000 in
theorem tx2 (n m : Int) (hn : U n) (hm : U m) (hk : bits BinOp.and .u64 n 7 = 2) (w : World) :
    Calls Tryz.prog 60 #[.int .u64 n, .int .u64 m] w fun y w' => ∃ t : Txx, y = .returned (txv t) ∧ t.Ok ∧ Chg [] w w' := by
  obtain ⟨a3, ha3, la3⟩ : ∃ f : Nat, bits BinOp.and .u64 (n / 8) 1 = f ∧ f < 2 := low_u64 (n / 8) 1 (by omega)
  obtain ⟨b3, hb3, lb3⟩ : ∃ f : Nat, bits BinOp.and .u64 (n / 8) 3 = f ∧ f < 4 := low_u64 (n / 8) 2 (by omega)
  obtain ⟨c3, hc3, lc3⟩ : ∃ f : Nat, bits BinOp.and .u64 (n / 8) 15 = f ∧ f < 16 := low_u64 (n / 8) 4 (by omega)
  obtain ⟨a4, ha4, la4⟩ : ∃ f : Nat, bits BinOp.and .u64 (n / 16) 7 = f ∧ f < 8 := low_u64 (n / 16) 3 (by omega)
  obtain ⟨a5, ha5, la5⟩ : ∃ f : Nat, bits BinOp.and .u64 (n / 32) 1 = f ∧ f < 2 := low_u64 (n / 32) 1 (by omega)
  obtain ⟨d, hd, ld⟩ : ∃ f : Nat, bits BinOp.and .u64 (n / 4096) 15 = f ∧ f < 16 := low_u64 (n / 4096) 4 (by omega)
  obtain ⟨q, hq, lq⟩ : ∃ f : Nat, bits BinOp.and .u64 m 4095 = f ∧ f < 4096 := low_u64 m 12 (by omega)
  obtain ⟨q2, hq2, lq2⟩ : ∃ f : Nat, bits BinOp.and .u64 m 15 = f ∧ f < 16 := low_u64 m 4 (by omega)
  obtain ⟨u, hu, lu⟩ : ∃ f : Nat, m / 1099511627776 = f ∧ f < 20000000 := ⟨(m / 1099511627776).toNat, by have := hm.1; omega, by have := hm.2; omega⟩
  have wa3 : IntKind.i64.wrap (a3 : Int) = a3 := by simp [IntKind.wrap, IntKind.bits, IntKind.signed]; omega
  have wb3 : IntKind.i64.wrap (b3 : Int) = b3 := by simp [IntKind.wrap, IntKind.bits, IntKind.signed]; omega
  have wc3 : IntKind.i64.wrap (c3 : Int) = c3 := by simp [IntKind.wrap, IntKind.bits, IntKind.signed]; omega
  have wa5 : IntKind.i64.wrap (a5 : Int) = a5 := by simp [IntKind.wrap, IntKind.bits, IntKind.signed]; omega
  have wu : IntKind.i64.wrap (u : Int) = u := by simp [IntKind.wrap, IntKind.bits, IntKind.signed]; omega
  have wk : IntKind.i64.wrap 2 = 2 := by rfl
  have HM := Lib.hid hm
  have HL := Lib.hid (And.intro la3 (And.intro lb3 (And.intro lc3 (And.intro la4 (And.intro la5 (And.intro lq (And.intro lq2 lu)))))))
  clear hn hm la3 lb3 lc3 la4 la5 ld lq lq2 lu
  have B1 : Blk ((w.alloc (.cells #[.int .i64 0, .int .i64 0, .int .i64 0, .bool false, .int .u64 0, .int .u64 0, .int .i64 0] 49)).alloc (.cells #[.int .i64 2, .int .i64 0, .int .i64 0, .bool false, .int .u64 0, .int .u64 0, .int .i64 0] 49)) w.heap.size 49 [.int .i64 0, .int .i64 0, .int .i64 0, .bool false, .int .u64 0, .int .u64 0, .int .i64 0] := (Blk.new w _ _).alloc _
  have B2 : Blk ((w.alloc (.cells #[.int .i64 0, .int .i64 0, .int .i64 0, .bool false, .int .u64 0, .int .u64 0, .int .i64 0] 49)).alloc (.cells #[.int .i64 2, .int .i64 0, .int .i64 0, .bool false, .int .u64 0, .int .u64 0, .int .i64 0] 49)) (w.heap.size + 1) 49 [.int .i64 2, .int .i64 0, .int .i64 0, .bool false, .int .u64 0, .int .u64 0, .int .i64 0] := by
    have := Blk.new (w.alloc (.cells #[.int .i64 0, .int .i64 0, .int .i64 0, .bool false, .int .u64 0, .int .u64 0, .int .i64 0] 49)) [.int .i64 2, .int .i64 0, .int .i64 0, .bool false, .int .u64 0, .int .u64 0, .int .i64 0] 49
    rwa [World.size_alloc] at this
  have HC : Hid (Chg [] w ((w.alloc (.cells #[.int .i64 0, .int .i64 0, .int .i64 0, .bool false, .int .u64 0, .int .u64 0, .int .i64 0] 49)).alloc (.cells #[.int .i64 2, .int .i64 0, .int .i64 0, .bool false, .int .u64 0, .int .u64 0, .int .i64 0] 49))) := ((Chg.refl _ _).alloc _).alloc _
  go_enter Tryz.func60, Tryz.ntmps60
  go_upto_region 2 with (fail)
  have hne : w.heap.size + 1 ≠ w.heap.size := by omega
  have hlo : w.heap.size ≤ w.heap.size + 1 := by omega
  have HLO : Hid (w.heap.size ≤ w.heap.size) := Nat.le_refl _
  have HW : Hid (w.heap.size = w.heap.size) := rfl
  obtain ⟨g1, hg1⟩ : ∃ g, w.heap.size = g := ⟨_, rfl⟩
  have HG1 := Lib.hid hg1
  rw [hg1] at B1 B2 hne hlo
  simp only [hg1]
  obtain ⟨g2, hg2⟩ : ∃ g, g1 + 1 = g := ⟨_, rfl⟩
  rw [hg2] at B2 hne hlo
  simp only [hg2]
  clear hg1 hg2 HLO HW
  have HLO := Lib.hid hlo
  have HNE := Lib.hid hne
  clear hlo
  generalize (w.alloc _).alloc _ = W at *
  have x0 := B2.at (i := 0) rfl
  have y1 := B2.at (i := 1) rfl
  have f1 := B2.free 1
  have y5 := B2.at (i := 5) rfl
  have f5 := B2.free 5
  go_upto_region 13 with (fail)
  have cV : Chg [g2] W ((W.setCell ⟨g2, 1, none⟩ (.int .i64 a3)).setCell ⟨g2, 5, none⟩ (.int .u64 q)) := (((Chg.refl [g2] W).setCell ⟨g2, 1, none⟩ (.int .i64 a3) (.inl (by simp))).setCell ⟨g2, 5, none⟩ (.int .u64 q) (.inl (by simp)))
  have B2V : Blk ((W.setCell ⟨g2, 1, none⟩ (.int .i64 a3)).setCell ⟨g2, 5, none⟩ (.int .u64 q)) g2 49 [.int .i64 2, .int .i64 a3, .int .i64 0, .bool false, .int .u64 0, .int .u64 q, .int .i64 0] := ((B2.set 1 (.int .i64 a3)).set 5 (.int .u64 q))
  have B1V := B1.chg cV (by simp; exact fun e => HNE.out e.symm)
  have HCV := Lib.hid (HC.out.trans' cV (fun z hz => .inr (by simp at hz; rw [hz, HG1.out]; exact HLO.out)))
  clear B1 B2 cV HC y1 f1 y5 f5
  generalize ((W.setCell ⟨g2, 1, none⟩ (.int .i64 a3)).setCell ⟨g2, 5, none⟩ (.int .u64 q)) = V at *
  have B1 := B1V
  have B2 := B2V
  have HC := HCV
  clear B1V B2V HCV
  generalize V = W at *
  by_cases h7 : d = 7
  · subst h7
    have y5 := B2.at (i := 5) rfl
    have f5 := B2.free 5
    have y6 := B2.at (i := 6) rfl
    have f6 := B2.free 6
    go_upto_region 15 with (fail)
    have cV : Chg [g2] W ((W.setCell ⟨g2, 5, none⟩ (.int .u64 m)).setCell ⟨g2, 6, none⟩ (.int .i64 u)) := (((Chg.refl [g2] W).setCell ⟨g2, 5, none⟩ (.int .u64 m) (.inl (by simp))).setCell ⟨g2, 6, none⟩ (.int .i64 u) (.inl (by simp)))
    have B2V : Blk ((W.setCell ⟨g2, 5, none⟩ (.int .u64 m)).setCell ⟨g2, 6, none⟩ (.int .i64 u)) g2 49 [.int .i64 2, .int .i64 a3, .int .i64 0, .bool false, .int .u64 0, .int .u64 m, .int .i64 u] := ((B2.set 5 (.int .u64 m)).set 6 (.int .i64 u))
    have B1V := B1.chg cV (by simp; exact fun e => HNE.out e.symm)
    have HCV := Lib.hid (HC.out.trans' cV (fun z hz => .inr (by simp at hz; rw [hz, HG1.out]; exact HLO.out)))
    clear B1 B2 cV HC y5 f5 y6 f6
    generalize ((W.setCell ⟨g2, 5, none⟩ (.int .u64 m)).setCell ⟨g2, 6, none⟩ (.int .i64 u)) = V at *
    have x0 := B2V.at (i := 0) rfl
    have z0 := B1V.at (i := 0) rfl
    have f0 := B1V.free 0
    have x1 := B2V.at (i := 1) rfl
    have z1 := B1V.at (i := 1) rfl
    have f1 := B1V.free 1
    have x2 := B2V.at (i := 2) rfl
    have z2 := B1V.at (i := 2) rfl
    have f2 := B1V.free 2
    have x3 := B2V.at (i := 3) rfl
    have z3 := B1V.at (i := 3) rfl
    have f3 := B1V.free 3
    have x4 := B2V.at (i := 4) rfl
    have z4 := B1V.at (i := 4) rfl
    have f4 := B1V.free 4
    have x5 := B2V.at (i := 5) rfl
    have z5 := B1V.at (i := 5) rfl
    have f5 := B1V.free 5
    have x6 := B2V.at (i := 6) rfl
    have z6 := B1V.at (i := 6) rfl
    have f6 := B1V.free 6
    go_wp2_with fail
    exact bodyPost_ret (v := txv (⟨2, (a3 : Int), 0, false, 0, (m : Int), (u : Int)⟩ : Txx)) (by simp [results, Tryz.results60, go_sem, z0, z1, z2, z3, z4, z5, z6]) rfl ⟨(⟨2, (a3 : Int), 0, false, 0, (m : Int), (u : Int)⟩ : Txx), rfl, ⟨(⟨by decide, by decide⟩ : I 2), nI (Nat.lt_of_lt_of_le (HL.out.1) (by omega)), (⟨by decide, by decide⟩ : I 0), (⟨by decide, by decide⟩ : U 0), HM.out, nI (Nat.lt_of_lt_of_le (HL.out.2.2.2.2.2.2.2) (by omega))⟩, sto7_chg HCV.out g1 (⟨2, (a3 : Int), 0, false, 0, (m : Int), (u : Int)⟩ : Txx) (.inr (by rw [HG1.out]; exact Nat.le_refl _))⟩
  · have h7b : ((d : Int) == 7) = false := by simp; omega
    clear h7
    have B2V := B2
    have B1V := B1
    have HCV := HC
    clear B1 B2 HC
    have x0 := B2V.at (i := 0) rfl
    have z0 := B1V.at (i := 0) rfl
    have f0 := B1V.free 0
    have x1 := B2V.at (i := 1) rfl
    have z1 := B1V.at (i := 1) rfl
    have f1 := B1V.free 1
    have x2 := B2V.at (i := 2) rfl
    have z2 := B1V.at (i := 2) rfl
    have f2 := B1V.free 2
    have x3 := B2V.at (i := 3) rfl
    have z3 := B1V.at (i := 3) rfl
    have f3 := B1V.free 3
    have x4 := B2V.at (i := 4) rfl
    have z4 := B1V.at (i := 4) rfl
    have f4 := B1V.free 4
    have x5 := B2V.at (i := 5) rfl
    have z5 := B1V.at (i := 5) rfl
    have f5 := B1V.free 5
    have x6 := B2V.at (i := 6) rfl
    have z6 := B1V.at (i := 6) rfl
    have f6 := B1V.free 6
    go_wp2_with fail
    exact bodyPost_ret (v := txv (⟨2, (a3 : Int), 0, false, 0, (q : Int), 0⟩ : Txx)) (by simp [results, Tryz.results60, go_sem, z0, z1, z2, z3, z4, z5, z6]) rfl ⟨(⟨2, (a3 : Int), 0, false, 0, (q : Int), 0⟩ : Txx), rfl, ⟨(⟨by decide, by decide⟩ : I 2), nI (Nat.lt_of_lt_of_le (HL.out.1) (by omega)), (⟨by decide, by decide⟩ : I 0), (⟨by decide, by decide⟩ : U 0), nU (Nat.lt_of_lt_of_le (HL.out.2.2.2.2.2.1) (by omega)), (⟨by decide, by decide⟩ : I 0)⟩, sto7_chg HCV.out g1 (⟨2, (a3 : Int), 0, false, 0, (q : Int), 0⟩ : Txx) (.inr (by rw [HG1.out]; exact Nat.le_refl _))⟩
set_option maxHeartbeats 4000000 in
theorem tx3 (n m : Int) (hn : U n) (hm : U m) (hk : bits BinOp.and .u64 n 7 = 3) (w : World) :
    Calls Tryz.prog 60 #[.int .u64 n, .int .u64 m] w fun y w' => ∃ t : Txx, y = .returned (txv t) ∧ t.Ok ∧ Chg [] w w' := by
  obtain ⟨a3, ha3, la3⟩ : ∃ f : Nat, bits BinOp.and .u64 (n / 8) 1 = f ∧ f < 2 := low_u64 (n / 8) 1 (by omega)
  obtain ⟨b3, hb3, lb3⟩ : ∃ f : Nat, bits BinOp.and .u64 (n / 8) 3 = f ∧ f < 4 := low_u64 (n / 8) 2 (by omega)
  obtain ⟨c3, hc3, lc3⟩ : ∃ f : Nat, bits BinOp.and .u64 (n / 8) 15 = f ∧ f < 16 := low_u64 (n / 8) 4 (by omega)
  obtain ⟨a4, ha4, la4⟩ : ∃ f : Nat, bits BinOp.and .u64 (n / 16) 7 = f ∧ f < 8 := low_u64 (n / 16) 3 (by omega)
  obtain ⟨a5, ha5, la5⟩ : ∃ f : Nat, bits BinOp.and .u64 (n / 32) 1 = f ∧ f < 2 := low_u64 (n / 32) 1 (by omega)
  obtain ⟨d, hd, ld⟩ : ∃ f : Nat, bits BinOp.and .u64 (n / 4096) 15 = f ∧ f < 16 := low_u64 (n / 4096) 4 (by omega)
  obtain ⟨q, hq, lq⟩ : ∃ f : Nat, bits BinOp.and .u64 m 4095 = f ∧ f < 4096 := low_u64 m 12 (by omega)
  obtain ⟨q2, hq2, lq2⟩ : ∃ f : Nat, bits BinOp.and .u64 m 15 = f ∧ f < 16 := low_u64 m 4 (by omega)
  obtain ⟨u, hu, lu⟩ : ∃ f : Nat, m / 1099511627776 = f ∧ f < 20000000 := ⟨(m / 1099511627776).toNat, by have := hm.1; omega, by have := hm.2; omega⟩
  have wa3 : IntKind.i64.wrap (a3 : Int) = a3 := by simp [IntKind.wrap, IntKind.bits, IntKind.signed]; omega
  have wb3 : IntKind.i64.wrap (b3 : Int) = b3 := by simp [IntKind.wrap, IntKind.bits, IntKind.signed]; omega
  have wc3 : IntKind.i64.wrap (c3 : Int) = c3 := by simp [IntKind.wrap, IntKind.bits, IntKind.signed]; omega
  have wa5 : IntKind.i64.wrap (a5 : Int) = a5 := by simp [IntKind.wrap, IntKind.bits, IntKind.signed]; omega
  have wu : IntKind.i64.wrap (u : Int) = u := by simp [IntKind.wrap, IntKind.bits, IntKind.signed]; omega
  have wk : IntKind.i64.wrap 3 = 3 := by rfl
  have HM := Lib.hid hm
  have HL := Lib.hid (And.intro la3 (And.intro lb3 (And.intro lc3 (And.intro la4 (And.intro la5 (And.intro lq (And.intro lq2 lu)))))))
  clear hn hm la3 lb3 lc3 la4 la5 ld lq lq2 lu
  have B1 : Blk ((w.alloc (.cells #[.int .i64 0, .int .i64 0, .int .i64 0, .bool false, .int .u64 0, .int .u64 0, .int .i64 0] 49)).alloc (.cells #[.int .i64 3, .int .i64 0, .int .i64 0, .bool false, .int .u64 0, .int .u64 0, .int .i64 0] 49)) w.heap.size 49 [.int .i64 0, .int .i64 0, .int .i64 0, .bool false, .int .u64 0, .int .u64 0, .int .i64 0] := (Blk.new w _ _).alloc _
  have B2 : Blk ((w.alloc (.cells #[.int .i64 0, .int .i64 0, .int .i64 0, .bool false, .int .u64 0, .int .u64 0, .int .i64 0] 49)).alloc (.cells #[.int .i64 3, .int .i64 0, .int .i64 0, .bool false, .int .u64 0, .int .u64 0, .int .i64 0] 49)) (w.heap.size + 1) 49 [.int .i64 3, .int .i64 0, .int .i64 0, .bool false, .int .u64 0, .int .u64 0, .int .i64 0] := by
    have := Blk.new (w.alloc (.cells #[.int .i64 0, .int .i64 0, .int .i64 0, .bool false, .int .u64 0, .int .u64 0, .int .i64 0] 49)) [.int .i64 3, .int .i64 0, .int .i64 0, .bool false, .int .u64 0, .int .u64 0, .int .i64 0] 49
    rwa [World.size_alloc] at this
  have HC : Hid (Chg [] w ((w.alloc (.cells #[.int .i64 0, .int .i64 0, .int .i64 0, .bool false, .int .u64 0, .int .u64 0, .int .i64 0] 49)).alloc (.cells #[.int .i64 3, .int .i64 0, .int .i64 0, .bool false, .int .u64 0, .int .u64 0, .int .i64 0] 49))) := ((Chg.refl _ _).alloc _).alloc _
  go_enter Tryz.func60, Tryz.ntmps60
  go_upto_region 2 with (fail)
  have hne : w.heap.size + 1 ≠ w.heap.size := by omega
  have hlo : w.heap.size ≤ w.heap.size + 1 := by omega
  have HLO : Hid (w.heap.size ≤ w.heap.size) := Nat.le_refl _
  have HW : Hid (w.heap.size = w.heap.size) := rfl
  obtain ⟨g1, hg1⟩ : ∃ g, w.heap.size = g := ⟨_, rfl⟩
  have HG1 := Lib.hid hg1
  rw [hg1] at B1 B2 hne hlo
  simp only [hg1]
  obtain ⟨g2, hg2⟩ : ∃ g, g1 + 1 = g := ⟨_, rfl⟩
  rw [hg2] at B2 hne hlo
  simp only [hg2]
  clear hg1 hg2 HLO HW
  have HLO := Lib.hid hlo
  have HNE := Lib.hid hne
  clear hlo
  generalize (w.alloc _).alloc _ = W at *
  have x0 := B2.at (i := 0) rfl
  have y2 := B2.at (i := 2) rfl
  have f2 := B2.free 2
  have y1 := B2.at (i := 1) rfl
  have f1 := B2.free 1
  have y5 := B2.at (i := 5) rfl
  have f5 := B2.free 5
  go_upto_region 13 with (fail)
  have cV : Chg [g2] W (((W.setCell ⟨g2, 2, none⟩ (.int .i64 b3)).setCell ⟨g2, 1, none⟩ (.int .i64 a5)).setCell ⟨g2, 5, none⟩ (.int .u64 q)) := ((((Chg.refl [g2] W).setCell ⟨g2, 2, none⟩ (.int .i64 b3) (.inl (by simp))).setCell ⟨g2, 1, none⟩ (.int .i64 a5) (.inl (by simp))).setCell ⟨g2, 5, none⟩ (.int .u64 q) (.inl (by simp)))
  have B2V : Blk (((W.setCell ⟨g2, 2, none⟩ (.int .i64 b3)).setCell ⟨g2, 1, none⟩ (.int .i64 a5)).setCell ⟨g2, 5, none⟩ (.int .u64 q)) g2 49 [.int .i64 3, .int .i64 a5, .int .i64 b3, .bool false, .int .u64 0, .int .u64 q, .int .i64 0] := (((B2.set 2 (.int .i64 b3)).set 1 (.int .i64 a5)).set 5 (.int .u64 q))
  have B1V := B1.chg cV (by simp; exact fun e => HNE.out e.symm)
  have HCV := Lib.hid (HC.out.trans' cV (fun z hz => .inr (by simp at hz; rw [hz, HG1.out]; exact HLO.out)))
  clear B1 B2 cV HC y2 f2 y1 f1 y5 f5
  generalize (((W.setCell ⟨g2, 2, none⟩ (.int .i64 b3)).setCell ⟨g2, 1, none⟩ (.int .i64 a5)).setCell ⟨g2, 5, none⟩ (.int .u64 q)) = V at *
  have B1 := B1V
  have B2 := B2V
  have HC := HCV
  clear B1V B2V HCV
  generalize V = W at *
  by_cases h7 : d = 7
  · subst h7
    have y5 := B2.at (i := 5) rfl
    have f5 := B2.free 5
    have y6 := B2.at (i := 6) rfl
    have f6 := B2.free 6
    go_upto_region 15 with (fail)
    have cV : Chg [g2] W ((W.setCell ⟨g2, 5, none⟩ (.int .u64 m)).setCell ⟨g2, 6, none⟩ (.int .i64 u)) := (((Chg.refl [g2] W).setCell ⟨g2, 5, none⟩ (.int .u64 m) (.inl (by simp))).setCell ⟨g2, 6, none⟩ (.int .i64 u) (.inl (by simp)))
    have B2V : Blk ((W.setCell ⟨g2, 5, none⟩ (.int .u64 m)).setCell ⟨g2, 6, none⟩ (.int .i64 u)) g2 49 [.int .i64 3, .int .i64 a5, .int .i64 b3, .bool false, .int .u64 0, .int .u64 m, .int .i64 u] := ((B2.set 5 (.int .u64 m)).set 6 (.int .i64 u))
    have B1V := B1.chg cV (by simp; exact fun e => HNE.out e.symm)
    have HCV := Lib.hid (HC.out.trans' cV (fun z hz => .inr (by simp at hz; rw [hz, HG1.out]; exact HLO.out)))
    clear B1 B2 cV HC y5 f5 y6 f6
    generalize ((W.setCell ⟨g2, 5, none⟩ (.int .u64 m)).setCell ⟨g2, 6, none⟩ (.int .i64 u)) = V at *
    have x0 := B2V.at (i := 0) rfl
    have z0 := B1V.at (i := 0) rfl
    have f0 := B1V.free 0
    have x1 := B2V.at (i := 1) rfl
    have z1 := B1V.at (i := 1) rfl
    have f1 := B1V.free 1
    have x2 := B2V.at (i := 2) rfl
    have z2 := B1V.at (i := 2) rfl
    have f2 := B1V.free 2
    have x3 := B2V.at (i := 3) rfl
    have z3 := B1V.at (i := 3) rfl
    have f3 := B1V.free 3
    have x4 := B2V.at (i := 4) rfl
    have z4 := B1V.at (i := 4) rfl
    have f4 := B1V.free 4
    have x5 := B2V.at (i := 5) rfl
    have z5 := B1V.at (i := 5) rfl
    have f5 := B1V.free 5
    have x6 := B2V.at (i := 6) rfl
    have z6 := B1V.at (i := 6) rfl
    have f6 := B1V.free 6
    go_wp2_with fail
    exact bodyPost_ret (v := txv (⟨3, (a5 : Int), (b3 : Int), false, 0, (m : Int), (u : Int)⟩ : Txx)) (by simp [results, Tryz.results60, go_sem, z0, z1, z2, z3, z4, z5, z6]) rfl ⟨(⟨3, (a5 : Int), (b3 : Int), false, 0, (m : Int), (u : Int)⟩ : Txx), rfl, ⟨(⟨by decide, by decide⟩ : I 3), nI (Nat.lt_of_lt_of_le (HL.out.2.2.2.2.1) (by omega)), nI (Nat.lt_of_lt_of_le (HL.out.2.1) (by omega)), (⟨by decide, by decide⟩ : U 0), HM.out, nI (Nat.lt_of_lt_of_le (HL.out.2.2.2.2.2.2.2) (by omega))⟩, sto7_chg HCV.out g1 (⟨3, (a5 : Int), (b3 : Int), false, 0, (m : Int), (u : Int)⟩ : Txx) (.inr (by rw [HG1.out]; exact Nat.le_refl _))⟩
  · have h7b : ((d : Int) == 7) = false := by simp; omega
    clear h7
    have B2V := B2
    have B1V := B1
    have HCV := HC
    clear B1 B2 HC
    have x0 := B2V.at (i := 0) rfl
    have z0 := B1V.at (i := 0) rfl
    have f0 := B1V.free 0
    have x1 := B2V.at (i := 1) rfl
    have z1 := B1V.at (i := 1) rfl
    have f1 := B1V.free 1
    have x2 := B2V.at (i := 2) rfl
    have z2 := B1V.at (i := 2) rfl
    have f2 := B1V.free 2
    have x3 := B2V.at (i := 3) rfl
    have z3 := B1V.at (i := 3) rfl
    have f3 := B1V.free 3
    have x4 := B2V.at (i := 4) rfl
    have z4 := B1V.at (i := 4) rfl
    have f4 := B1V.free 4
    have x5 := B2V.at (i := 5) rfl
    have z5 := B1V.at (i := 5) rfl
    have f5 := B1V.free 5
    have x6 := B2V.at (i := 6) rfl
    have z6 := B1V.at (i := 6) rfl
    have f6 := B1V.free 6
    go_wp2_with fail
    exact bodyPost_ret (v := txv (⟨3, (a5 : Int), (b3 : Int), false, 0, (q : Int), 0⟩ : Txx)) (by simp [results, Tryz.results60, go_sem, z0, z1, z2, z3, z4, z5, z6]) rfl ⟨(⟨3, (a5 : Int), (b3 : Int), false, 0, (q : Int), 0⟩ : Txx), rfl, ⟨(⟨by decide, by decide⟩ : I 3), nI (Nat.lt_of_lt_of_le (HL.out.2.2.2.2.1) (by omega)), nI (Nat.lt_of_lt_of_le (HL.out.2.1) (by omega)), (⟨by decide, by decide⟩ : U 0), nU (Nat.lt_of_lt_of_le (HL.out.2.2.2.2.2.1) (by omega)), (⟨by decide, by decide⟩ : I 0)⟩, sto7_chg HCV.out g1 (⟨3, (a5 : Int), (b3 : Int), false, 0, (q : Int), 0⟩ : Txx) (.inr (by rw [HG1.out]; exact Nat.le_refl _))⟩
set_option maxHeartbeats 4000000 in
theorem tx4 (n m : Int) (hn : U n) (hm : U m) (hk : bits BinOp.and .u64 n 7 = 4) (w : World) :
    Calls Tryz.prog 60 #[.int .u64 n, .int .u64 m] w fun y w' => ∃ t : Txx, y = .returned (txv t) ∧ t.Ok ∧ Chg [] w w' := by
  obtain ⟨a3, ha3, la3⟩ : ∃ f : Nat, bits BinOp.and .u64 (n / 8) 1 = f ∧ f < 2 := low_u64 (n / 8) 1 (by omega)
  obtain ⟨b3, hb3, lb3⟩ : ∃ f : Nat, bits BinOp.and .u64 (n / 8) 3 = f ∧ f < 4 := low_u64 (n / 8) 2 (by omega)
  obtain ⟨c3, hc3, lc3⟩ : ∃ f : Nat, bits BinOp.and .u64 (n / 8) 15 = f ∧ f < 16 := low_u64 (n / 8) 4 (by omega)
  obtain ⟨a4, ha4, la4⟩ : ∃ f : Nat, bits BinOp.and .u64 (n / 16) 7 = f ∧ f < 8 := low_u64 (n / 16) 3 (by omega)
  obtain ⟨a5, ha5, la5⟩ : ∃ f : Nat, bits BinOp.and .u64 (n / 32) 1 = f ∧ f < 2 := low_u64 (n / 32) 1 (by omega)
  obtain ⟨d, hd, ld⟩ : ∃ f : Nat, bits BinOp.and .u64 (n / 4096) 15 = f ∧ f < 16 := low_u64 (n / 4096) 4 (by omega)
  obtain ⟨q, hq, lq⟩ : ∃ f : Nat, bits BinOp.and .u64 m 4095 = f ∧ f < 4096 := low_u64 m 12 (by omega)
  obtain ⟨q2, hq2, lq2⟩ : ∃ f : Nat, bits BinOp.and .u64 m 15 = f ∧ f < 16 := low_u64 m 4 (by omega)
  obtain ⟨u, hu, lu⟩ : ∃ f : Nat, m / 1099511627776 = f ∧ f < 20000000 := ⟨(m / 1099511627776).toNat, by have := hm.1; omega, by have := hm.2; omega⟩
  have wa3 : IntKind.i64.wrap (a3 : Int) = a3 := by simp [IntKind.wrap, IntKind.bits, IntKind.signed]; omega
  have wb3 : IntKind.i64.wrap (b3 : Int) = b3 := by simp [IntKind.wrap, IntKind.bits, IntKind.signed]; omega
  have wc3 : IntKind.i64.wrap (c3 : Int) = c3 := by simp [IntKind.wrap, IntKind.bits, IntKind.signed]; omega
  have wa5 : IntKind.i64.wrap (a5 : Int) = a5 := by simp [IntKind.wrap, IntKind.bits, IntKind.signed]; omega
  have wu : IntKind.i64.wrap (u : Int) = u := by simp [IntKind.wrap, IntKind.bits, IntKind.signed]; omega
  have wk : IntKind.i64.wrap 4 = 4 := by rfl
  have HM := Lib.hid hm
  have HL := Lib.hid (And.intro la3 (And.intro lb3 (And.intro lc3 (And.intro la4 (And.intro la5 (And.intro lq (And.intro lq2 lu)))))))
  clear hn hm la3 lb3 lc3 la4 la5 ld lq lq2 lu
  have B1 : Blk ((w.alloc (.cells #[.int .i64 0, .int .i64 0, .int .i64 0, .bool false, .int .u64 0, .int .u64 0, .int .i64 0] 49)).alloc (.cells #[.int .i64 4, .int .i64 0, .int .i64 0, .bool false, .int .u64 0, .int .u64 0, .int .i64 0] 49)) w.heap.size 49 [.int .i64 0, .int .i64 0, .int .i64 0, .bool false, .int .u64 0, .int .u64 0, .int .i64 0] := (Blk.new w _ _).alloc _
  have B2 : Blk ((w.alloc (.cells #[.int .i64 0, .int .i64 0, .int .i64 0, .bool false, .int .u64 0, .int .u64 0, .int .i64 0] 49)).alloc (.cells #[.int .i64 4, .int .i64 0, .int .i64 0, .bool false, .int .u64 0, .int .u64 0, .int .i64 0] 49)) (w.heap.size + 1) 49 [.int .i64 4, .int .i64 0, .int .i64 0, .bool false, .int .u64 0, .int .u64 0, .int .i64 0] := by
    have := Blk.new (w.alloc (.cells #[.int .i64 0, .int .i64 0, .int .i64 0, .bool false, .int .u64 0, .int .u64 0, .int .i64 0] 49)) [.int .i64 4, .int .i64 0, .int .i64 0, .bool false, .int .u64 0, .int .u64 0, .int .i64 0] 49
    rwa [World.size_alloc] at this
  have HC : Hid (Chg [] w ((w.alloc (.cells #[.int .i64 0, .int .i64 0, .int .i64 0, .bool false, .int .u64 0, .int .u64 0, .int .i64 0] 49)).alloc (.cells #[.int .i64 4, .int .i64 0, .int .i64 0, .bool false, .int .u64 0, .int .u64 0, .int .i64 0] 49))) := ((Chg.refl _ _).alloc _).alloc _
  go_enter Tryz.func60, Tryz.ntmps60
  go_upto_region 2 with (fail)
  have hne : w.heap.size + 1 ≠ w.heap.size := by omega
  have hlo : w.heap.size ≤ w.heap.size + 1 := by omega
  have HLO : Hid (w.heap.size ≤ w.heap.size) := Nat.le_refl _
  have HW : Hid (w.heap.size = w.heap.size) := rfl
  obtain ⟨g1, hg1⟩ : ∃ g, w.heap.size = g := ⟨_, rfl⟩
  have HG1 := Lib.hid hg1
  rw [hg1] at B1 B2 hne hlo
  simp only [hg1]
  obtain ⟨g2, hg2⟩ : ∃ g, g1 + 1 = g := ⟨_, rfl⟩
  rw [hg2] at B2 hne hlo
  simp only [hg2]
  clear hg1 hg2 HLO HW
  have HLO := Lib.hid hlo
  have HNE := Lib.hid hne
  clear hlo
  generalize (w.alloc _).alloc _ = W at *
  have x0 := B2.at (i := 0) rfl
  rcases (by have := HL.out.1; omega : a3 = 0 ∨ a3 = 1) with rfl | rfl
  · skip
    have y3 := B2.at (i := 3) rfl
    have f3 := B2.free 3
    have y4 := B2.at (i := 4) rfl
    have f4 := B2.free 4
    have y5 := B2.at (i := 5) rfl
    have f5 := B2.free 5
    go_upto_region 13 with (fail)
    have cV : Chg [g2] W (((W.setCell ⟨g2, 3, none⟩ (.bool false)).setCell ⟨g2, 4, none⟩ (.int .u64 a4)).setCell ⟨g2, 5, none⟩ (.int .u64 q2)) := ((((Chg.refl [g2] W).setCell ⟨g2, 3, none⟩ (.bool false) (.inl (by simp))).setCell ⟨g2, 4, none⟩ (.int .u64 a4) (.inl (by simp))).setCell ⟨g2, 5, none⟩ (.int .u64 q2) (.inl (by simp)))
    have B2V : Blk (((W.setCell ⟨g2, 3, none⟩ (.bool false)).setCell ⟨g2, 4, none⟩ (.int .u64 a4)).setCell ⟨g2, 5, none⟩ (.int .u64 q2)) g2 49 [.int .i64 4, .int .i64 0, .int .i64 0, .bool false, .int .u64 a4, .int .u64 q2, .int .i64 0] := (((B2.set 3 (.bool false)).set 4 (.int .u64 a4)).set 5 (.int .u64 q2))
    have B1V := B1.chg cV (by simp; exact fun e => HNE.out e.symm)
    have HCV := Lib.hid (HC.out.trans' cV (fun z hz => .inr (by simp at hz; rw [hz, HG1.out]; exact HLO.out)))
    clear B1 B2 cV HC y3 f3 y4 f4 y5 f5
    generalize (((W.setCell ⟨g2, 3, none⟩ (.bool false)).setCell ⟨g2, 4, none⟩ (.int .u64 a4)).setCell ⟨g2, 5, none⟩ (.int .u64 q2)) = V at *
    have B1 := B1V
    have B2 := B2V
    have HC := HCV
    clear B1V B2V HCV
    generalize V = W at *
    by_cases h7 : d = 7
    · subst h7
      have y5 := B2.at (i := 5) rfl
      have f5 := B2.free 5
      have y6 := B2.at (i := 6) rfl
      have f6 := B2.free 6
      go_upto_region 15 with (fail)
      have cV : Chg [g2] W ((W.setCell ⟨g2, 5, none⟩ (.int .u64 m)).setCell ⟨g2, 6, none⟩ (.int .i64 u)) := (((Chg.refl [g2] W).setCell ⟨g2, 5, none⟩ (.int .u64 m) (.inl (by simp))).setCell ⟨g2, 6, none⟩ (.int .i64 u) (.inl (by simp)))
      have B2V : Blk ((W.setCell ⟨g2, 5, none⟩ (.int .u64 m)).setCell ⟨g2, 6, none⟩ (.int .i64 u)) g2 49 [.int .i64 4, .int .i64 0, .int .i64 0, .bool false, .int .u64 a4, .int .u64 m, .int .i64 u] := ((B2.set 5 (.int .u64 m)).set 6 (.int .i64 u))
      have B1V := B1.chg cV (by simp; exact fun e => HNE.out e.symm)
      have HCV := Lib.hid (HC.out.trans' cV (fun z hz => .inr (by simp at hz; rw [hz, HG1.out]; exact HLO.out)))
      clear B1 B2 cV HC y5 f5 y6 f6
      generalize ((W.setCell ⟨g2, 5, none⟩ (.int .u64 m)).setCell ⟨g2, 6, none⟩ (.int .i64 u)) = V at *
      have x0 := B2V.at (i := 0) rfl
      have z0 := B1V.at (i := 0) rfl
      have f0 := B1V.free 0
      have x1 := B2V.at (i := 1) rfl
      have z1 := B1V.at (i := 1) rfl
      have f1 := B1V.free 1
      have x2 := B2V.at (i := 2) rfl
      have z2 := B1V.at (i := 2) rfl
      have f2 := B1V.free 2
      have x3 := B2V.at (i := 3) rfl
      have z3 := B1V.at (i := 3) rfl
      have f3 := B1V.free 3
      have x4 := B2V.at (i := 4) rfl
      have z4 := B1V.at (i := 4) rfl
      have f4 := B1V.free 4
      have x5 := B2V.at (i := 5) rfl
      have z5 := B1V.at (i := 5) rfl
      have f5 := B1V.free 5
      have x6 := B2V.at (i := 6) rfl
      have z6 := B1V.at (i := 6) rfl
      have f6 := B1V.free 6
      go_wp2_with fail
      exact bodyPost_ret (v := txv (⟨4, 0, 0, false, (a4 : Int), (m : Int), (u : Int)⟩ : Txx)) (by simp [results, Tryz.results60, go_sem, z0, z1, z2, z3, z4, z5, z6]) rfl ⟨(⟨4, 0, 0, false, (a4 : Int), (m : Int), (u : Int)⟩ : Txx), rfl, ⟨(⟨by decide, by decide⟩ : I 4), (⟨by decide, by decide⟩ : I 0), (⟨by decide, by decide⟩ : I 0), nU (Nat.lt_of_lt_of_le (HL.out.2.2.2.1) (by omega)), HM.out, nI (Nat.lt_of_lt_of_le (HL.out.2.2.2.2.2.2.2) (by omega))⟩, sto7_chg HCV.out g1 (⟨4, 0, 0, false, (a4 : Int), (m : Int), (u : Int)⟩ : Txx) (.inr (by rw [HG1.out]; exact Nat.le_refl _))⟩
    · have h7b : ((d : Int) == 7) = false := by simp; omega
      clear h7
      have B2V := B2
      have B1V := B1
      have HCV := HC
      clear B1 B2 HC
      have x0 := B2V.at (i := 0) rfl
      have z0 := B1V.at (i := 0) rfl
      have f0 := B1V.free 0
      have x1 := B2V.at (i := 1) rfl
      have z1 := B1V.at (i := 1) rfl
      have f1 := B1V.free 1
      have x2 := B2V.at (i := 2) rfl
      have z2 := B1V.at (i := 2) rfl
      have f2 := B1V.free 2
      have x3 := B2V.at (i := 3) rfl
      have z3 := B1V.at (i := 3) rfl
      have f3 := B1V.free 3
      have x4 := B2V.at (i := 4) rfl
      have z4 := B1V.at (i := 4) rfl
      have f4 := B1V.free 4
      have x5 := B2V.at (i := 5) rfl
      have z5 := B1V.at (i := 5) rfl
      have f5 := B1V.free 5
      have x6 := B2V.at (i := 6) rfl
      have z6 := B1V.at (i := 6) rfl
      have f6 := B1V.free 6
      go_wp2_with fail
      exact bodyPost_ret (v := txv (⟨4, 0, 0, false, (a4 : Int), (q2 : Int), 0⟩ : Txx)) (by simp [results, Tryz.results60, go_sem, z0, z1, z2, z3, z4, z5, z6]) rfl ⟨(⟨4, 0, 0, false, (a4 : Int), (q2 : Int), 0⟩ : Txx), rfl, ⟨(⟨by decide, by decide⟩ : I 4), (⟨by decide, by decide⟩ : I 0), (⟨by decide, by decide⟩ : I 0), nU (Nat.lt_of_lt_of_le (HL.out.2.2.2.1) (by omega)), nU (Nat.lt_of_lt_of_le (HL.out.2.2.2.2.2.2.1) (by omega)), (⟨by decide, by decide⟩ : I 0)⟩, sto7_chg HCV.out g1 (⟨4, 0, 0, false, (a4 : Int), (q2 : Int), 0⟩ : Txx) (.inr (by rw [HG1.out]; exact Nat.le_refl _))⟩
  · skip
    have y3 := B2.at (i := 3) rfl
    have f3 := B2.free 3
    have y4 := B2.at (i := 4) rfl
    have f4 := B2.free 4
    have y5 := B2.at (i := 5) rfl
    have f5 := B2.free 5
    go_upto_region 13 with (fail)
    have cV : Chg [g2] W (((W.setCell ⟨g2, 3, none⟩ (.bool true)).setCell ⟨g2, 4, none⟩ (.int .u64 a4)).setCell ⟨g2, 5, none⟩ (.int .u64 q2)) := ((((Chg.refl [g2] W).setCell ⟨g2, 3, none⟩ (.bool true) (.inl (by simp))).setCell ⟨g2, 4, none⟩ (.int .u64 a4) (.inl (by simp))).setCell ⟨g2, 5, none⟩ (.int .u64 q2) (.inl (by simp)))
    have B2V : Blk (((W.setCell ⟨g2, 3, none⟩ (.bool true)).setCell ⟨g2, 4, none⟩ (.int .u64 a4)).setCell ⟨g2, 5, none⟩ (.int .u64 q2)) g2 49 [.int .i64 4, .int .i64 0, .int .i64 0, .bool true, .int .u64 a4, .int .u64 q2, .int .i64 0] := (((B2.set 3 (.bool true)).set 4 (.int .u64 a4)).set 5 (.int .u64 q2))
    have B1V := B1.chg cV (by simp; exact fun e => HNE.out e.symm)
    have HCV := Lib.hid (HC.out.trans' cV (fun z hz => .inr (by simp at hz; rw [hz, HG1.out]; exact HLO.out)))
    clear B1 B2 cV HC y3 f3 y4 f4 y5 f5
    generalize (((W.setCell ⟨g2, 3, none⟩ (.bool true)).setCell ⟨g2, 4, none⟩ (.int .u64 a4)).setCell ⟨g2, 5, none⟩ (.int .u64 q2)) = V at *
    have B1 := B1V
    have B2 := B2V
    have HC := HCV
    clear B1V B2V HCV
    generalize V = W at *
    by_cases h7 : d = 7
    · subst h7
      have y5 := B2.at (i := 5) rfl
      have f5 := B2.free 5
      have y6 := B2.at (i := 6) rfl
      have f6 := B2.free 6
      go_upto_region 15 with (fail)
      have cV : Chg [g2] W ((W.setCell ⟨g2, 5, none⟩ (.int .u64 m)).setCell ⟨g2, 6, none⟩ (.int .i64 u)) := (((Chg.refl [g2] W).setCell ⟨g2, 5, none⟩ (.int .u64 m) (.inl (by simp))).setCell ⟨g2, 6, none⟩ (.int .i64 u) (.inl (by simp)))
      have B2V : Blk ((W.setCell ⟨g2, 5, none⟩ (.int .u64 m)).setCell ⟨g2, 6, none⟩ (.int .i64 u)) g2 49 [.int .i64 4, .int .i64 0, .int .i64 0, .bool true, .int .u64 a4, .int .u64 m, .int .i64 u] := ((B2.set 5 (.int .u64 m)).set 6 (.int .i64 u))
      have B1V := B1.chg cV (by simp; exact fun e => HNE.out e.symm)
      have HCV := Lib.hid (HC.out.trans' cV (fun z hz => .inr (by simp at hz; rw [hz, HG1.out]; exact HLO.out)))
      clear B1 B2 cV HC y5 f5 y6 f6
      generalize ((W.setCell ⟨g2, 5, none⟩ (.int .u64 m)).setCell ⟨g2, 6, none⟩ (.int .i64 u)) = V at *
      have x0 := B2V.at (i := 0) rfl
      have z0 := B1V.at (i := 0) rfl
      have f0 := B1V.free 0
      have x1 := B2V.at (i := 1) rfl
      have z1 := B1V.at (i := 1) rfl
      have f1 := B1V.free 1
      have x2 := B2V.at (i := 2) rfl
      have z2 := B1V.at (i := 2) rfl
      have f2 := B1V.free 2
      have x3 := B2V.at (i := 3) rfl
      have z3 := B1V.at (i := 3) rfl
      have f3 := B1V.free 3
      have x4 := B2V.at (i := 4) rfl
      have z4 := B1V.at (i := 4) rfl
      have f4 := B1V.free 4
      have x5 := B2V.at (i := 5) rfl
      have z5 := B1V.at (i := 5) rfl
      have f5 := B1V.free 5
      have x6 := B2V.at (i := 6) rfl
      have z6 := B1V.at (i := 6) rfl
      have f6 := B1V.free 6
      go_wp2_with fail
      exact bodyPost_ret (v := txv (⟨4, 0, 0, true, (a4 : Int), (m : Int), (u : Int)⟩ : Txx)) (by simp [results, Tryz.results60, go_sem, z0, z1, z2, z3, z4, z5, z6]) rfl ⟨(⟨4, 0, 0, true, (a4 : Int), (m : Int), (u : Int)⟩ : Txx), rfl, ⟨(⟨by decide, by decide⟩ : I 4), (⟨by decide, by decide⟩ : I 0), (⟨by decide, by decide⟩ : I 0), nU (Nat.lt_of_lt_of_le (HL.out.2.2.2.1) (by omega)), HM.out, nI (Nat.lt_of_lt_of_le (HL.out.2.2.2.2.2.2.2) (by omega))⟩, sto7_chg HCV.out g1 (⟨4, 0, 0, true, (a4 : Int), (m : Int), (u : Int)⟩ : Txx) (.inr (by rw [HG1.out]; exact Nat.le_refl _))⟩
    · have h7b : ((d : Int) == 7) = false := by simp; omega
      clear h7
      have B2V := B2
      have B1V := B1
      have HCV := HC
      clear B1 B2 HC
      have x0 := B2V.at (i := 0) rfl
      have z0 := B1V.at (i := 0) rfl
      have f0 := B1V.free 0
      have x1 := B2V.at (i := 1) rfl
      have z1 := B1V.at (i := 1) rfl
      have f1 := B1V.free 1
      have x2 := B2V.at (i := 2) rfl
      have z2 := B1V.at (i := 2) rfl
      have f2 := B1V.free 2
      have x3 := B2V.at (i := 3) rfl
      have z3 := B1V.at (i := 3) rfl
      have f3 := B1V.free 3
      have x4 := B2V.at (i := 4) rfl
      have z4 := B1V.at (i := 4) rfl
      have f4 := B1V.free 4
      have x5 := B2V.at (i := 5) rfl
      have z5 := B1V.at (i := 5) rfl
      have f5 := B1V.free 5
      have x6 := B2V.at (i := 6) rfl
      have z6 := B1V.at (i := 6) rfl
      have f6 := B1V.free 6
      go_wp2_with fail
      exact bodyPost_ret (v := txv (⟨4, 0, 0, true, (a4 : Int), (q2 : Int), 0⟩ : Txx)) (by simp [results, Tryz.results60, go_sem, z0, z1, z2, z3, z4, z5, z6]) rfl ⟨(⟨4, 0, 0, true, (a4 : Int), (q2 : Int), 0⟩ : Txx), rfl, ⟨(⟨by decide, by decide⟩ : I 4), (⟨by decide, by decide⟩ : I 0), (⟨by decide, by decide⟩ : I 0), nU (Nat.lt_of_lt_of_le (HL.out.2.2.2.1) (by omega)), nU (Nat.lt_of_lt_of_le (HL.out.2.2.2.2.2.2.1) (by omega)), (⟨by decide, by decide⟩ : I 0)⟩, sto7_chg HCV.out g1 (⟨4, 0, 0, true, (a4 : Int), (q2 : Int), 0⟩ : Txx) (.inr (by rw [HG1.out]; exact Nat.le_refl _))⟩
set_option maxHeartbeats 4000000 in
theorem tx5 (n m : Int) (hn : U n) (hm : U m) (hk : bits BinOp.and .u64 n 7 = 5) (w : World) :
    Calls Tryz.prog 60 #[.int .u64 n, .int .u64 m] w fun y w' => ∃ t : Txx, y = .returned (txv t) ∧ t.Ok ∧ Chg [] w w' := by
  obtain ⟨a3, ha3, la3⟩ : ∃ f : Nat, bits BinOp.and .u64 (n / 8) 1 = f ∧ f < 2 := low_u64 (n / 8) 1 (by omega)
  obtain ⟨b3, hb3, lb3⟩ : ∃ f : Nat, bits BinOp.and .u64 (n / 8) 3 = f ∧ f < 4 := low_u64 (n / 8) 2 (by omega)
  obtain ⟨c3, hc3, lc3⟩ : ∃ f : Nat, bits BinOp.and .u64 (n / 8) 15 = f ∧ f < 16 := low_u64 (n / 8) 4 (by omega)
  obtain ⟨a4, ha4, la4⟩ : ∃ f : Nat, bits BinOp.and .u64 (n / 16) 7 = f ∧ f < 8 := low_u64 (n / 16) 3 (by omega)
  obtain ⟨a5, ha5, la5⟩ : ∃ f : Nat, bits BinOp.and .u64 (n / 32) 1 = f ∧ f < 2 := low_u64 (n / 32) 1 (by omega)
  obtain ⟨d, hd, ld⟩ : ∃ f : Nat, bits BinOp.and .u64 (n / 4096) 15 = f ∧ f < 16 := low_u64 (n / 4096) 4 (by omega)
  obtain ⟨q, hq, lq⟩ : ∃ f : Nat, bits BinOp.and .u64 m 4095 = f ∧ f < 4096 := low_u64 m 12 (by omega)
  obtain ⟨q2, hq2, lq2⟩ : ∃ f : Nat, bits BinOp.and .u64 m 15 = f ∧ f < 16 := low_u64 m 4 (by omega)
  obtain ⟨u, hu, lu⟩ : ∃ f : Nat, m / 1099511627776 = f ∧ f < 20000000 := ⟨(m / 1099511627776).toNat, by have := hm.1; omega, by have := hm.2; omega⟩
  have wa3 : IntKind.i64.wrap (a3 : Int) = a3 := by simp [IntKind.wrap, IntKind.bits, IntKind.signed]; omega
  have wb3 : IntKind.i64.wrap (b3 : Int) = b3 := by simp [IntKind.wrap, IntKind.bits, IntKind.signed]; omega
  have wc3 : IntKind.i64.wrap (c3 : Int) = c3 := by simp [IntKind.wrap, IntKind.bits, IntKind.signed]; omega
  have wa5 : IntKind.i64.wrap (a5 : Int) = a5 := by simp [IntKind.wrap, IntKind.bits, IntKind.signed]; omega
  have wu : IntKind.i64.wrap (u : Int) = u := by simp [IntKind.wrap, IntKind.bits, IntKind.signed]; omega
  have wk : IntKind.i64.wrap 5 = 5 := by rfl
  have HM := Lib.hid hm
  have HL := Lib.hid (And.intro la3 (And.intro lb3 (And.intro lc3 (And.intro la4 (And.intro la5 (And.intro lq (And.intro lq2 lu)))))))
  clear hn hm la3 lb3 lc3 la4 la5 ld lq lq2 lu
  have B1 : Blk ((w.alloc (.cells #[.int .i64 0, .int .i64 0, .int .i64 0, .bool false, .int .u64 0, .int .u64 0, .int .i64 0] 49)).alloc (.cells #[.int .i64 5, .int .i64 0, .int .i64 0, .bool false, .int .u64 0, .int .u64 0, .int .i64 0] 49)) w.heap.size 49 [.int .i64 0, .int .i64 0, .int .i64 0, .bool false, .int .u64 0, .int .u64 0, .int .i64 0] := (Blk.new w _ _).alloc _
  have B2 : Blk ((w.alloc (.cells #[.int .i64 0, .int .i64 0, .int .i64 0, .bool false, .int .u64 0, .int .u64 0, .int .i64 0] 49)).alloc (.cells #[.int .i64 5, .int .i64 0, .int .i64 0, .bool false, .int .u64 0, .int .u64 0, .int .i64 0] 49)) (w.heap.size + 1) 49 [.int .i64 5, .int .i64 0, .int .i64 0, .bool false, .int .u64 0, .int .u64 0, .int .i64 0] := by
    have := Blk.new (w.alloc (.cells #[.int .i64 0, .int .i64 0, .int .i64 0, .bool false, .int .u64 0, .int .u64 0, .int .i64 0] 49)) [.int .i64 5, .int .i64 0, .int .i64 0, .bool false, .int .u64 0, .int .u64 0, .int .i64 0] 49
    rwa [World.size_alloc] at this
  have HC : Hid (Chg [] w ((w.alloc (.cells #[.int .i64 0, .int .i64 0, .int .i64 0, .bool false, .int .u64 0, .int .u64 0, .int .i64 0] 49)).alloc (.cells #[.int .i64 5, .int .i64 0, .int .i64 0, .bool false, .int .u64 0, .int .u64 0, .int .i64 0] 49))) := ((Chg.refl _ _).alloc _).alloc _
  go_enter Tryz.func60, Tryz.ntmps60
  go_upto_region 2 with (fail)
  have hne : w.heap.size + 1 ≠ w.heap.size := by omega
  have hlo : w.heap.size ≤ w.heap.size + 1 := by omega
  have HLO : Hid (w.heap.size ≤ w.heap.size) := Nat.le_refl _
  have HW : Hid (w.heap.size = w.heap.size) := rfl
  obtain ⟨g1, hg1⟩ : ∃ g, w.heap.size = g := ⟨_, rfl⟩
  have HG1 := Lib.hid hg1
  rw [hg1] at B1 B2 hne hlo
  simp only [hg1]
  obtain ⟨g2, hg2⟩ : ∃ g, g1 + 1 = g := ⟨_, rfl⟩
  rw [hg2] at B2 hne hlo
  simp only [hg2]
  clear hg1 hg2 HLO HW
  have HLO := Lib.hid hlo
  have HNE := Lib.hid hne
  clear hlo
  generalize (w.alloc _).alloc _ = W at *
  have x0 := B2.at (i := 0) rfl
  rcases (by have := HL.out.1; omega : a3 = 0 ∨ a3 = 1) with rfl | rfl
  · skip
    have y3 := B2.at (i := 3) rfl
    have f3 := B2.free 3
    have y4 := B2.at (i := 4) rfl
    have f4 := B2.free 4
    have y5 := B2.at (i := 5) rfl
    have f5 := B2.free 5
    go_upto_region 13 with (fail)
    have cV : Chg [g2] W (((W.setCell ⟨g2, 3, none⟩ (.bool false)).setCell ⟨g2, 4, none⟩ (.int .u64 a4)).setCell ⟨g2, 5, none⟩ (.int .u64 q2)) := ((((Chg.refl [g2] W).setCell ⟨g2, 3, none⟩ (.bool false) (.inl (by simp))).setCell ⟨g2, 4, none⟩ (.int .u64 a4) (.inl (by simp))).setCell ⟨g2, 5, none⟩ (.int .u64 q2) (.inl (by simp)))
    have B2V : Blk (((W.setCell ⟨g2, 3, none⟩ (.bool false)).setCell ⟨g2, 4, none⟩ (.int .u64 a4)).setCell ⟨g2, 5, none⟩ (.int .u64 q2)) g2 49 [.int .i64 5, .int .i64 0, .int .i64 0, .bool false, .int .u64 a4, .int .u64 q2, .int .i64 0] := (((B2.set 3 (.bool false)).set 4 (.int .u64 a4)).set 5 (.int .u64 q2))
    have B1V := B1.chg cV (by simp; exact fun e => HNE.out e.symm)
    have HCV := Lib.hid (HC.out.trans' cV (fun z hz => .inr (by simp at hz; rw [hz, HG1.out]; exact HLO.out)))
    clear B1 B2 cV HC y3 f3 y4 f4 y5 f5
    generalize (((W.setCell ⟨g2, 3, none⟩ (.bool false)).setCell ⟨g2, 4, none⟩ (.int .u64 a4)).setCell ⟨g2, 5, none⟩ (.int .u64 q2)) = V at *
    have B1 := B1V
    have B2 := B2V
    have HC := HCV
    clear B1V B2V HCV
    generalize V = W at *
    by_cases h7 : d = 7
    · subst h7
      have y5 := B2.at (i := 5) rfl
      have f5 := B2.free 5
      have y6 := B2.at (i := 6) rfl
      have f6 := B2.free 6
      go_upto_region 15 with (fail)
      have cV : Chg [g2] W ((W.setCell ⟨g2, 5, none⟩ (.int .u64 m)).setCell ⟨g2, 6, none⟩ (.int .i64 u)) := (((Chg.refl [g2] W).setCell ⟨g2, 5, none⟩ (.int .u64 m) (.inl (by simp))).setCell ⟨g2, 6, none⟩ (.int .i64 u) (.inl (by simp)))
      have B2V : Blk ((W.setCell ⟨g2, 5, none⟩ (.int .u64 m)).setCell ⟨g2, 6, none⟩ (.int .i64 u)) g2 49 [.int .i64 5, .int .i64 0, .int .i64 0, .bool false, .int .u64 a4, .int .u64 m, .int .i64 u] := ((B2.set 5 (.int .u64 m)).set 6 (.int .i64 u))
      have B1V := B1.chg cV (by simp; exact fun e => HNE.out e.symm)
      have HCV := Lib.hid (HC.out.trans' cV (fun z hz => .inr (by simp at hz; rw [hz, HG1.out]; exact HLO.out)))
      clear B1 B2 cV HC y5 f5 y6 f6
      generalize ((W.setCell ⟨g2, 5, none⟩ (.int .u64 m)).setCell ⟨g2, 6, none⟩ (.int .i64 u)) = V at *
      have x0 := B2V.at (i := 0) rfl
      have z0 := B1V.at (i := 0) rfl
      have f0 := B1V.free 0
      have x1 := B2V.at (i := 1) rfl
      have z1 := B1V.at (i := 1) rfl
      have f1 := B1V.free 1
      have x2 := B2V.at (i := 2) rfl
      have z2 := B1V.at (i := 2) rfl
      have f2 := B1V.free 2
      have x3 := B2V.at (i := 3) rfl
      have z3 := B1V.at (i := 3) rfl
      have f3 := B1V.free 3
      have x4 := B2V.at (i := 4) rfl
      have z4 := B1V.at (i := 4) rfl
      have f4 := B1V.free 4
      have x5 := B2V.at (i := 5) rfl
      have z5 := B1V.at (i := 5) rfl
      have f5 := B1V.free 5
      have x6 := B2V.at (i := 6) rfl
      have z6 := B1V.at (i := 6) rfl
      have f6 := B1V.free 6
      go_wp2_with fail
      exact bodyPost_ret (v := txv (⟨5, 0, 0, false, (a4 : Int), (m : Int), (u : Int)⟩ : Txx)) (by simp [results, Tryz.results60, go_sem, z0, z1, z2, z3, z4, z5, z6]) rfl ⟨(⟨5, 0, 0, false, (a4 : Int), (m : Int), (u : Int)⟩ : Txx), rfl, ⟨(⟨by decide, by decide⟩ : I 5), (⟨by decide, by decide⟩ : I 0), (⟨by decide, by decide⟩ : I 0), nU (Nat.lt_of_lt_of_le (HL.out.2.2.2.1) (by omega)), HM.out, nI (Nat.lt_of_lt_of_le (HL.out.2.2.2.2.2.2.2) (by omega))⟩, sto7_chg HCV.out g1 (⟨5, 0, 0, false, (a4 : Int), (m : Int), (u : Int)⟩ : Txx) (.inr (by rw [HG1.out]; exact Nat.le_refl _))⟩
    · have h7b : ((d : Int) == 7) = false := by simp; omega
      clear h7
      have B2V := B2
      have B1V := B1
      have HCV := HC
      clear B1 B2 HC
      have x0 := B2V.at (i := 0) rfl
      have z0 := B1V.at (i := 0) rfl
      have f0 := B1V.free 0
      have x1 := B2V.at (i := 1) rfl
      have z1 := B1V.at (i := 1) rfl
      have f1 := B1V.free 1
      have x2 := B2V.at (i := 2) rfl
      have z2 := B1V.at (i := 2) rfl
      have f2 := B1V.free 2
      have x3 := B2V.at (i := 3) rfl
      have z3 := B1V.at (i := 3) rfl
      have f3 := B1V.free 3
      have x4 := B2V.at (i := 4) rfl
      have z4 := B1V.at (i := 4) rfl
      have f4 := B1V.free 4
      have x5 := B2V.at (i := 5) rfl
      have z5 := B1V.at (i := 5) rfl
      have f5 := B1V.free 5
      have x6 := B2V.at (i := 6) rfl
      have z6 := B1V.at (i := 6) rfl
      have f6 := B1V.free 6
      go_wp2_with fail
      exact bodyPost_ret (v := txv (⟨5, 0, 0, false, (a4 : Int), (q2 : Int), 0⟩ : Txx)) (by simp [results, Tryz.results60, go_sem, z0, z1, z2, z3, z4, z5, z6]) rfl ⟨(⟨5, 0, 0, false, (a4 : Int), (q2 : Int), 0⟩ : Txx), rfl, ⟨(⟨by decide, by decide⟩ : I 5), (⟨by decide, by decide⟩ : I 0), (⟨by decide, by decide⟩ : I 0), nU (Nat.lt_of_lt_of_le (HL.out.2.2.2.1) (by omega)), nU (Nat.lt_of_lt_of_le (HL.out.2.2.2.2.2.2.1) (by omega)), (⟨by decide, by decide⟩ : I 0)⟩, sto7_chg HCV.out g1 (⟨5, 0, 0, false, (a4 : Int), (q2 : Int), 0⟩ : Txx) (.inr (by rw [HG1.out]; exact Nat.le_refl _))⟩
  · skip
    have y3 := B2.at (i := 3) rfl
    have f3 := B2.free 3
    have y4 := B2.at (i := 4) rfl
    have f4 := B2.free 4
    have y5 := B2.at (i := 5) rfl
    have f5 := B2.free 5
    go_upto_region 13 with (fail)
    have cV : Chg [g2] W (((W.setCell ⟨g2, 3, none⟩ (.bool true)).setCell ⟨g2, 4, none⟩ (.int .u64 a4)).setCell ⟨g2, 5, none⟩ (.int .u64 q2)) := ((((Chg.refl [g2] W).setCell ⟨g2, 3, none⟩ (.bool true) (.inl (by simp))).setCell ⟨g2, 4, none⟩ (.int .u64 a4) (.inl (by simp))).setCell ⟨g2, 5, none⟩ (.int .u64 q2) (.inl (by simp)))
    have B2V : Blk (((W.setCell ⟨g2, 3, none⟩ (.bool true)).setCell ⟨g2, 4, none⟩ (.int .u64 a4)).setCell ⟨g2, 5, none⟩ (.int .u64 q2)) g2 49 [.int .i64 5, .int .i64 0, .int .i64 0, .bool true, .int .u64 a4, .int .u64 q2, .int .i64 0] := (((B2.set 3 (.bool true)).set 4 (.int .u64 a4)).set 5 (.int .u64 q2))
    have B1V := B1.chg cV (by simp; exact fun e => HNE.out e.symm)
    have HCV := Lib.hid (HC.out.trans' cV (fun z hz => .inr (by simp at hz; rw [hz, HG1.out]; exact HLO.out)))
    clear B1 B2 cV HC y3 f3 y4 f4 y5 f5
    generalize (((W.setCell ⟨g2, 3, none⟩ (.bool true)).setCell ⟨g2, 4, none⟩ (.int .u64 a4)).setCell ⟨g2, 5, none⟩ (.int .u64 q2)) = V at *
    have B1 := B1V
    have B2 := B2V
    have HC := HCV
    clear B1V B2V HCV
    generalize V = W at *
    by_cases h7 : d = 7
    · subst h7
      have y5 := B2.at (i := 5) rfl
      have f5 := B2.free 5
      have y6 := B2.at (i := 6) rfl
      have f6 := B2.free 6
      go_upto_region 15 with (fail)
      have cV : Chg [g2] W ((W.setCell ⟨g2, 5, none⟩ (.int .u64 m)).setCell ⟨g2, 6, none⟩ (.int .i64 u)) := (((Chg.refl [g2] W).setCell ⟨g2, 5, none⟩ (.int .u64 m) (.inl (by simp))).setCell ⟨g2, 6, none⟩ (.int .i64 u) (.inl (by simp)))
      have B2V : Blk ((W.setCell ⟨g2, 5, none⟩ (.int .u64 m)).setCell ⟨g2, 6, none⟩ (.int .i64 u)) g2 49 [.int .i64 5, .int .i64 0, .int .i64 0, .bool true, .int .u64 a4, .int .u64 m, .int .i64 u] := ((B2.set 5 (.int .u64 m)).set 6 (.int .i64 u))
      have B1V := B1.chg cV (by simp; exact fun e => HNE.out e.symm)
      have HCV := Lib.hid (HC.out.trans' cV (fun z hz => .inr (by simp at hz; rw [hz, HG1.out]; exact HLO.out)))
      clear B1 B2 cV HC y5 f5 y6 f6
      generalize ((W.setCell ⟨g2, 5, none⟩ (.int .u64 m)).setCell ⟨g2, 6, none⟩ (.int .i64 u)) = V at *
      have x0 := B2V.at (i := 0) rfl
      have z0 := B1V.at (i := 0) rfl
      have f0 := B1V.free 0
      have x1 := B2V.at (i := 1) rfl
      have z1 := B1V.at (i := 1) rfl
      have f1 := B1V.free 1
      have x2 := B2V.at (i := 2) rfl
      have z2 := B1V.at (i := 2) rfl
      have f2 := B1V.free 2
      have x3 := B2V.at (i := 3) rfl
      have z3 := B1V.at (i := 3) rfl
      have f3 := B1V.free 3
      have x4 := B2V.at (i := 4) rfl
      have z4 := B1V.at (i := 4) rfl
      have f4 := B1V.free 4
      have x5 := B2V.at (i := 5) rfl
      have z5 := B1V.at (i := 5) rfl
      have f5 := B1V.free 5
      have x6 := B2V.at (i := 6) rfl
      have z6 := B1V.at (i := 6) rfl
      have f6 := B1V.free 6
      go_wp2_with fail
      exact bodyPost_ret (v := txv (⟨5, 0, 0, true, (a4 : Int), (m : Int), (u : Int)⟩ : Txx)) (by simp [results, Tryz.results60, go_sem, z0, z1, z2, z3, z4, z5, z6]) rfl ⟨(⟨5, 0, 0, true, (a4 : Int), (m : Int), (u : Int)⟩ : Txx), rfl, ⟨(⟨by decide, by decide⟩ : I 5), (⟨by decide, by decide⟩ : I 0), (⟨by decide, by decide⟩ : I 0), nU (Nat.lt_of_lt_of_le (HL.out.2.2.2.1) (by omega)), HM.out, nI (Nat.lt_of_lt_of_le (HL.out.2.2.2.2.2.2.2) (by omega))⟩, sto7_chg HCV.out g1 (⟨5, 0, 0, true, (a4 : Int), (m : Int), (u : Int)⟩ : Txx) (.inr (by rw [HG1.out]; exact Nat.le_refl _))⟩
    · have h7b : ((d : Int) == 7) = false := by simp; omega
      clear h7
      have B2V := B2
      have B1V := B1
      have HCV := HC
      clear B1 B2 HC
      have x0 := B2V.at (i := 0) rfl
      have z0 := B1V.at (i := 0) rfl
      have f0 := B1V.free 0
      have x1 := B2V.at (i := 1) rfl
      have z1 := B1V.at (i := 1) rfl
      have f1 := B1V.free 1
      have x2 := B2V.at (i := 2) rfl
      have z2 := B1V.at (i := 2) rfl
      have f2 := B1V.free 2
      have x3 := B2V.at (i := 3) rfl
      have z3 := B1V.at (i := 3) rfl
      have f3 := B1V.free 3
      have x4 := B2V.at (i := 4) rfl
      have z4 := B1V.at (i := 4) rfl
      have f4 := B1V.free 4
      have x5 := B2V.at (i := 5) rfl
      have z5 := B1V.at (i := 5) rfl
      have f5 := B1V.free 5
      have x6 := B2V.at (i := 6) rfl
      have z6 := B1V.at (i := 6) rfl
      have f6 := B1V.free 6
      go_wp2_with fail
      exact bodyPost_ret (v := txv (⟨5, 0, 0, true, (a4 : Int), (q2 : Int), 0⟩ : Txx)) (by simp [results, Tryz.results60, go_sem, z0, z1, z2, z3, z4, z5, z6]) rfl ⟨(⟨5, 0, 0, true, (a4 : Int), (q2 : Int), 0⟩ : Txx), rfl, ⟨(⟨by decide, by decide⟩ : I 5), (⟨by decide, by decide⟩ : I 0), (⟨by decide, by decide⟩ : I 0), nU (Nat.lt_of_lt_of_le (HL.out.2.2.2.1) (by omega)), nU (Nat.lt_of_lt_of_le (HL.out.2.2.2.2.2.2.1) (by omega)), (⟨by decide, by decide⟩ : I 0)⟩, sto7_chg HCV.out g1 (⟨5, 0, 0, true, (a4 : Int), (q2 : Int), 0⟩ : Txx) (.inr (by rw [HG1.out]; exact Nat.le_refl _))⟩
set_option maxHeartbeats 4000000 in
theorem tx6 (n m : Int) (hn : U n) (hm : U m) (hk : bits BinOp.and .u64 n 7 = 6) (w : World) :
    Calls Tryz.prog 60 #[.int .u64 n, .int .u64 m] w fun y w' => ∃ t : Txx, y = .returned (txv t) ∧ t.Ok ∧ Chg [] w w' := by
  obtain ⟨a3, ha3, la3⟩ : ∃ f : Nat, bits BinOp.and .u64 (n / 8) 1 = f ∧ f < 2 := low_u64 (n / 8) 1 (by omega)
  obtain ⟨b3, hb3, lb3⟩ : ∃ f : Nat, bits BinOp.and .u64 (n / 8) 3 = f ∧ f < 4 := low_u64 (n / 8) 2 (by omega)
  obtain ⟨c3, hc3, lc3⟩ : ∃ f : Nat, bits BinOp.and .u64 (n / 8) 15 = f ∧ f < 16 := low_u64 (n / 8) 4 (by omega)
  obtain ⟨a4, ha4, la4⟩ : ∃ f : Nat, bits BinOp.and .u64 (n / 16) 7 = f ∧ f < 8 := low_u64 (n / 16) 3 (by omega)
  obtain ⟨a5, ha5, la5⟩ : ∃ f : Nat, bits BinOp.and .u64 (n / 32) 1 = f ∧ f < 2 := low_u64 (n / 32) 1 (by omega)
  obtain ⟨d, hd, ld⟩ : ∃ f : Nat, bits BinOp.and .u64 (n / 4096) 15 = f ∧ f < 16 := low_u64 (n / 4096) 4 (by omega)
  obtain ⟨q, hq, lq⟩ : ∃ f : Nat, bits BinOp.and .u64 m 4095 = f ∧ f < 4096 := low_u64 m 12 (by omega)
  obtain ⟨q2, hq2, lq2⟩ : ∃ f : Nat, bits BinOp.and .u64 m 15 = f ∧ f < 16 := low_u64 m 4 (by omega)
  obtain ⟨u, hu, lu⟩ : ∃ f : Nat, m / 1099511627776 = f ∧ f < 20000000 := ⟨(m / 1099511627776).toNat, by have := hm.1; omega, by have := hm.2; omega⟩
  have wa3 : IntKind.i64.wrap (a3 : Int) = a3 := by simp [IntKind.wrap, IntKind.bits, IntKind.signed]; omega
  have wb3 : IntKind.i64.wrap (b3 : Int) = b3 := by simp [IntKind.wrap, IntKind.bits, IntKind.signed]; omega
  have wc3 : IntKind.i64.wrap (c3 : Int) = c3 := by simp [IntKind.wrap, IntKind.bits, IntKind.signed]; omega
  have wa5 : IntKind.i64.wrap (a5 : Int) = a5 := by simp [IntKind.wrap, IntKind.bits, IntKind.signed]; omega
  have wu : IntKind.i64.wrap (u : Int) = u := by simp [IntKind.wrap, IntKind.bits, IntKind.signed]; omega
  have wk : IntKind.i64.wrap 6 = 6 := by rfl
  have HM := Lib.hid hm
  have HL := Lib.hid (And.intro la3 (And.intro lb3 (And.intro lc3 (And.intro la4 (And.intro la5 (And.intro lq (And.intro lq2 lu)))))))
  clear hn hm la3 lb3 lc3 la4 la5 ld lq lq2 lu
  have B1 : Blk ((w.alloc (.cells #[.int .i64 0, .int .i64 0, .int .i64 0, .bool false, .int .u64 0, .int .u64 0, .int .i64 0] 49)).alloc (.cells #[.int .i64 6, .int .i64 0, .int .i64 0, .bool false, .int .u64 0, .int .u64 0, .int .i64 0] 49)) w.heap.size 49 [.int .i64 0, .int .i64 0, .int .i64 0, .bool false, .int .u64 0, .int .u64 0, .int .i64 0] := (Blk.new w _ _).alloc _
  have B2 : Blk ((w.alloc (.cells #[.int .i64 0, .int .i64 0, .int .i64 0, .bool false, .int .u64 0, .int .u64 0, .int .i64 0] 49)).alloc (.cells #[.int .i64 6, .int .i64 0, .int .i64 0, .bool false, .int .u64 0, .int .u64 0, .int .i64 0] 49)) (w.heap.size + 1) 49 [.int .i64 6, .int .i64 0, .int .i64 0, .bool false, .int .u64 0, .int .u64 0, .int .i64 0] := by
    have := Blk.new (w.alloc (.cells #[.int .i64 0, .int .i64 0, .int .i64 0, .bool false, .int .u64 0, .int .u64 0, .int .i64 0] 49)) [.int .i64 6, .int .i64 0, .int .i64 0, .bool false, .int .u64 0, .int .u64 0, .int .i64 0] 49
    rwa [World.size_alloc] at this
  have HC : Hid (Chg [] w ((w.alloc (.cells #[.int .i64 0, .int .i64 0, .int .i64 0, .bool false, .int .u64 0, .int .u64 0, .int .i64 0] 49)).alloc (.cells #[.int .i64 6, .int .i64 0, .int .i64 0, .bool false, .int .u64 0, .int .u64 0, .int .i64 0] 49))) := ((Chg.refl _ _).alloc _).alloc _
  go_enter Tryz.func60, Tryz.ntmps60
  go_upto_region 2 with (fail)
  have hne : w.heap.size + 1 ≠ w.heap.size := by omega
  have hlo : w.heap.size ≤ w.heap.size + 1 := by omega
  have HLO : Hid (w.heap.size ≤ w.heap.size) := Nat.le_refl _
  have HW : Hid (w.heap.size = w.heap.size) := rfl
  obtain ⟨g1, hg1⟩ : ∃ g, w.heap.size = g := ⟨_, rfl⟩
  have HG1 := Lib.hid hg1
  rw [hg1] at B1 B2 hne hlo
  simp only [hg1]
  obtain ⟨g2, hg2⟩ : ∃ g, g1 + 1 = g := ⟨_, rfl⟩
  rw [hg2] at B2 hne hlo
  simp only [hg2]
  clear hg1 hg2 HLO HW
  have HLO := Lib.hid hlo
  have HNE := Lib.hid hne
  clear hlo
  generalize (w.alloc _).alloc _ = W at *
  have x0 := B2.at (i := 0) rfl
  have y6 := B2.at (i := 6) rfl
  have f6 := B2.free 6
  go_upto_region 13 with (fail)
  have cV : Chg [g2] W (W.setCell ⟨g2, 6, none⟩ (.int .i64 c3)) := ((Chg.refl [g2] W).setCell ⟨g2, 6, none⟩ (.int .i64 c3) (.inl (by simp)))
  have B2V : Blk (W.setCell ⟨g2, 6, none⟩ (.int .i64 c3)) g2 49 [.int .i64 6, .int .i64 0, .int .i64 0, .bool false, .int .u64 0, .int .u64 0, .int .i64 c3] := (B2.set 6 (.int .i64 c3))
  have B1V := B1.chg cV (by simp; exact fun e => HNE.out e.symm)
  have HCV := Lib.hid (HC.out.trans' cV (fun z hz => .inr (by simp at hz; rw [hz, HG1.out]; exact HLO.out)))
  clear B1 B2 cV HC y6 f6
  generalize (W.setCell ⟨g2, 6, none⟩ (.int .i64 c3)) = V at *
  have B1 := B1V
  have B2 := B2V
  have HC := HCV
  clear B1V B2V HCV
  generalize V = W at *
  by_cases h7 : d = 7
  · subst h7
    have y5 := B2.at (i := 5) rfl
    have f5 := B2.free 5
    have y6 := B2.at (i := 6) rfl
    have f6 := B2.free 6
    go_upto_region 15 with (fail)
    have cV : Chg [g2] W ((W.setCell ⟨g2, 5, none⟩ (.int .u64 m)).setCell ⟨g2, 6, none⟩ (.int .i64 u)) := (((Chg.refl [g2] W).setCell ⟨g2, 5, none⟩ (.int .u64 m) (.inl (by simp))).setCell ⟨g2, 6, none⟩ (.int .i64 u) (.inl (by simp)))
    have B2V : Blk ((W.setCell ⟨g2, 5, none⟩ (.int .u64 m)).setCell ⟨g2, 6, none⟩ (.int .i64 u)) g2 49 [.int .i64 6, .int .i64 0, .int .i64 0, .bool false, .int .u64 0, .int .u64 m, .int .i64 u] := ((B2.set 5 (.int .u64 m)).set 6 (.int .i64 u))
    have B1V := B1.chg cV (by simp; exact fun e => HNE.out e.symm)
    have HCV := Lib.hid (HC.out.trans' cV (fun z hz => .inr (by simp at hz; rw [hz, HG1.out]; exact HLO.out)))
    clear B1 B2 cV HC y5 f5 y6 f6
    generalize ((W.setCell ⟨g2, 5, none⟩ (.int .u64 m)).setCell ⟨g2, 6, none⟩ (.int .i64 u)) = V at *
    have x0 := B2V.at (i := 0) rfl
    have z0 := B1V.at (i := 0) rfl
    have f0 := B1V.free 0
    have x1 := B2V.at (i := 1) rfl
    have z1 := B1V.at (i := 1) rfl
    have f1 := B1V.free 1
    have x2 := B2V.at (i := 2) rfl
    have z2 := B1V.at (i := 2) rfl
    have f2 := B1V.free 2
    have x3 := B2V.at (i := 3) rfl
    have z3 := B1V.at (i := 3) rfl
    have f3 := B1V.free 3
    have x4 := B2V.at (i := 4) rfl
    have z4 := B1V.at (i := 4) rfl
    have f4 := B1V.free 4
    have x5 := B2V.at (i := 5) rfl
    have z5 := B1V.at (i := 5) rfl
    have f5 := B1V.free 5
    have x6 := B2V.at (i := 6) rfl
    have z6 := B1V.at (i := 6) rfl
    have f6 := B1V.free 6
    go_wp2_with fail
    exact bodyPost_ret (v := txv (⟨6, 0, 0, false, 0, (m : Int), (u : Int)⟩ : Txx)) (by simp [results, Tryz.results60, go_sem, z0, z1, z2, z3, z4, z5, z6]) rfl ⟨(⟨6, 0, 0, false, 0, (m : Int), (u : Int)⟩ : Txx), rfl, ⟨(⟨by decide, by decide⟩ : I 6), (⟨by decide, by decide⟩ : I 0), (⟨by decide, by decide⟩ : I 0), (⟨by decide, by decide⟩ : U 0), HM.out, nI (Nat.lt_of_lt_of_le (HL.out.2.2.2.2.2.2.2) (by omega))⟩, sto7_chg HCV.out g1 (⟨6, 0, 0, false, 0, (m : Int), (u : Int)⟩ : Txx) (.inr (by rw [HG1.out]; exact Nat.le_refl _))⟩
  · have h7b : ((d : Int) == 7) = false := by simp; omega
    clear h7
    have B2V := B2
    have B1V := B1
    have HCV := HC
    clear B1 B2 HC
    have x0 := B2V.at (i := 0) rfl
    have z0 := B1V.at (i := 0) rfl
    have f0 := B1V.free 0
    have x1 := B2V.at (i := 1) rfl
    have z1 := B1V.at (i := 1) rfl
    have f1 := B1V.free 1
    have x2 := B2V.at (i := 2) rfl
    have z2 := B1V.at (i := 2) rfl
    have f2 := B1V.free 2
    have x3 := B2V.at (i := 3) rfl
    have z3 := B1V.at (i := 3) rfl
    have f3 := B1V.free 3
    have x4 := B2V.at (i := 4) rfl
    have z4 := B1V.at (i := 4) rfl
    have f4 := B1V.free 4
    have x5 := B2V.at (i := 5) rfl
    have z5 := B1V.at (i := 5) rfl
    have f5 := B1V.free 5
    have x6 := B2V.at (i := 6) rfl
    have z6 := B1V.at (i := 6) rfl
    have f6 := B1V.free 6
    go_wp2_with fail
    exact bodyPost_ret (v := txv (⟨6, 0, 0, false, 0, 0, (c3 : Int)⟩ : Txx)) (by simp [results, Tryz.results60, go_sem, z0, z1, z2, z3, z4, z5, z6]) rfl ⟨(⟨6, 0, 0, false, 0, 0, (c3 : Int)⟩ : Txx), rfl, ⟨(⟨by decide, by decide⟩ : I 6), (⟨by decide, by decide⟩ : I 0), (⟨by decide, by decide⟩ : I 0), (⟨by decide, by decide⟩ : U 0), (⟨by decide, by decide⟩ : U 0), nI (Nat.lt_of_lt_of_le (HL.out.2.2.1) (by omega))⟩, sto7_chg HCV.out g1 (⟨6, 0, 0, false, 0, 0, (c3 : Int)⟩ : Txx) (.inr (by rw [HG1.out]; exact Nat.le_refl _))⟩
set_option maxHeartbeats 4000000 in
theorem tx7 (n m : Int) (hn : U n) (hm : U m) (hk : bits BinOp.and .u64 n 7 = 7) (w : World) :
    Calls Tryz.prog 60 #[.int .u64 n, .int .u64 m] w fun y w' => ∃ t : Txx, y = .returned (txv t) ∧ t.Ok ∧ Chg [] w w' := by
  obtain ⟨a3, ha3, la3⟩ : ∃ f : Nat, bits BinOp.and .u64 (n / 8) 1 = f ∧ f < 2 := low_u64 (n / 8) 1 (by omega)
  obtain ⟨b3, hb3, lb3⟩ : ∃ f : Nat, bits BinOp.and .u64 (n / 8) 3 = f ∧ f < 4 := low_u64 (n / 8) 2 (by omega)
  obtain ⟨c3, hc3, lc3⟩ : ∃ f : Nat, bits BinOp.and .u64 (n / 8) 15 = f ∧ f < 16 := low_u64 (n / 8) 4 (by omega)
  obtain ⟨a4, ha4, la4⟩ : ∃ f : Nat, bits BinOp.and .u64 (n / 16) 7 = f ∧ f < 8 := low_u64 (n / 16) 3 (by omega)
  obtain ⟨a5, ha5, la5⟩ : ∃ f : Nat, bits BinOp.and .u64 (n / 32) 1 = f ∧ f < 2 := low_u64 (n / 32) 1 (by omega)
  obtain ⟨d, hd, ld⟩ : ∃ f : Nat, bits BinOp.and .u64 (n / 4096) 15 = f ∧ f < 16 := low_u64 (n / 4096) 4 (by omega)
  obtain ⟨q, hq, lq⟩ : ∃ f : Nat, bits BinOp.and .u64 m 4095 = f ∧ f < 4096 := low_u64 m 12 (by omega)
  obtain ⟨q2, hq2, lq2⟩ : ∃ f : Nat, bits BinOp.and .u64 m 15 = f ∧ f < 16 := low_u64 m 4 (by omega)
  obtain ⟨u, hu, lu⟩ : ∃ f : Nat, m / 1099511627776 = f ∧ f < 20000000 := ⟨(m / 1099511627776).toNat, by have := hm.1; omega, by have := hm.2; omega⟩
  have wa3 : IntKind.i64.wrap (a3 : Int) = a3 := by simp [IntKind.wrap, IntKind.bits, IntKind.signed]; omega
  have wb3 : IntKind.i64.wrap (b3 : Int) = b3 := by simp [IntKind.wrap, IntKind.bits, IntKind.signed]; omega
  have wc3 : IntKind.i64.wrap (c3 : Int) = c3 := by simp [IntKind.wrap, IntKind.bits, IntKind.signed]; omega
  have wa5 : IntKind.i64.wrap (a5 : Int) = a5 := by simp [IntKind.wrap, IntKind.bits, IntKind.signed]; omega
  have wu : IntKind.i64.wrap (u : Int) = u := by simp [IntKind.wrap, IntKind.bits, IntKind.signed]; omega
  have wk : IntKind.i64.wrap 7 = 7 := by rfl
  have HM := Lib.hid hm
  have HL := Lib.hid (And.intro la3 (And.intro lb3 (And.intro lc3 (And.intro la4 (And.intro la5 (And.intro lq (And.intro lq2 lu)))))))
  clear hn hm la3 lb3 lc3 la4 la5 ld lq lq2 lu
  have B1 : Blk ((w.alloc (.cells #[.int .i64 0, .int .i64 0, .int .i64 0, .bool false, .int .u64 0, .int .u64 0, .int .i64 0] 49)).alloc (.cells #[.int .i64 7, .int .i64 0, .int .i64 0, .bool false, .int .u64 0, .int .u64 0, .int .i64 0] 49)) w.heap.size 49 [.int .i64 0, .int .i64 0, .int .i64 0, .bool false, .int .u64 0, .int .u64 0, .int .i64 0] := (Blk.new w _ _).alloc _
  have B2 : Blk ((w.alloc (.cells #[.int .i64 0, .int .i64 0, .int .i64 0, .bool false, .int .u64 0, .int .u64 0, .int .i64 0] 49)).alloc (.cells #[.int .i64 7, .int .i64 0, .int .i64 0, .bool false, .int .u64 0, .int .u64 0, .int .i64 0] 49)) (w.heap.size + 1) 49 [.int .i64 7, .int .i64 0, .int .i64 0, .bool false, .int .u64 0, .int .u64 0, .int .i64 0] := by
    have := Blk.new (w.alloc (.cells #[.int .i64 0, .int .i64 0, .int .i64 0, .bool false, .int .u64 0, .int .u64 0, .int .i64 0] 49)) [.int .i64 7, .int .i64 0, .int .i64 0, .bool false, .int .u64 0, .int .u64 0, .int .i64 0] 49
    rwa [World.size_alloc] at this
  have HC : Hid (Chg [] w ((w.alloc (.cells #[.int .i64 0, .int .i64 0, .int .i64 0, .bool false, .int .u64 0, .int .u64 0, .int .i64 0] 49)).alloc (.cells #[.int .i64 7, .int .i64 0, .int .i64 0, .bool false, .int .u64 0, .int .u64 0, .int .i64 0] 49))) := ((Chg.refl _ _).alloc _).alloc _
  go_enter Tryz.func60, Tryz.ntmps60
  go_upto_region 2 with (fail)
  have hne : w.heap.size + 1 ≠ w.heap.size := by omega
  have hlo : w.heap.size ≤ w.heap.size + 1 := by omega
  have HLO : Hid (w.heap.size ≤ w.heap.size) := Nat.le_refl _
  have HW : Hid (w.heap.size = w.heap.size) := rfl
  obtain ⟨g1, hg1⟩ : ∃ g, w.heap.size = g := ⟨_, rfl⟩
  have HG1 := Lib.hid hg1
  rw [hg1] at B1 B2 hne hlo
  simp only [hg1]
  obtain ⟨g2, hg2⟩ : ∃ g, g1 + 1 = g := ⟨_, rfl⟩
  rw [hg2] at B2 hne hlo
  simp only [hg2]
  clear hg1 hg2 HLO HW
  have HLO := Lib.hid hlo
  have HNE := Lib.hid hne
  clear hlo
  generalize (w.alloc _).alloc _ = W at *
  have x0 := B2.at (i := 0) rfl
  by_cases h7 : d = 7
  · subst h7
    have y5 := B2.at (i := 5) rfl
    have f5 := B2.free 5
    have y6 := B2.at (i := 6) rfl
    have f6 := B2.free 6
    go_upto_region 15 with (fail)
    have cV : Chg [g2] W ((W.setCell ⟨g2, 5, none⟩ (.int .u64 m)).setCell ⟨g2, 6, none⟩ (.int .i64 u)) := (((Chg.refl [g2] W).setCell ⟨g2, 5, none⟩ (.int .u64 m) (.inl (by simp))).setCell ⟨g2, 6, none⟩ (.int .i64 u) (.inl (by simp)))
    have B2V : Blk ((W.setCell ⟨g2, 5, none⟩ (.int .u64 m)).setCell ⟨g2, 6, none⟩ (.int .i64 u)) g2 49 [.int .i64 7, .int .i64 0, .int .i64 0, .bool false, .int .u64 0, .int .u64 m, .int .i64 u] := ((B2.set 5 (.int .u64 m)).set 6 (.int .i64 u))
    have B1V := B1.chg cV (by simp; exact fun e => HNE.out e.symm)
    have HCV := Lib.hid (HC.out.trans' cV (fun z hz => .inr (by simp at hz; rw [hz, HG1.out]; exact HLO.out)))
    clear B1 B2 cV HC y5 f5 y6 f6
    generalize ((W.setCell ⟨g2, 5, none⟩ (.int .u64 m)).setCell ⟨g2, 6, none⟩ (.int .i64 u)) = V at *
    have x0 := B2V.at (i := 0) rfl
    have z0 := B1V.at (i := 0) rfl
    have f0 := B1V.free 0
    have x1 := B2V.at (i := 1) rfl
    have z1 := B1V.at (i := 1) rfl
    have f1 := B1V.free 1
    have x2 := B2V.at (i := 2) rfl
    have z2 := B1V.at (i := 2) rfl
    have f2 := B1V.free 2
    have x3 := B2V.at (i := 3) rfl
    have z3 := B1V.at (i := 3) rfl
    have f3 := B1V.free 3
    have x4 := B2V.at (i := 4) rfl
    have z4 := B1V.at (i := 4) rfl
    have f4 := B1V.free 4
    have x5 := B2V.at (i := 5) rfl
    have z5 := B1V.at (i := 5) rfl
    have f5 := B1V.free 5
    have x6 := B2V.at (i := 6) rfl
    have z6 := B1V.at (i := 6) rfl
    have f6 := B1V.free 6
    go_wp2_with fail
    exact bodyPost_ret (v := txv (⟨7, 0, 0, false, 0, (m : Int), (u : Int)⟩ : Txx)) (by simp [results, Tryz.results60, go_sem, z0, z1, z2, z3, z4, z5, z6]) rfl ⟨(⟨7, 0, 0, false, 0, (m : Int), (u : Int)⟩ : Txx), rfl, ⟨(⟨by decide, by decide⟩ : I 7), (⟨by decide, by decide⟩ : I 0), (⟨by decide, by decide⟩ : I 0), (⟨by decide, by decide⟩ : U 0), HM.out, nI (Nat.lt_of_lt_of_le (HL.out.2.2.2.2.2.2.2) (by omega))⟩, sto7_chg HCV.out g1 (⟨7, 0, 0, false, 0, (m : Int), (u : Int)⟩ : Txx) (.inr (by rw [HG1.out]; exact Nat.le_refl _))⟩
  · have h7b : ((d : Int) == 7) = false := by simp; omega
    clear h7
    have B2V := B2
    have B1V := B1
    have HCV := HC
    clear B1 B2 HC
    have x0 := B2V.at (i := 0) rfl
    have z0 := B1V.at (i := 0) rfl
    have f0 := B1V.free 0
    have x1 := B2V.at (i := 1) rfl
    have z1 := B1V.at (i := 1) rfl
    have f1 := B1V.free 1
    have x2 := B2V.at (i := 2) rfl
    have z2 := B1V.at (i := 2) rfl
    have f2 := B1V.free 2
    have x3 := B2V.at (i := 3) rfl
    have z3 := B1V.at (i := 3) rfl
    have f3 := B1V.free 3
    have x4 := B2V.at (i := 4) rfl
    have z4 := B1V.at (i := 4) rfl
    have f4 := B1V.free 4
    have x5 := B2V.at (i := 5) rfl
    have z5 := B1V.at (i := 5) rfl
    have f5 := B1V.free 5
    have x6 := B2V.at (i := 6) rfl
    have z6 := B1V.at (i := 6) rfl
    have f6 := B1V.free 6
    go_wp2_with fail
    exact bodyPost_ret (v := txv (⟨7, 0, 0, false, 0, 0, 0⟩ : Txx)) (by simp [results, Tryz.results60, go_sem, z0, z1, z2, z3, z4, z5, z6]) rfl ⟨(⟨7, 0, 0, false, 0, 0, 0⟩ : Txx), rfl, ⟨(⟨by decide, by decide⟩ : I 7), (⟨by decide, by decide⟩ : I 0), (⟨by decide, by decide⟩ : I 0), (⟨by decide, by decide⟩ : U 0), (⟨by decide, by decide⟩ : U 0), (⟨by decide, by decide⟩ : I 0)⟩, sto7_chg HCV.out g1 (⟨7, 0, 0, false, 0, 0, 0⟩ : Txx) (.inr (by rw [HG1.out]; exact Nat.le_refl _))⟩
theorem tx_any (n m : Int) (hn : U n) (hm : U m) (w : World) :
    Calls Tryz.prog 60 #[.int .u64 n, .int .u64 m] w fun y w' => ∃ t : Txx, y = .returned (txv t) ∧ t.Ok ∧ Chg [] w w' := by
  obtain ⟨f, hf, lf⟩ := and7_u64 n
  rcases (by omega : f = 0 ∨ f = 1 ∨ f = 2 ∨ f = 3 ∨ f = 4 ∨ f = 5 ∨ f = 6 ∨ f = 7) with rfl | rfl | rfl | rfl | rfl | rfl | rfl | rfl
  · exact tx0 n m hn hm hf w
  · exact tx1 n m hn hm hf w
  · exact tx2 n m hn hm hf w
  · exact tx3 n m hn hm hf w
  · exact tx4 n m hn hm hf w
  · exact tx5 n m hn hm hf w
  · exact tx6 n m hn hm hf w
  · exact tx7 n m hn hm hf w
end Go.Proofs.YteabcpmpcbjicaaGreat
