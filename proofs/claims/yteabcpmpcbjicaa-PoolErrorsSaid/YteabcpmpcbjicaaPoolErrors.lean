
import Derived.Test.YteabcpmpcbjicaaAwake14
import Derived.Test.YteabcpmpcbjicaaShell
import Derived.Deep.CutBlock
import Derived.Great.BuildSlice
namespace Go.Proofs.Yteabcpmpcbjicaa
set_option linter.unusedVariables false
set_option maxRecDepth 100000
open Go Go.Proofs Go.RowKit Go.Maps
attribute [local go_sem ↓] Go.wp_at_zero Go.wp_at_succ

theorem info_perr : (Try.prog.info? 40).map (fun i => (i.zero, i.size, i.bytes)) = some (some (.agg #[.int .i64 0, .int .u64 0, .int .u64 0, .bool false, .int .i64 0]), 5, 40) := by kernel_rfl
theorem tmod12x (a : Int) : (bits BinOp.and IntKind.i64 a 255).tmod 12 = 0 ∨ (bits BinOp.and IntKind.i64 a 255).tmod 12 = 1 ∨ (bits BinOp.and IntKind.i64 a 255).tmod 12 = 2 ∨ (bits BinOp.and IntKind.i64 a 255).tmod 12 = 3 ∨ (bits BinOp.and IntKind.i64 a 255).tmod 12 = 4 ∨ (bits BinOp.and IntKind.i64 a 255).tmod 12 = 5 ∨ (bits BinOp.and IntKind.i64 a 255).tmod 12 = 6 ∨ (bits BinOp.and IntKind.i64 a 255).tmod 12 = 7 ∨ (bits BinOp.and IntKind.i64 a 255).tmod 12 = 8 ∨ (bits BinOp.and IntKind.i64 a 255).tmod 12 = 9 ∨ (bits BinOp.and IntKind.i64 a 255).tmod 12 = 10 ∨ (bits BinOp.and IntKind.i64 a 255).tmod 12 = 11 := by
  have h0 : 0 ≤ bits BinOp.and IntKind.i64 a 255 := and255_nonneg a
  have h1 := Int.tmod_nonneg 12 h0
  have h2 := Int.tmod_lt_of_pos (bits BinOp.and IntKind.i64 a 255) (show (0 : Int) < 12 by omega)
  omega
def q0 : Env := ⟨0, 2, 400, 1⟩
/-- An envelope by hand, with what Add tells of it. -/
structure PRow (c n q : Int) (tu : Bool) (er : Int) : Prop where
  c0 : 0 ≤ c ∧ c ≤ 999
  hn : U n
  hq : U q
  law : ∀ b, b = !tu → ∃ L', pAddV 2 (LS1 2) 5 [q0] b ⟨c, n, q, if tu = true then 3 else 2⟩ = (er, L') ∧ (L'.length : Int) = (if er = 0 then 2 else 1)
  tu : tu = true → ∀ s1 s2, sgnd (mkW (mkW W0 q0 s1) ⟨c, n, q, 2⟩ s2) ⟨c, n, q, 3⟩ = false
def PRows : Prop := PRow 0 0 600 false 0 ∧ PRow 0 0 601 false 4 ∧ PRow 0 0 0 false 4 ∧ PRow 0 2 1 false 10 ∧ PRow 0 15 1 false 0 ∧ PRow 0 16 1 false 9 ∧ PRow 0 18446744073709551615 1 false 9 ∧ PRow 1 0 1000 false 0 ∧ PRow 1 0 1001 false 4 ∧ PRow 2 0 1 false 4 ∧ PRow 0 0 5 true 8 ∧ PRow 0 1 18446744073709551615 false 4
theorem prows : PRows := ⟨⟨⟨by decide, by decide⟩, ⟨by decide, by decide⟩, ⟨by decide, by decide⟩, fun b hb => by subst hb; exact ⟨_, rfl, by kernel_rfl⟩, fun h => by cases h⟩, ⟨⟨by decide, by decide⟩, ⟨by decide, by decide⟩, ⟨by decide, by decide⟩, fun b hb => by subst hb; exact ⟨_, rfl, by kernel_rfl⟩, fun h => by cases h⟩, ⟨⟨by decide, by decide⟩, ⟨by decide, by decide⟩, ⟨by decide, by decide⟩, fun b hb => by subst hb; exact ⟨_, rfl, by kernel_rfl⟩, fun h => by cases h⟩, ⟨⟨by decide, by decide⟩, ⟨by decide, by decide⟩, ⟨by decide, by decide⟩, fun b hb => by subst hb; exact ⟨_, rfl, by kernel_rfl⟩, fun h => by cases h⟩, ⟨⟨by decide, by decide⟩, ⟨by decide, by decide⟩, ⟨by decide, by decide⟩, fun b hb => by subst hb; exact ⟨_, rfl, by kernel_rfl⟩, fun h => by cases h⟩, ⟨⟨by decide, by decide⟩, ⟨by decide, by decide⟩, ⟨by decide, by decide⟩, fun b hb => by subst hb; exact ⟨_, rfl, by kernel_rfl⟩, fun h => by cases h⟩, ⟨⟨by decide, by decide⟩, ⟨by decide, by decide⟩, ⟨by decide, by decide⟩, fun b hb => by subst hb; exact ⟨_, rfl, by kernel_rfl⟩, fun h => by cases h⟩, ⟨⟨by decide, by decide⟩, ⟨by decide, by decide⟩, ⟨by decide, by decide⟩, fun b hb => by subst hb; exact ⟨_, rfl, by kernel_rfl⟩, fun h => by cases h⟩, ⟨⟨by decide, by decide⟩, ⟨by decide, by decide⟩, ⟨by decide, by decide⟩, fun b hb => by subst hb; exact ⟨_, rfl, by kernel_rfl⟩, fun h => by cases h⟩, ⟨⟨by decide, by decide⟩, ⟨by decide, by decide⟩, ⟨by decide, by decide⟩, fun b hb => by subst hb; exact ⟨_, rfl, by kernel_rfl⟩, fun h => by cases h⟩, ⟨⟨by decide, by decide⟩, ⟨by decide, by decide⟩, ⟨by decide, by decide⟩, fun b hb => by subst hb; exact ⟨_, rfl, by kernel_rfl⟩, fun _ s1 s2 => by kernel_rfl⟩, ⟨⟨by decide, by decide⟩, ⟨by decide, by decide⟩, ⟨by decide, by decide⟩, fun b hb => by subst hb; exact ⟨_, rfl, by kernel_rfl⟩, fun h => by cases h⟩⟩
theorem q0ok : q0.Ok := ⟨⟨by decide, by decide⟩, ⟨by decide, by decide⟩, ⟨by decide, by decide⟩, ⟨by decide, by decide⟩⟩
set_option maxHeartbeats 16000000 in
theorem poolerr_walk (a : Int) (w : World) :
    Calls Try.prog 4 #[.int .i64 a] w fun e w' => e = .returned (.bool true) ∧ Below w.heap.size w w' := by
  have hk := Lib.hid (tmod12x a)
  have HPR := Lib.hid prows
  go_enter Try.func4, Try.ntmps4
  go_wp2_with fail
  refine (enNew 1 (by omega) (by omega) w).mono ?_
  rintro y w1 ⟨g, FE, rfl, h1⟩
  go_wp2_with fail
  refine (ledNew 2 (by omega) (by omega) w1).mono ?_
  rintro y w2 ⟨l, FL, rfl, h2⟩
  go_wp2_with fail
  refine (pNew w2 g 5 (by omega) (by omega)).mono ?_
  rintro y w3 ⟨rfl, h3, c3⟩
  have HX : Hid (PX w w3 g l w2.heap.size 2 FE FL [w2.heap.size] W0 (LS1 2) 5 [] 0 0) := PX.start h1 h2 h3 c3
  clear h1 h2 h3 c3
  generalize w2.heap.size = p at *
  go_wp2_with fail
  refine (enMake HX.out.e (by omega) 0 2 400 (by omega) (by omega) ⟨by decide, by decide⟩ ⟨by decide, by decide⟩ q0 rfl).mono ?_
  rintro y v1 ⟨rfl, FE1, s1, hE, hC, hG⟩
  have HX1 := Lib.hid (HX.out.env hE hC hG)
  clear HX hE hC hG
  go_wp2_with fail
  refine (addK HX1.out (by omega) (by simp) (by omega) q0 q0ok rfl (by simp) (Known.new _ _ _) 0 [q0] (by kernel_rfl)).mono ?_
  rintro y v2 ⟨rfl, FE2, FP2, hX2, -, -⟩
  have HX2 := Lib.hid hX2
  clear HX1 hX2
  go_upto_region 8 with (fail)
  have HX6 := Lib.hid (HX2.out.to ((Chg.refl [] v2).alloc (.cells #[.int .i64 0, .int .u64 0, .int .u64 600, .bool false, .int .i64 0, .int .i64 0, .int .u64 0, .int .u64 601, .bool false, .int .i64 4, .int .i64 0, .int .u64 0, .int .u64 0, .bool false, .int .i64 4, .int .i64 0, .int .u64 2, .int .u64 1, .bool false, .int .i64 10, .int .i64 0, .int .u64 15, .int .u64 1, .bool false, .int .i64 0, .int .i64 0, .int .u64 16, .int .u64 1, .bool false, .int .i64 9, .int .i64 0, .int .u64 18446744073709551615, .int .u64 1, .bool false, .int .i64 9, .int .i64 1, .int .u64 0, .int .u64 1000, .bool false, .int .i64 0, .int .i64 1, .int .u64 0, .int .u64 1001, .bool false, .int .i64 4, .int .i64 2, .int .u64 0, .int .u64 1, .bool false, .int .i64 4, .int .i64 0, .int .u64 0, .int .u64 5, .bool true, .int .i64 8, .int .i64 0, .int .u64 1, .int .u64 18446744073709551615, .bool false, .int .i64 4] 40)))
  have hbb : Blk (v2.alloc (.cells #[.int .i64 0, .int .u64 0, .int .u64 600, .bool false, .int .i64 0, .int .i64 0, .int .u64 0, .int .u64 601, .bool false, .int .i64 4, .int .i64 0, .int .u64 0, .int .u64 0, .bool false, .int .i64 4, .int .i64 0, .int .u64 2, .int .u64 1, .bool false, .int .i64 10, .int .i64 0, .int .u64 15, .int .u64 1, .bool false, .int .i64 0, .int .i64 0, .int .u64 16, .int .u64 1, .bool false, .int .i64 9, .int .i64 0, .int .u64 18446744073709551615, .int .u64 1, .bool false, .int .i64 9, .int .i64 1, .int .u64 0, .int .u64 1000, .bool false, .int .i64 0, .int .i64 1, .int .u64 0, .int .u64 1001, .bool false, .int .i64 4, .int .i64 2, .int .u64 0, .int .u64 1, .bool false, .int .i64 4, .int .i64 0, .int .u64 0, .int .u64 5, .bool true, .int .i64 8, .int .i64 0, .int .u64 1, .int .u64 18446744073709551615, .bool false, .int .i64 4] 40)) v2.heap.size 40 [.int .i64 0, .int .u64 0, .int .u64 600, .bool false, .int .i64 0, .int .i64 0, .int .u64 0, .int .u64 601, .bool false, .int .i64 4, .int .i64 0, .int .u64 0, .int .u64 0, .bool false, .int .i64 4, .int .i64 0, .int .u64 2, .int .u64 1, .bool false, .int .i64 10, .int .i64 0, .int .u64 15, .int .u64 1, .bool false, .int .i64 0, .int .i64 0, .int .u64 16, .int .u64 1, .bool false, .int .i64 9, .int .i64 0, .int .u64 18446744073709551615, .int .u64 1, .bool false, .int .i64 9, .int .i64 1, .int .u64 0, .int .u64 1000, .bool false, .int .i64 0, .int .i64 1, .int .u64 0, .int .u64 1001, .bool false, .int .i64 4, .int .i64 2, .int .u64 0, .int .u64 1, .bool false, .int .i64 4, .int .i64 0, .int .u64 0, .int .u64 5, .bool true, .int .i64 8, .int .i64 0, .int .u64 1, .int .u64 18446744073709551615, .bool false, .int .i64 4] := Blk.new v2 _ _
  clear HX2
  generalize v2.heap.size = gb at *
  generalize v2.alloc _ = Wl at *
  go_cut [7] from 44 to 51 (fun v wx => ∃ (g8 : Nat) (c n q : Int) (tu : Bool) (er : Int), v = .pointer (some ⟨g8, 0, none⟩) ∧ Blk wx g8 40 [.int .i64 c, .int .u64 n, .int .u64 q, .bool tu, .int .i64 er] ∧ PX w wx g l p 2 FE2 FL FP2 (mkW W0 q0 s1) (LS1 2) 5 [q0] (0 + 3 + 1) 0 ∧ Hid (g8 ∉ FE2 ++ FP2) ∧ PRow c n q tu er)
  case first =>
    rcases hk.out with h | h | h | h | h | h | h | h | h | h | h | h
    · clear hk
      have q0 := hbb.at (i := 0) rfl
      have q1 := hbb.at (i := 1) rfl
      have q2 := hbb.at (i := 2) rfl
      have q3 := hbb.at (i := 3) rfl
      have q4 := hbb.at (i := 4) rfl
      have hb8 : Blk (Wl.alloc (.cells #[.int .i64 0, .int .u64 0, .int .u64 600, .bool false, .int .i64 0] 40)) Wl.heap.size 40 [.int .i64 0, .int .u64 0, .int .u64 600, .bool false, .int .i64 0] := Blk.new Wl _ _
      have h8 := Lib.hid (HX6.out.to ((Chg.refl [] Wl).alloc (.cells #[.int .i64 0, .int .u64 0, .int .u64 600, .bool false, .int .i64 0] 40)))
      have HB8 := Lib.hid hb8
      have hn8 : Hid (Wl.heap.size ∉ FE2 ++ FP2) := fun hm => by
        rcases List.mem_append.1 hm with q | q
        · have := (HX6.out.e.lt _ q).2; omega
        · have := HX6.out.p.lt _ q; omega
      clear hb8 HX6 hbb
      go_wp2_with fail
      go_meet
      exact ⟨Wl.heap.size, 0, 0, 600, false, 0, rfl, HB8.out, h8.out, hn8, HPR.out.1⟩
    · clear hk
      have q0 := hbb.at (i := 5) rfl
      have q1 := hbb.at (i := 6) rfl
      have q2 := hbb.at (i := 7) rfl
      have q3 := hbb.at (i := 8) rfl
      have q4 := hbb.at (i := 9) rfl
      have hb8 : Blk (Wl.alloc (.cells #[.int .i64 0, .int .u64 0, .int .u64 601, .bool false, .int .i64 4] 40)) Wl.heap.size 40 [.int .i64 0, .int .u64 0, .int .u64 601, .bool false, .int .i64 4] := Blk.new Wl _ _
      have h8 := Lib.hid (HX6.out.to ((Chg.refl [] Wl).alloc (.cells #[.int .i64 0, .int .u64 0, .int .u64 601, .bool false, .int .i64 4] 40)))
      have HB8 := Lib.hid hb8
      have hn8 : Hid (Wl.heap.size ∉ FE2 ++ FP2) := fun hm => by
        rcases List.mem_append.1 hm with q | q
        · have := (HX6.out.e.lt _ q).2; omega
        · have := HX6.out.p.lt _ q; omega
      clear hb8 HX6 hbb
      go_wp2_with fail
      go_meet
      exact ⟨Wl.heap.size, 0, 0, 601, false, 4, rfl, HB8.out, h8.out, hn8, HPR.out.2.1⟩
    · clear hk
      have q0 := hbb.at (i := 10) rfl
      have q1 := hbb.at (i := 11) rfl
      have q2 := hbb.at (i := 12) rfl
      have q3 := hbb.at (i := 13) rfl
      have q4 := hbb.at (i := 14) rfl
      have hb8 : Blk (Wl.alloc (.cells #[.int .i64 0, .int .u64 0, .int .u64 0, .bool false, .int .i64 4] 40)) Wl.heap.size 40 [.int .i64 0, .int .u64 0, .int .u64 0, .bool false, .int .i64 4] := Blk.new Wl _ _
      have h8 := Lib.hid (HX6.out.to ((Chg.refl [] Wl).alloc (.cells #[.int .i64 0, .int .u64 0, .int .u64 0, .bool false, .int .i64 4] 40)))
      have HB8 := Lib.hid hb8
      have hn8 : Hid (Wl.heap.size ∉ FE2 ++ FP2) := fun hm => by
        rcases List.mem_append.1 hm with q | q
        · have := (HX6.out.e.lt _ q).2; omega
        · have := HX6.out.p.lt _ q; omega
      clear hb8 HX6 hbb
      go_wp2_with fail
      go_meet
      exact ⟨Wl.heap.size, 0, 0, 0, false, 4, rfl, HB8.out, h8.out, hn8, HPR.out.2.2.1⟩
    · clear hk
      have q0 := hbb.at (i := 15) rfl
      have q1 := hbb.at (i := 16) rfl
      have q2 := hbb.at (i := 17) rfl
      have q3 := hbb.at (i := 18) rfl
      have q4 := hbb.at (i := 19) rfl
      have hb8 : Blk (Wl.alloc (.cells #[.int .i64 0, .int .u64 2, .int .u64 1, .bool false, .int .i64 10] 40)) Wl.heap.size 40 [.int .i64 0, .int .u64 2, .int .u64 1, .bool false, .int .i64 10] := Blk.new Wl _ _
      have h8 := Lib.hid (HX6.out.to ((Chg.refl [] Wl).alloc (.cells #[.int .i64 0, .int .u64 2, .int .u64 1, .bool false, .int .i64 10] 40)))
      have HB8 := Lib.hid hb8
      have hn8 : Hid (Wl.heap.size ∉ FE2 ++ FP2) := fun hm => by
        rcases List.mem_append.1 hm with q | q
        · have := (HX6.out.e.lt _ q).2; omega
        · have := HX6.out.p.lt _ q; omega
      clear hb8 HX6 hbb
      go_wp2_with fail
      go_meet
      exact ⟨Wl.heap.size, 0, 2, 1, false, 10, rfl, HB8.out, h8.out, hn8, HPR.out.2.2.2.1⟩
    · clear hk
      have q0 := hbb.at (i := 20) rfl
      have q1 := hbb.at (i := 21) rfl
      have q2 := hbb.at (i := 22) rfl
      have q3 := hbb.at (i := 23) rfl
      have q4 := hbb.at (i := 24) rfl
      have hb8 : Blk (Wl.alloc (.cells #[.int .i64 0, .int .u64 15, .int .u64 1, .bool false, .int .i64 0] 40)) Wl.heap.size 40 [.int .i64 0, .int .u64 15, .int .u64 1, .bool false, .int .i64 0] := Blk.new Wl _ _
      have h8 := Lib.hid (HX6.out.to ((Chg.refl [] Wl).alloc (.cells #[.int .i64 0, .int .u64 15, .int .u64 1, .bool false, .int .i64 0] 40)))
      have HB8 := Lib.hid hb8
      have hn8 : Hid (Wl.heap.size ∉ FE2 ++ FP2) := fun hm => by
        rcases List.mem_append.1 hm with q | q
        · have := (HX6.out.e.lt _ q).2; omega
        · have := HX6.out.p.lt _ q; omega
      clear hb8 HX6 hbb
      go_wp2_with fail
      go_meet
      exact ⟨Wl.heap.size, 0, 15, 1, false, 0, rfl, HB8.out, h8.out, hn8, HPR.out.2.2.2.2.1⟩
    · clear hk
      have q0 := hbb.at (i := 25) rfl
      have q1 := hbb.at (i := 26) rfl
      have q2 := hbb.at (i := 27) rfl
      have q3 := hbb.at (i := 28) rfl
      have q4 := hbb.at (i := 29) rfl
      have hb8 : Blk (Wl.alloc (.cells #[.int .i64 0, .int .u64 16, .int .u64 1, .bool false, .int .i64 9] 40)) Wl.heap.size 40 [.int .i64 0, .int .u64 16, .int .u64 1, .bool false, .int .i64 9] := Blk.new Wl _ _
      have h8 := Lib.hid (HX6.out.to ((Chg.refl [] Wl).alloc (.cells #[.int .i64 0, .int .u64 16, .int .u64 1, .bool false, .int .i64 9] 40)))
      have HB8 := Lib.hid hb8
      have hn8 : Hid (Wl.heap.size ∉ FE2 ++ FP2) := fun hm => by
        rcases List.mem_append.1 hm with q | q
        · have := (HX6.out.e.lt _ q).2; omega
        · have := HX6.out.p.lt _ q; omega
      clear hb8 HX6 hbb
      go_wp2_with fail
      go_meet
      exact ⟨Wl.heap.size, 0, 16, 1, false, 9, rfl, HB8.out, h8.out, hn8, HPR.out.2.2.2.2.2.1⟩
    · clear hk
      have q0 := hbb.at (i := 30) rfl
      have q1 := hbb.at (i := 31) rfl
      have q2 := hbb.at (i := 32) rfl
      have q3 := hbb.at (i := 33) rfl
      have q4 := hbb.at (i := 34) rfl
      have hb8 : Blk (Wl.alloc (.cells #[.int .i64 0, .int .u64 18446744073709551615, .int .u64 1, .bool false, .int .i64 9] 40)) Wl.heap.size 40 [.int .i64 0, .int .u64 18446744073709551615, .int .u64 1, .bool false, .int .i64 9] := Blk.new Wl _ _
      have h8 := Lib.hid (HX6.out.to ((Chg.refl [] Wl).alloc (.cells #[.int .i64 0, .int .u64 18446744073709551615, .int .u64 1, .bool false, .int .i64 9] 40)))
      have HB8 := Lib.hid hb8
      have hn8 : Hid (Wl.heap.size ∉ FE2 ++ FP2) := fun hm => by
        rcases List.mem_append.1 hm with q | q
        · have := (HX6.out.e.lt _ q).2; omega
        · have := HX6.out.p.lt _ q; omega
      clear hb8 HX6 hbb
      go_wp2_with fail
      go_meet
      exact ⟨Wl.heap.size, 0, 18446744073709551615, 1, false, 9, rfl, HB8.out, h8.out, hn8, HPR.out.2.2.2.2.2.2.1⟩
    · clear hk
      have q0 := hbb.at (i := 35) rfl
      have q1 := hbb.at (i := 36) rfl
      have q2 := hbb.at (i := 37) rfl
      have q3 := hbb.at (i := 38) rfl
      have q4 := hbb.at (i := 39) rfl
      have hb8 : Blk (Wl.alloc (.cells #[.int .i64 1, .int .u64 0, .int .u64 1000, .bool false, .int .i64 0] 40)) Wl.heap.size 40 [.int .i64 1, .int .u64 0, .int .u64 1000, .bool false, .int .i64 0] := Blk.new Wl _ _
      have h8 := Lib.hid (HX6.out.to ((Chg.refl [] Wl).alloc (.cells #[.int .i64 1, .int .u64 0, .int .u64 1000, .bool false, .int .i64 0] 40)))
      have HB8 := Lib.hid hb8
      have hn8 : Hid (Wl.heap.size ∉ FE2 ++ FP2) := fun hm => by
        rcases List.mem_append.1 hm with q | q
        · have := (HX6.out.e.lt _ q).2; omega
        · have := HX6.out.p.lt _ q; omega
      clear hb8 HX6 hbb
      go_wp2_with fail
      go_meet
      exact ⟨Wl.heap.size, 1, 0, 1000, false, 0, rfl, HB8.out, h8.out, hn8, HPR.out.2.2.2.2.2.2.2.1⟩
    · clear hk
      have q0 := hbb.at (i := 40) rfl
      have q1 := hbb.at (i := 41) rfl
      have q2 := hbb.at (i := 42) rfl
      have q3 := hbb.at (i := 43) rfl
      have q4 := hbb.at (i := 44) rfl
      have hb8 : Blk (Wl.alloc (.cells #[.int .i64 1, .int .u64 0, .int .u64 1001, .bool false, .int .i64 4] 40)) Wl.heap.size 40 [.int .i64 1, .int .u64 0, .int .u64 1001, .bool false, .int .i64 4] := Blk.new Wl _ _
      have h8 := Lib.hid (HX6.out.to ((Chg.refl [] Wl).alloc (.cells #[.int .i64 1, .int .u64 0, .int .u64 1001, .bool false, .int .i64 4] 40)))
      have HB8 := Lib.hid hb8
      have hn8 : Hid (Wl.heap.size ∉ FE2 ++ FP2) := fun hm => by
        rcases List.mem_append.1 hm with q | q
        · have := (HX6.out.e.lt _ q).2; omega
        · have := HX6.out.p.lt _ q; omega
      clear hb8 HX6 hbb
      go_wp2_with fail
      go_meet
      exact ⟨Wl.heap.size, 1, 0, 1001, false, 4, rfl, HB8.out, h8.out, hn8, HPR.out.2.2.2.2.2.2.2.2.1⟩
    · clear hk
      have q0 := hbb.at (i := 45) rfl
      have q1 := hbb.at (i := 46) rfl
      have q2 := hbb.at (i := 47) rfl
      have q3 := hbb.at (i := 48) rfl
      have q4 := hbb.at (i := 49) rfl
      have hb8 : Blk (Wl.alloc (.cells #[.int .i64 2, .int .u64 0, .int .u64 1, .bool false, .int .i64 4] 40)) Wl.heap.size 40 [.int .i64 2, .int .u64 0, .int .u64 1, .bool false, .int .i64 4] := Blk.new Wl _ _
      have h8 := Lib.hid (HX6.out.to ((Chg.refl [] Wl).alloc (.cells #[.int .i64 2, .int .u64 0, .int .u64 1, .bool false, .int .i64 4] 40)))
      have HB8 := Lib.hid hb8
      have hn8 : Hid (Wl.heap.size ∉ FE2 ++ FP2) := fun hm => by
        rcases List.mem_append.1 hm with q | q
        · have := (HX6.out.e.lt _ q).2; omega
        · have := HX6.out.p.lt _ q; omega
      clear hb8 HX6 hbb
      go_wp2_with fail
      go_meet
      exact ⟨Wl.heap.size, 2, 0, 1, false, 4, rfl, HB8.out, h8.out, hn8, HPR.out.2.2.2.2.2.2.2.2.2.1⟩
    · clear hk
      have q0 := hbb.at (i := 50) rfl
      have q1 := hbb.at (i := 51) rfl
      have q2 := hbb.at (i := 52) rfl
      have q3 := hbb.at (i := 53) rfl
      have q4 := hbb.at (i := 54) rfl
      have hb8 : Blk (Wl.alloc (.cells #[.int .i64 0, .int .u64 0, .int .u64 5, .bool true, .int .i64 8] 40)) Wl.heap.size 40 [.int .i64 0, .int .u64 0, .int .u64 5, .bool true, .int .i64 8] := Blk.new Wl _ _
      have h8 := Lib.hid (HX6.out.to ((Chg.refl [] Wl).alloc (.cells #[.int .i64 0, .int .u64 0, .int .u64 5, .bool true, .int .i64 8] 40)))
      have HB8 := Lib.hid hb8
      have hn8 : Hid (Wl.heap.size ∉ FE2 ++ FP2) := fun hm => by
        rcases List.mem_append.1 hm with q | q
        · have := (HX6.out.e.lt _ q).2; omega
        · have := HX6.out.p.lt _ q; omega
      clear hb8 HX6 hbb
      go_wp2_with fail
      go_meet
      exact ⟨Wl.heap.size, 0, 0, 5, true, 8, rfl, HB8.out, h8.out, hn8, HPR.out.2.2.2.2.2.2.2.2.2.2.1⟩
    · clear hk
      have q0 := hbb.at (i := 55) rfl
      have q1 := hbb.at (i := 56) rfl
      have q2 := hbb.at (i := 57) rfl
      have q3 := hbb.at (i := 58) rfl
      have q4 := hbb.at (i := 59) rfl
      have hb8 : Blk (Wl.alloc (.cells #[.int .i64 0, .int .u64 1, .int .u64 18446744073709551615, .bool false, .int .i64 4] 40)) Wl.heap.size 40 [.int .i64 0, .int .u64 1, .int .u64 18446744073709551615, .bool false, .int .i64 4] := Blk.new Wl _ _
      have h8 := Lib.hid (HX6.out.to ((Chg.refl [] Wl).alloc (.cells #[.int .i64 0, .int .u64 1, .int .u64 18446744073709551615, .bool false, .int .i64 4] 40)))
      have HB8 := Lib.hid hb8
      have hn8 : Hid (Wl.heap.size ∉ FE2 ++ FP2) := fun hm => by
        rcases List.mem_append.1 hm with q | q
        · have := (HX6.out.e.lt _ q).2; omega
        · have := HX6.out.p.lt _ q; omega
      clear hb8 HX6 hbb
      go_wp2_with fail
      go_meet
      exact ⟨Wl.heap.size, 0, 1, 18446744073709551615, false, 4, rfl, HB8.out, h8.out, hn8, HPR.out.2.2.2.2.2.2.2.2.2.2.2⟩
  case rest =>
    clear HX6 hbb hk HPR
    obtain ⟨g8, c, n, q, tu, er, rfl, hb, hX, hg8, hrow⟩ := hcut
    have HX := Lib.hid hX
    have HB := Lib.hid hb
    have HROW := Lib.hid hrow
    have z0 := hb.at (i := 0) rfl
    have z1 := hb.at (i := 1) rfl
    have z2 := hb.at (i := 2) rfl
    clear hX hb hrow
    go_wp2_with fail
    refine (enMake HX.out.e (by omega) c n q HROW.out.c0.1 HROW.out.c0.2 HROW.out.hn HROW.out.hq ⟨c, n, q, 2⟩ rfl).mono ?_
    rintro y v3 ⟨rfl, FE3, s2, hE, hC, hG⟩
    have HX3 := Lib.hid (HX.out.env hE hC hG)
    have HB3 := Lib.hid (HB.out.chg hC (fun hm => hg8.out (by simp [hm])))
    have HG8 : Hid (g8 ∉ FE3 ++ FP2) := fun hm => by
      have hlt := HB.out.lt
      rcases List.mem_append.1 hm with q | q
      · rcases hG g8 q with q2 | q2
        · exact hg8.out (by simp [q2])
        · omega
      · exact hg8.out (by simp [q])
    clear HX HB hE hC hG z0 z1 z2
    have hbe : Blk (v3.alloc (.cells #[.int .i64 c, .int .u64 n, .int .u64 q, .int .i64 2] 32)) v3.heap.size 32 [.int .i64 c, .int .u64 n, .int .u64 q, .int .i64 2] := Blk.new v3 _ _
    have cA : Chg [] v3 (v3.alloc (.cells #[.int .i64 c, .int .u64 n, .int .u64 q, .int .i64 2] 32)) := (Chg.refl _ _).alloc _
    have HX4 := Lib.hid (HX3.out.to cA)
    have HB4 := Lib.hid (HB3.out.chg cA (by simp))
    have hnE : ∀ z, z ∈ FE3 ∨ z ∈ FL ∨ z ∈ FP2 → v3.heap.size ≠ z := fun z hz e => by
      rcases hz with q | q | q
      · have := (HX3.out.e.lt z q).2; omega
      · have := (HX3.out.l.lt z q).2; omega
      · have := HX3.out.p.lt z q; omega
    have hn8 : g8 ≠ v3.heap.size := by have := HB3.out.lt; omega
    have hw3 : w.heap.size ≤ v3.heap.size := HX3.out.e.c.size
    have HNE := Lib.hid hnE
    clear HX3 HB3 cA hnE
    go_upto_region 10 with (fail)
    generalize v3.heap.size = ge at *
    generalize v3.alloc _ = W4 at *
    have z3 := HB4.out.at (i := 3) rfl
    have okE : ∀ k : Int, k = 2 ∨ k = 3 → (⟨c, n, q, k⟩ : Env).Ok := fun k hk => ⟨by have := HROW.out.c0; constructor <;> dsimp only <;> omega, HROW.out.hn, HROW.out.hq, by rcases hk with rfl | rfl <;> constructor <;> dsimp only <;> omega⟩
    have inE : ∀ k : Int, inR ⟨c, n, q, k⟩ = true := fun k => by unfold inR; have := HROW.out.c0; simp; omega
    have okL : ∀ x ∈ [q0], x.Ok := by intro x hx; simp at hx; subst hx; exact q0ok
    have HADD : Hid (∀ (k : Int) (wx : World), k = (if tu = true then 3 else 2) → PX w wx g l p 2 FE3 FL FP2 (mkW (mkW W0 q0 s1) ⟨c, n, q, 2⟩ s2) (LS1 2) 5 [q0] (0 + 3 + 1 + 3) 0 → Calls Try.prog 19 #[.pointer (some ⟨p, 0, none⟩), nv ⟨c, n, q, k⟩, .pointer (some ⟨l, 0, none⟩)] wx fun y w' => y = .returned (.int .i64 er) ∧ ∃ FE' FP' W' L' t', PX w w' g l p 2 FE' FL FP' W' (LS1 2) 5 L' t' 0 ∧ (L'.length : Int) = (if er = 0 then 2 else 1) ∧ Chg (FE3 ++ FP2) wx w') := by
      intro k wx hk hX
      obtain ⟨L', e1, e2⟩ := HROW.out.law (!tu) rfl
      by_cases htu : tu = true
      · rw [if_pos htu] at hk e1
        subst hk
        refine (pAdd hX (by omega) (by simp) (by omega) ⟨c, n, q, 3⟩ (okE 3 (.inr rfl)) (inE 3) okL).mono ?_
        rw [HROW.out.tu htu s1 s2]
        rw [htu] at e1
        rw [show (!true) = false from rfl] at e1
        rw [e1]
        rintro y w' ⟨rfl, FE', FP', k1, k2, k3⟩
        exact ⟨rfl, FE', FP', _, _, _, k1, e2, k2⟩
      · rw [if_neg htu] at hk e1
        subst hk
        have htf : tu = false := by simpa using htu
        rw [htf] at e1
        refine (addK hX (by omega) (by simp) (by omega) ⟨c, n, q, 2⟩ (okE 2 (.inl rfl)) (inE 2) okL (Known.new _ _ _) er L' e1).mono ?_
        rintro y w' ⟨rfl, FE', FP', k1, k2, k3⟩
        exact ⟨rfl, FE', FP', _, _, _, k1, e2, k2⟩
    clear okE inE okL HROW
    have HLAST : Hid (∀ (W5 : World) (L' : List Env) (FE' FP' : List Nat) (W' : WS) (t' : Nat), PX w W5 g l p 2 FE' FL FP' W' (LS1 2) 5 L' t' 0 → True) := fun _ _ _ _ _ _ _ => trivial
    clear HLAST
    cases tu with
    | false =>
      have y0 := hbe.at (i := 0) rfl
      have y1 := hbe.at (i := 1) rfl
      have y2 := hbe.at (i := 2) rfl
      have y3 := hbe.at (i := 3) rfl
      go_wp2_with fail
      refine (HADD.out 2 W4 (by rfl) HX4.out).mono ?_
      rintro y v5 ⟨rfl, FE5, FP5, W5, L5, t5, hX5, hl5, c5⟩
      have HB5 := Lib.hid (HB4.out.chg c5 HG8.out)
      have HX5 := Lib.hid hX5
      clear hX5 c5 HX4 HB4 HADD z3 y0 y1 y2 y3 hbe
      have z4 := HB5.out.at (i := 4) rfl
      by_cases he0 : er = 0
      · subst he0
        have hl5 : (L5.length : Int) = 2 := by simpa using hl5
        go_wp2_with fail
        refine (pLen HX5.out.p 2 hl5).mono ?_
        rintro y uL ⟨rfl, rfl⟩
        go_wp2_with fail
        refine (awake14 _).mono ?_
        rintro y u9 ⟨rfl, cA⟩
        go_wp2_with fail
        go_ret
        exact ⟨rfl, (HX5.out.e.c.trans cA).below⟩
      · have b0 : (er == 0) = false := by simp [he0]
        have hl5 : (L5.length : Int) = 1 := by rw [if_neg he0] at hl5; exact hl5
        have HE0 := Lib.hid he0
        have bb : (er == er) = true := by simp
        clear he0
        go_wp2_with fail
        refine (pLen HX5.out.p 1 hl5).mono ?_
        rintro y uL ⟨rfl, rfl⟩
        go_wp2_with fail
        refine (awake14 _).mono ?_
        rintro y u9 ⟨rfl, cA⟩
        go_wp2_with fail
        go_ret
        exact ⟨rfl, (HX5.out.e.c.trans cA).below⟩
    | true =>
      have y3 := hbe.at (i := 3) rfl
      have fr := hbe.free 3
      have wq : IntKind.i64.wrap (2 + 1) = 3 := by rfl
      have hbs := hbe.set 3 (.int .i64 3)
      have cS : Chg [ge] W4 (W4.setCell ⟨ge, 3, none⟩ (.int .i64 3)) := (Chg.refl _ _).setCell _ _ (.inl (by simp))
      have HXS := Lib.hid (HX4.out.aside cS (fun z hz => by simp at hz; subst hz; exact ⟨fun hm => HNE.out _ (.inl hm) rfl, fun hm => HNE.out _ (.inr (.inl hm)) rfl, fun hm => HNE.out _ (.inr (.inr hm)) rfl, hw3⟩))
      have HBS := Lib.hid (HB4.out.chg cS (by simp; exact hn8))
      go_upto_region 12 with (fail)
      generalize W4.setCell _ _ = Ws at *
      have y0 := hbs.at (i := 0) rfl
      have y1 := hbs.at (i := 1) rfl
      have y2 := hbs.at (i := 2) rfl
      have y3 := hbs.at (i := 3) rfl
      clear fr z3 HX4 HB4 cS
      go_wp2_with fail
      refine (HADD.out 3 Ws (by rfl) HXS.out).mono ?_
      rintro y v5 ⟨rfl, FE5, FP5, W5, L5, t5, hX5, hl5, c5⟩
      have HB5 := Lib.hid (HBS.out.chg c5 HG8.out)
      have HX5 := Lib.hid hX5
      clear hX5 c5 HXS HBS HADD y0 y1 y2 y3 hbe hbs
      have z4 := HB5.out.at (i := 4) rfl
      by_cases he0 : er = 0
      · subst he0
        have hl5 : (L5.length : Int) = 2 := by simpa using hl5
        go_wp2_with fail
        refine (pLen HX5.out.p 2 hl5).mono ?_
        rintro y uL ⟨rfl, rfl⟩
        go_wp2_with fail
        refine (awake14 _).mono ?_
        rintro y u9 ⟨rfl, cA⟩
        go_wp2_with fail
        go_ret
        exact ⟨rfl, (HX5.out.e.c.trans cA).below⟩
      · have b0 : (er == 0) = false := by simp [he0]
        have hl5 : (L5.length : Int) = 1 := by rw [if_neg he0] at hl5; exact hl5
        have HE0 := Lib.hid he0
        have bb : (er == er) = true := by simp
        clear he0
        go_wp2_with fail
        refine (pLen HX5.out.p 1 hl5).mono ?_
        rintro y uL ⟨rfl, rfl⟩
        go_wp2_with fail
        refine (awake14 _).mono ?_
        rintro y u9 ⟨rfl, cA⟩
        go_wp2_with fail
        go_ret
        exact ⟨rfl, (HX5.out.e.c.trans cA).below⟩
end Go.Proofs.Yteabcpmpcbjicaa
