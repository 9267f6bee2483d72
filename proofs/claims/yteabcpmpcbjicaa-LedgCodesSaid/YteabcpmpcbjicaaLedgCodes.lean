
import Derived.Test.YteabcpmpcbjicaaLedCR
import Derived.Test.YteabcpmpcbjicaaShell
import Derived.Deep.CutBlock
import Derived.Deep.DrawnRows
import Derived.Deep.RegionHeld3
import Derived.BigQuiet
import Derived.Great.BuildSlice
namespace Go.Proofs.Yteabcpmpcbjicaa
set_option linter.unusedVariables false
open Go Go.Proofs Go.RowKit
attribute [local go_sem ↓] Go.wp_at_zero Go.wp_at_succ

theorem info_codes : (Try.prog.info? 74).map (fun i => (i.zero, i.size, i.bytes)) = some (some (.agg #[.int .i64 0, .int .u64 0, .int .u64 0, .bool false, .int .i64 0, .int .i64 0, .int .i64 0, .bool false, .int .u64 0, .int .u64 0, .int .i64 0, .int .i64 0, .int .u64 0]), 13, 104) := by kernel_rfl
theorem tmod16x (a : Int) : (bits BinOp.and IntKind.i64 a 255).tmod 16 = 0 ∨ (bits BinOp.and IntKind.i64 a 255).tmod 16 = 1 ∨ (bits BinOp.and IntKind.i64 a 255).tmod 16 = 2 ∨ (bits BinOp.and IntKind.i64 a 255).tmod 16 = 3 ∨ (bits BinOp.and IntKind.i64 a 255).tmod 16 = 4 ∨ (bits BinOp.and IntKind.i64 a 255).tmod 16 = 5 ∨ (bits BinOp.and IntKind.i64 a 255).tmod 16 = 6 ∨ (bits BinOp.and IntKind.i64 a 255).tmod 16 = 7 ∨ (bits BinOp.and IntKind.i64 a 255).tmod 16 = 8 ∨ (bits BinOp.and IntKind.i64 a 255).tmod 16 = 9 ∨ (bits BinOp.and IntKind.i64 a 255).tmod 16 = 10 ∨ (bits BinOp.and IntKind.i64 a 255).tmod 16 = 11 ∨ (bits BinOp.and IntKind.i64 a 255).tmod 16 = 12 ∨ (bits BinOp.and IntKind.i64 a 255).tmod 16 = 13 ∨ (bits BinOp.and IntKind.i64 a 255).tmod 16 = 14 ∨ (bits BinOp.and IntKind.i64 a 255).tmod 16 = 15 := by
  have h0 : 0 ≤ bits BinOp.and IntKind.i64 a 255 := and255_nonneg a
  have h1 := Int.tmod_nonneg 16 h0
  have h2 := Int.tmod_lt_of_pos (bits BinOp.and IntKind.i64 a 255) (show (0 : Int) < 16 by omega)
  omega
/-- An entry by hand, with its code and what it pays. -/
structure CRow (e : Ent) (c p : Int) : Prop where
  ok : e.Ok
  law : ∃ S2 r, lDo 2 ((lDo 2 (LS1 2) ⟨1, 0, 0, true, ⟨4, 0, 0, false, 5, 10, 0⟩⟩).1) e = (S2, r) ∧ r.code = c ∧ r.paid = p ∧ lNextV 2 S2 0 = (if e.client = 0 ∧ c ≠ 2 ∧ c ≠ 3 then 1 else 0) ∧ lNextV 2 S2 1 = 1 ∧ S2.got = p
def CRows : Prop := CRow ⟨(-1), 0, 5, true, ⟨1, 0, 0, false, 0, 0, 0⟩⟩ 1 0 ∧ CRow ⟨2, 0, 5, false, ⟨0, 0, 0, false, 0, 0, 0⟩⟩ 1 0 ∧ CRow ⟨0, 0, 5, false, ⟨1, 0, 0, false, 0, 0, 0⟩⟩ 2 5 ∧ CRow ⟨0, 0, 5, true, ⟨0, 0, 0, false, 0, 0, 0⟩⟩ 2 5 ∧ CRow ⟨0, 1, 2000, true, ⟨1, 0, 0, false, 0, 0, 0⟩⟩ 3 1000 ∧ CRow ⟨0, 0, 0, true, ⟨1, 0, 0, false, 0, 4611686018427387904, 0⟩⟩ 4 0 ∧ CRow ⟨0, 0, 3, true, ⟨1, 0, 0, false, 0, 4611686018427385904, 0⟩⟩ 0 1 ∧ CRow ⟨0, 0, 3, true, ⟨2, 1, 0, false, 0, 998, 0⟩⟩ 5 3 ∧ CRow ⟨0, 0, 3, true, ⟨2, 1, 0, false, 0, 997, 0⟩⟩ 0 1 ∧ CRow ⟨0, 0, 1, true, ⟨3, 0, 2, false, 0, 0, 0⟩⟩ 6 1 ∧ CRow ⟨0, 0, 1, true, ⟨3, 0, 1, false, 0, 1001, 0⟩⟩ 5 1 ∧ CRow ⟨0, 0, 2, true, ⟨3, 0, 0, false, 0, 1000, 0⟩⟩ 0 1 ∧ CRow ⟨0, 0, 2, true, ⟨4, 0, 0, false, 0, 1, 0⟩⟩ 7 2 ∧ CRow ⟨0, 0, 2, true, ⟨5, 0, 0, true, 500, 2, 0⟩⟩ 5 2 ∧ CRow ⟨0, 0, 2, true, ⟨5, 0, 0, true, 6, 2, 0⟩⟩ 0 1 ∧ CRow ⟨0, 0, 2, true, ⟨6, 0, 0, false, 0, 0, 1⟩⟩ 8 2
set_option maxRecDepth 100000 in
theorem crows : CRows := ⟨⟨⟨⟨by decide, by decide⟩, ⟨by decide, by decide⟩, ⟨by decide, by decide⟩, ⟨⟨by decide, by decide⟩, ⟨by decide, by decide⟩, ⟨by decide, by decide⟩, ⟨by decide, by decide⟩, ⟨by decide, by decide⟩, ⟨by decide, by decide⟩⟩⟩, _, _, rfl, by kernel_rfl, by kernel_rfl, by kernel_rfl, by kernel_rfl, by kernel_rfl⟩, ⟨⟨⟨by decide, by decide⟩, ⟨by decide, by decide⟩, ⟨by decide, by decide⟩, ⟨⟨by decide, by decide⟩, ⟨by decide, by decide⟩, ⟨by decide, by decide⟩, ⟨by decide, by decide⟩, ⟨by decide, by decide⟩, ⟨by decide, by decide⟩⟩⟩, _, _, rfl, by kernel_rfl, by kernel_rfl, by kernel_rfl, by kernel_rfl, by kernel_rfl⟩, ⟨⟨⟨by decide, by decide⟩, ⟨by decide, by decide⟩, ⟨by decide, by decide⟩, ⟨⟨by decide, by decide⟩, ⟨by decide, by decide⟩, ⟨by decide, by decide⟩, ⟨by decide, by decide⟩, ⟨by decide, by decide⟩, ⟨by decide, by decide⟩⟩⟩, _, _, rfl, by kernel_rfl, by kernel_rfl, by kernel_rfl, by kernel_rfl, by kernel_rfl⟩, ⟨⟨⟨by decide, by decide⟩, ⟨by decide, by decide⟩, ⟨by decide, by decide⟩, ⟨⟨by decide, by decide⟩, ⟨by decide, by decide⟩, ⟨by decide, by decide⟩, ⟨by decide, by decide⟩, ⟨by decide, by decide⟩, ⟨by decide, by decide⟩⟩⟩, _, _, rfl, by kernel_rfl, by kernel_rfl, by kernel_rfl, by kernel_rfl, by kernel_rfl⟩, ⟨⟨⟨by decide, by decide⟩, ⟨by decide, by decide⟩, ⟨by decide, by decide⟩, ⟨⟨by decide, by decide⟩, ⟨by decide, by decide⟩, ⟨by decide, by decide⟩, ⟨by decide, by decide⟩, ⟨by decide, by decide⟩, ⟨by decide, by decide⟩⟩⟩, _, _, rfl, by kernel_rfl, by kernel_rfl, by kernel_rfl, by kernel_rfl, by kernel_rfl⟩, ⟨⟨⟨by decide, by decide⟩, ⟨by decide, by decide⟩, ⟨by decide, by decide⟩, ⟨⟨by decide, by decide⟩, ⟨by decide, by decide⟩, ⟨by decide, by decide⟩, ⟨by decide, by decide⟩, ⟨by decide, by decide⟩, ⟨by decide, by decide⟩⟩⟩, _, _, rfl, by kernel_rfl, by kernel_rfl, by kernel_rfl, by kernel_rfl, by kernel_rfl⟩, ⟨⟨⟨by decide, by decide⟩, ⟨by decide, by decide⟩, ⟨by decide, by decide⟩, ⟨⟨by decide, by decide⟩, ⟨by decide, by decide⟩, ⟨by decide, by decide⟩, ⟨by decide, by decide⟩, ⟨by decide, by decide⟩, ⟨by decide, by decide⟩⟩⟩, _, _, rfl, by kernel_rfl, by kernel_rfl, by kernel_rfl, by kernel_rfl, by kernel_rfl⟩, ⟨⟨⟨by decide, by decide⟩, ⟨by decide, by decide⟩, ⟨by decide, by decide⟩, ⟨⟨by decide, by decide⟩, ⟨by decide, by decide⟩, ⟨by decide, by decide⟩, ⟨by decide, by decide⟩, ⟨by decide, by decide⟩, ⟨by decide, by decide⟩⟩⟩, _, _, rfl, by kernel_rfl, by kernel_rfl, by kernel_rfl, by kernel_rfl, by kernel_rfl⟩, ⟨⟨⟨by decide, by decide⟩, ⟨by decide, by decide⟩, ⟨by decide, by decide⟩, ⟨⟨by decide, by decide⟩, ⟨by decide, by decide⟩, ⟨by decide, by decide⟩, ⟨by decide, by decide⟩, ⟨by decide, by decide⟩, ⟨by decide, by decide⟩⟩⟩, _, _, rfl, by kernel_rfl, by kernel_rfl, by kernel_rfl, by kernel_rfl, by kernel_rfl⟩, ⟨⟨⟨by decide, by decide⟩, ⟨by decide, by decide⟩, ⟨by decide, by decide⟩, ⟨⟨by decide, by decide⟩, ⟨by decide, by decide⟩, ⟨by decide, by decide⟩, ⟨by decide, by decide⟩, ⟨by decide, by decide⟩, ⟨by decide, by decide⟩⟩⟩, _, _, rfl, by kernel_rfl, by kernel_rfl, by kernel_rfl, by kernel_rfl, by kernel_rfl⟩, ⟨⟨⟨by decide, by decide⟩, ⟨by decide, by decide⟩, ⟨by decide, by decide⟩, ⟨⟨by decide, by decide⟩, ⟨by decide, by decide⟩, ⟨by decide, by decide⟩, ⟨by decide, by decide⟩, ⟨by decide, by decide⟩, ⟨by decide, by decide⟩⟩⟩, _, _, rfl, by kernel_rfl, by kernel_rfl, by kernel_rfl, by kernel_rfl, by kernel_rfl⟩, ⟨⟨⟨by decide, by decide⟩, ⟨by decide, by decide⟩, ⟨by decide, by decide⟩, ⟨⟨by decide, by decide⟩, ⟨by decide, by decide⟩, ⟨by decide, by decide⟩, ⟨by decide, by decide⟩, ⟨by decide, by decide⟩, ⟨by decide, by decide⟩⟩⟩, _, _, rfl, by kernel_rfl, by kernel_rfl, by kernel_rfl, by kernel_rfl, by kernel_rfl⟩, ⟨⟨⟨by decide, by decide⟩, ⟨by decide, by decide⟩, ⟨by decide, by decide⟩, ⟨⟨by decide, by decide⟩, ⟨by decide, by decide⟩, ⟨by decide, by decide⟩, ⟨by decide, by decide⟩, ⟨by decide, by decide⟩, ⟨by decide, by decide⟩⟩⟩, _, _, rfl, by kernel_rfl, by kernel_rfl, by kernel_rfl, by kernel_rfl, by kernel_rfl⟩, ⟨⟨⟨by decide, by decide⟩, ⟨by decide, by decide⟩, ⟨by decide, by decide⟩, ⟨⟨by decide, by decide⟩, ⟨by decide, by decide⟩, ⟨by decide, by decide⟩, ⟨by decide, by decide⟩, ⟨by decide, by decide⟩, ⟨by decide, by decide⟩⟩⟩, _, _, rfl, by kernel_rfl, by kernel_rfl, by kernel_rfl, by kernel_rfl, by kernel_rfl⟩, ⟨⟨⟨by decide, by decide⟩, ⟨by decide, by decide⟩, ⟨by decide, by decide⟩, ⟨⟨by decide, by decide⟩, ⟨by decide, by decide⟩, ⟨by decide, by decide⟩, ⟨by decide, by decide⟩, ⟨by decide, by decide⟩, ⟨by decide, by decide⟩⟩⟩, _, _, rfl, by kernel_rfl, by kernel_rfl, by kernel_rfl, by kernel_rfl, by kernel_rfl⟩, ⟨⟨⟨by decide, by decide⟩, ⟨by decide, by decide⟩, ⟨by decide, by decide⟩, ⟨⟨by decide, by decide⟩, ⟨by decide, by decide⟩, ⟨by decide, by decide⟩, ⟨by decide, by decide⟩, ⟨by decide, by decide⟩, ⟨by decide, by decide⟩⟩⟩, _, _, rfl, by kernel_rfl, by kernel_rfl, by kernel_rfl, by kernel_rfl, by kernel_rfl⟩⟩
set_option maxRecDepth 100000 in
set_option maxHeartbeats 8000000 in
theorem ledgcodes_walk (a : Int) (w : World) :
    Calls Try.prog 8 #[.int .i64 a] w fun e w' => e = .returned (.bool true) ∧ Below w.heap.size w w' := by
  have hk := Lib.hid (tmod16x a)
  have HCR := Lib.hid crows
  go_enter Try.func8, Try.ntmps8
  go_wp2_with fail
  refine (ledNew 2 (by omega) (by omega) w).mono ?_
  rintro e w1 ⟨l, F0, rfl, h0⟩
  go_wp2_with fail
  refine (lxBook h0).mono ?_
  rintro e w2 ⟨kb, FB, rfl, c2, -, -⟩
  have h1 := h0.to c2
  clear h0 c2
  go_wp2_with fail
  refine (lxDo h1 (by omega) ⟨1, 0, 0, true, ⟨4, 0, 0, false, 5, 10, 0⟩⟩ ⟨⟨by decide, by decide⟩, ⟨by decide, by decide⟩, ⟨by decide, by decide⟩, ⟨⟨by decide, by decide⟩, ⟨by decide, by decide⟩, ⟨by decide, by decide⟩, ⟨by decide, by decide⟩, ⟨by decide, by decide⟩, ⟨by decide, by decide⟩⟩⟩ ((lDo 2 (LS1 2) ⟨1, 0, 0, true, ⟨4, 0, 0, false, 5, 10, 0⟩⟩).1) ⟨0, 0, 1, []⟩ (by kernel_rfl)).mono ?_
  rintro y w4 ⟨a1, d1, FF, rfl, -, h2, -, -⟩
  simp only [List.length_nil]
  clear h1
  go_upto_region 5 with (fail)
  obtain ⟨ie, hie, hz0, hz1, hz2⟩ := info_parts info_codes
  go_wp2_with fail
  refine wp_buildSlice 75 74 16 _ rfl #[.int .i64 (-1), .int .u64 0, .int .u64 5, .bool true, .int .i64 1, .int .i64 0, .int .i64 0, .bool false, .int .u64 0, .int .u64 0, .int .i64 0, .int .i64 1, .int .u64 0, .int .i64 2, .int .u64 0, .int .u64 5, .bool false, .int .i64 0, .int .i64 0, .int .i64 0, .bool false, .int .u64 0, .int .u64 0, .int .i64 0, .int .i64 1, .int .u64 0, .int .i64 0, .int .u64 0, .int .u64 5, .bool false, .int .i64 1, .int .i64 0, .int .i64 0, .bool false, .int .u64 0, .int .u64 0, .int .i64 0, .int .i64 2, .int .u64 5, .int .i64 0, .int .u64 0, .int .u64 5, .bool true, .int .i64 0, .int .i64 0, .int .i64 0, .bool false, .int .u64 0, .int .u64 0, .int .i64 0, .int .i64 2, .int .u64 5, .int .i64 0, .int .u64 1, .int .u64 2000, .bool true, .int .i64 1, .int .i64 0, .int .i64 0, .bool false, .int .u64 0, .int .u64 0, .int .i64 0, .int .i64 3, .int .u64 1000, .int .i64 0, .int .u64 0, .int .u64 0, .bool true, .int .i64 1, .int .i64 0, .int .i64 0, .bool false, .int .u64 0, .int .u64 4611686018427387904, .int .i64 0, .int .i64 4, .int .u64 0, .int .i64 0, .int .u64 0, .int .u64 3, .bool true, .int .i64 1, .int .i64 0, .int .i64 0, .bool false, .int .u64 0, .int .u64 4611686018427385904, .int .i64 0, .int .i64 0, .int .u64 1, .int .i64 0, .int .u64 0, .int .u64 3, .bool true, .int .i64 2, .int .i64 1, .int .i64 0, .bool false, .int .u64 0, .int .u64 998, .int .i64 0, .int .i64 5, .int .u64 3, .int .i64 0, .int .u64 0, .int .u64 3, .bool true, .int .i64 2, .int .i64 1, .int .i64 0, .bool false, .int .u64 0, .int .u64 997, .int .i64 0, .int .i64 0, .int .u64 1, .int .i64 0, .int .u64 0, .int .u64 1, .bool true, .int .i64 3, .int .i64 0, .int .i64 2, .bool false, .int .u64 0, .int .u64 0, .int .i64 0, .int .i64 6, .int .u64 1, .int .i64 0, .int .u64 0, .int .u64 1, .bool true, .int .i64 3, .int .i64 0, .int .i64 1, .bool false, .int .u64 0, .int .u64 1001, .int .i64 0, .int .i64 5, .int .u64 1, .int .i64 0, .int .u64 0, .int .u64 2, .bool true, .int .i64 3, .int .i64 0, .int .i64 0, .bool false, .int .u64 0, .int .u64 1000, .int .i64 0, .int .i64 0, .int .u64 1, .int .i64 0, .int .u64 0, .int .u64 2, .bool true, .int .i64 4, .int .i64 0, .int .i64 0, .bool false, .int .u64 0, .int .u64 1, .int .i64 0, .int .i64 7, .int .u64 2, .int .i64 0, .int .u64 0, .int .u64 2, .bool true, .int .i64 5, .int .i64 0, .int .i64 0, .bool true, .int .u64 500, .int .u64 2, .int .i64 0, .int .i64 5, .int .u64 2, .int .i64 0, .int .u64 0, .int .u64 2, .bool true, .int .i64 5, .int .i64 0, .int .i64 0, .bool true, .int .u64 6, .int .u64 2, .int .i64 0, .int .i64 0, .int .u64 1, .int .i64 0, .int .u64 0, .int .u64 2, .bool true, .int .i64 6, .int .i64 0, .int .i64 0, .bool false, .int .u64 0, .int .u64 0, .int .i64 1, .int .i64 8, .int .u64 2] ie _ (by kernel_rfl) hie hz0 (by rw [hz1]; decide) (by rw [hz1]; decide) (by rw [hz1]; kernel_rfl) ?_
  clear hie hz0 hz1 hz2
  go_upto_region 6 with (fail)
  have h6 := h2.to ((Chg.refl [] w4).alloc (.cells #[.int .i64 (-1), .int .u64 0, .int .u64 5, .bool true, .int .i64 1, .int .i64 0, .int .i64 0, .bool false, .int .u64 0, .int .u64 0, .int .i64 0, .int .i64 1, .int .u64 0, .int .i64 2, .int .u64 0, .int .u64 5, .bool false, .int .i64 0, .int .i64 0, .int .i64 0, .bool false, .int .u64 0, .int .u64 0, .int .i64 0, .int .i64 1, .int .u64 0, .int .i64 0, .int .u64 0, .int .u64 5, .bool false, .int .i64 1, .int .i64 0, .int .i64 0, .bool false, .int .u64 0, .int .u64 0, .int .i64 0, .int .i64 2, .int .u64 5, .int .i64 0, .int .u64 0, .int .u64 5, .bool true, .int .i64 0, .int .i64 0, .int .i64 0, .bool false, .int .u64 0, .int .u64 0, .int .i64 0, .int .i64 2, .int .u64 5, .int .i64 0, .int .u64 1, .int .u64 2000, .bool true, .int .i64 1, .int .i64 0, .int .i64 0, .bool false, .int .u64 0, .int .u64 0, .int .i64 0, .int .i64 3, .int .u64 1000, .int .i64 0, .int .u64 0, .int .u64 0, .bool true, .int .i64 1, .int .i64 0, .int .i64 0, .bool false, .int .u64 0, .int .u64 4611686018427387904, .int .i64 0, .int .i64 4, .int .u64 0, .int .i64 0, .int .u64 0, .int .u64 3, .bool true, .int .i64 1, .int .i64 0, .int .i64 0, .bool false, .int .u64 0, .int .u64 4611686018427385904, .int .i64 0, .int .i64 0, .int .u64 1, .int .i64 0, .int .u64 0, .int .u64 3, .bool true, .int .i64 2, .int .i64 1, .int .i64 0, .bool false, .int .u64 0, .int .u64 998, .int .i64 0, .int .i64 5, .int .u64 3, .int .i64 0, .int .u64 0, .int .u64 3, .bool true, .int .i64 2, .int .i64 1, .int .i64 0, .bool false, .int .u64 0, .int .u64 997, .int .i64 0, .int .i64 0, .int .u64 1, .int .i64 0, .int .u64 0, .int .u64 1, .bool true, .int .i64 3, .int .i64 0, .int .i64 2, .bool false, .int .u64 0, .int .u64 0, .int .i64 0, .int .i64 6, .int .u64 1, .int .i64 0, .int .u64 0, .int .u64 1, .bool true, .int .i64 3, .int .i64 0, .int .i64 1, .bool false, .int .u64 0, .int .u64 1001, .int .i64 0, .int .i64 5, .int .u64 1, .int .i64 0, .int .u64 0, .int .u64 2, .bool true, .int .i64 3, .int .i64 0, .int .i64 0, .bool false, .int .u64 0, .int .u64 1000, .int .i64 0, .int .i64 0, .int .u64 1, .int .i64 0, .int .u64 0, .int .u64 2, .bool true, .int .i64 4, .int .i64 0, .int .i64 0, .bool false, .int .u64 0, .int .u64 1, .int .i64 0, .int .i64 7, .int .u64 2, .int .i64 0, .int .u64 0, .int .u64 2, .bool true, .int .i64 5, .int .i64 0, .int .i64 0, .bool true, .int .u64 500, .int .u64 2, .int .i64 0, .int .i64 5, .int .u64 2, .int .i64 0, .int .u64 0, .int .u64 2, .bool true, .int .i64 5, .int .i64 0, .int .i64 0, .bool true, .int .u64 6, .int .u64 2, .int .i64 0, .int .i64 0, .int .u64 1, .int .i64 0, .int .u64 0, .int .u64 2, .bool true, .int .i64 6, .int .i64 0, .int .i64 0, .bool false, .int .u64 0, .int .u64 0, .int .i64 1, .int .i64 8, .int .u64 2] 74))
  have hbb : Blk (w4.alloc (.cells #[.int .i64 (-1), .int .u64 0, .int .u64 5, .bool true, .int .i64 1, .int .i64 0, .int .i64 0, .bool false, .int .u64 0, .int .u64 0, .int .i64 0, .int .i64 1, .int .u64 0, .int .i64 2, .int .u64 0, .int .u64 5, .bool false, .int .i64 0, .int .i64 0, .int .i64 0, .bool false, .int .u64 0, .int .u64 0, .int .i64 0, .int .i64 1, .int .u64 0, .int .i64 0, .int .u64 0, .int .u64 5, .bool false, .int .i64 1, .int .i64 0, .int .i64 0, .bool false, .int .u64 0, .int .u64 0, .int .i64 0, .int .i64 2, .int .u64 5, .int .i64 0, .int .u64 0, .int .u64 5, .bool true, .int .i64 0, .int .i64 0, .int .i64 0, .bool false, .int .u64 0, .int .u64 0, .int .i64 0, .int .i64 2, .int .u64 5, .int .i64 0, .int .u64 1, .int .u64 2000, .bool true, .int .i64 1, .int .i64 0, .int .i64 0, .bool false, .int .u64 0, .int .u64 0, .int .i64 0, .int .i64 3, .int .u64 1000, .int .i64 0, .int .u64 0, .int .u64 0, .bool true, .int .i64 1, .int .i64 0, .int .i64 0, .bool false, .int .u64 0, .int .u64 4611686018427387904, .int .i64 0, .int .i64 4, .int .u64 0, .int .i64 0, .int .u64 0, .int .u64 3, .bool true, .int .i64 1, .int .i64 0, .int .i64 0, .bool false, .int .u64 0, .int .u64 4611686018427385904, .int .i64 0, .int .i64 0, .int .u64 1, .int .i64 0, .int .u64 0, .int .u64 3, .bool true, .int .i64 2, .int .i64 1, .int .i64 0, .bool false, .int .u64 0, .int .u64 998, .int .i64 0, .int .i64 5, .int .u64 3, .int .i64 0, .int .u64 0, .int .u64 3, .bool true, .int .i64 2, .int .i64 1, .int .i64 0, .bool false, .int .u64 0, .int .u64 997, .int .i64 0, .int .i64 0, .int .u64 1, .int .i64 0, .int .u64 0, .int .u64 1, .bool true, .int .i64 3, .int .i64 0, .int .i64 2, .bool false, .int .u64 0, .int .u64 0, .int .i64 0, .int .i64 6, .int .u64 1, .int .i64 0, .int .u64 0, .int .u64 1, .bool true, .int .i64 3, .int .i64 0, .int .i64 1, .bool false, .int .u64 0, .int .u64 1001, .int .i64 0, .int .i64 5, .int .u64 1, .int .i64 0, .int .u64 0, .int .u64 2, .bool true, .int .i64 3, .int .i64 0, .int .i64 0, .bool false, .int .u64 0, .int .u64 1000, .int .i64 0, .int .i64 0, .int .u64 1, .int .i64 0, .int .u64 0, .int .u64 2, .bool true, .int .i64 4, .int .i64 0, .int .i64 0, .bool false, .int .u64 0, .int .u64 1, .int .i64 0, .int .i64 7, .int .u64 2, .int .i64 0, .int .u64 0, .int .u64 2, .bool true, .int .i64 5, .int .i64 0, .int .i64 0, .bool true, .int .u64 500, .int .u64 2, .int .i64 0, .int .i64 5, .int .u64 2, .int .i64 0, .int .u64 0, .int .u64 2, .bool true, .int .i64 5, .int .i64 0, .int .i64 0, .bool true, .int .u64 6, .int .u64 2, .int .i64 0, .int .i64 0, .int .u64 1, .int .i64 0, .int .u64 0, .int .u64 2, .bool true, .int .i64 6, .int .i64 0, .int .i64 0, .bool false, .int .u64 0, .int .u64 0, .int .i64 1, .int .i64 8, .int .u64 2] 74)) w4.heap.size 74 [.int .i64 (-1), .int .u64 0, .int .u64 5, .bool true, .int .i64 1, .int .i64 0, .int .i64 0, .bool false, .int .u64 0, .int .u64 0, .int .i64 0, .int .i64 1, .int .u64 0, .int .i64 2, .int .u64 0, .int .u64 5, .bool false, .int .i64 0, .int .i64 0, .int .i64 0, .bool false, .int .u64 0, .int .u64 0, .int .i64 0, .int .i64 1, .int .u64 0, .int .i64 0, .int .u64 0, .int .u64 5, .bool false, .int .i64 1, .int .i64 0, .int .i64 0, .bool false, .int .u64 0, .int .u64 0, .int .i64 0, .int .i64 2, .int .u64 5, .int .i64 0, .int .u64 0, .int .u64 5, .bool true, .int .i64 0, .int .i64 0, .int .i64 0, .bool false, .int .u64 0, .int .u64 0, .int .i64 0, .int .i64 2, .int .u64 5, .int .i64 0, .int .u64 1, .int .u64 2000, .bool true, .int .i64 1, .int .i64 0, .int .i64 0, .bool false, .int .u64 0, .int .u64 0, .int .i64 0, .int .i64 3, .int .u64 1000, .int .i64 0, .int .u64 0, .int .u64 0, .bool true, .int .i64 1, .int .i64 0, .int .i64 0, .bool false, .int .u64 0, .int .u64 4611686018427387904, .int .i64 0, .int .i64 4, .int .u64 0, .int .i64 0, .int .u64 0, .int .u64 3, .bool true, .int .i64 1, .int .i64 0, .int .i64 0, .bool false, .int .u64 0, .int .u64 4611686018427385904, .int .i64 0, .int .i64 0, .int .u64 1, .int .i64 0, .int .u64 0, .int .u64 3, .bool true, .int .i64 2, .int .i64 1, .int .i64 0, .bool false, .int .u64 0, .int .u64 998, .int .i64 0, .int .i64 5, .int .u64 3, .int .i64 0, .int .u64 0, .int .u64 3, .bool true, .int .i64 2, .int .i64 1, .int .i64 0, .bool false, .int .u64 0, .int .u64 997, .int .i64 0, .int .i64 0, .int .u64 1, .int .i64 0, .int .u64 0, .int .u64 1, .bool true, .int .i64 3, .int .i64 0, .int .i64 2, .bool false, .int .u64 0, .int .u64 0, .int .i64 0, .int .i64 6, .int .u64 1, .int .i64 0, .int .u64 0, .int .u64 1, .bool true, .int .i64 3, .int .i64 0, .int .i64 1, .bool false, .int .u64 0, .int .u64 1001, .int .i64 0, .int .i64 5, .int .u64 1, .int .i64 0, .int .u64 0, .int .u64 2, .bool true, .int .i64 3, .int .i64 0, .int .i64 0, .bool false, .int .u64 0, .int .u64 1000, .int .i64 0, .int .i64 0, .int .u64 1, .int .i64 0, .int .u64 0, .int .u64 2, .bool true, .int .i64 4, .int .i64 0, .int .i64 0, .bool false, .int .u64 0, .int .u64 1, .int .i64 0, .int .i64 7, .int .u64 2, .int .i64 0, .int .u64 0, .int .u64 2, .bool true, .int .i64 5, .int .i64 0, .int .i64 0, .bool true, .int .u64 500, .int .u64 2, .int .i64 0, .int .i64 5, .int .u64 2, .int .i64 0, .int .u64 0, .int .u64 2, .bool true, .int .i64 5, .int .i64 0, .int .i64 0, .bool true, .int .u64 6, .int .u64 2, .int .i64 0, .int .i64 0, .int .u64 1, .int .i64 0, .int .u64 0, .int .u64 2, .bool true, .int .i64 6, .int .i64 0, .int .i64 0, .bool false, .int .u64 0, .int .u64 0, .int .i64 1, .int .i64 8, .int .u64 2] := Blk.new w4 _ _
  clear h2
  generalize w4.heap.size = gb at *
  generalize w4.alloc _ = Wl at *
  go_cut [5] from 67 to 74 (fun v wx => ∃ (g8 : Nat) (e : Ent) (c p : Int), v = .pointer (some ⟨g8, 0, none⟩) ∧ Blk wx g8 74 [.int .i64 e.client, .int .u64 e.nonce, .int .u64 e.fee, .bool e.good, .int .i64 e.tx.kind, .int .i64 e.tx.asset, .int .i64 e.tx.dst, .bool e.tx.buy, .int .u64 e.tx.price, .int .u64 e.tx.qty, .int .i64 e.tx.id, .int .i64 c, .int .u64 p] ∧ LedX w wx l 2 FF ((lDo 2 (LS1 2) ⟨1, 0, 0, true, ⟨4, 0, 0, false, 5, 10, 0⟩⟩).1) 1 ∧ Hid (g8 ∉ FF) ∧ CRow e c p)
  case first =>
    rcases hk.out with h | h | h | h | h | h | h | h | h | h | h | h | h | h | h | h
    · clear hk
      have q0 := hbb.at (i := 0) rfl
      have q1 := hbb.at (i := 1) rfl
      have q2 := hbb.at (i := 2) rfl
      have q3 := hbb.at (i := 3) rfl
      have q4 := hbb.at (i := 4) rfl
      have q5 := hbb.at (i := 5) rfl
      have q6 := hbb.at (i := 6) rfl
      have q7 := hbb.at (i := 7) rfl
      have q8 := hbb.at (i := 8) rfl
      have q9 := hbb.at (i := 9) rfl
      have q10 := hbb.at (i := 10) rfl
      have q11 := hbb.at (i := 11) rfl
      have q12 := hbb.at (i := 12) rfl
      have hb8 : Blk (Wl.alloc (.cells #[.int .i64 (-1), .int .u64 0, .int .u64 5, .bool true, .int .i64 1, .int .i64 0, .int .i64 0, .bool false, .int .u64 0, .int .u64 0, .int .i64 0, .int .i64 1, .int .u64 0] 74)) Wl.heap.size 74 [.int .i64 (-1), .int .u64 0, .int .u64 5, .bool true, .int .i64 1, .int .i64 0, .int .i64 0, .bool false, .int .u64 0, .int .u64 0, .int .i64 0, .int .i64 1, .int .u64 0] := Blk.new Wl _ _
      have h8 := h6.to ((Chg.refl [] Wl).alloc (.cells #[.int .i64 (-1), .int .u64 0, .int .u64 5, .bool true, .int .i64 1, .int .i64 0, .int .i64 0, .bool false, .int .u64 0, .int .u64 0, .int .i64 0, .int .i64 1, .int .u64 0] 74))
      have HB8 := Lib.hid hb8
      have H8 := Lib.hid h8
      have hn8 : Hid (Wl.heap.size ∉ FF) := fun hm => by have := (h6.lt _ hm).2; omega
      clear hb8 h8 h6 hbb
      go_wp2_with fail
      go_meet
      exact ⟨Wl.heap.size, ⟨(-1), 0, 5, true, ⟨1, 0, 0, false, 0, 0, 0⟩⟩, 1, 0, rfl, HB8.out, H8.out, hn8, HCR.out.1⟩
    · clear hk
      have q0 := hbb.at (i := 13) rfl
      have q1 := hbb.at (i := 14) rfl
      have q2 := hbb.at (i := 15) rfl
      have q3 := hbb.at (i := 16) rfl
      have q4 := hbb.at (i := 17) rfl
      have q5 := hbb.at (i := 18) rfl
      have q6 := hbb.at (i := 19) rfl
      have q7 := hbb.at (i := 20) rfl
      have q8 := hbb.at (i := 21) rfl
      have q9 := hbb.at (i := 22) rfl
      have q10 := hbb.at (i := 23) rfl
      have q11 := hbb.at (i := 24) rfl
      have q12 := hbb.at (i := 25) rfl
      have hb8 : Blk (Wl.alloc (.cells #[.int .i64 2, .int .u64 0, .int .u64 5, .bool false, .int .i64 0, .int .i64 0, .int .i64 0, .bool false, .int .u64 0, .int .u64 0, .int .i64 0, .int .i64 1, .int .u64 0] 74)) Wl.heap.size 74 [.int .i64 2, .int .u64 0, .int .u64 5, .bool false, .int .i64 0, .int .i64 0, .int .i64 0, .bool false, .int .u64 0, .int .u64 0, .int .i64 0, .int .i64 1, .int .u64 0] := Blk.new Wl _ _
      have h8 := h6.to ((Chg.refl [] Wl).alloc (.cells #[.int .i64 2, .int .u64 0, .int .u64 5, .bool false, .int .i64 0, .int .i64 0, .int .i64 0, .bool false, .int .u64 0, .int .u64 0, .int .i64 0, .int .i64 1, .int .u64 0] 74))
      have HB8 := Lib.hid hb8
      have H8 := Lib.hid h8
      have hn8 : Hid (Wl.heap.size ∉ FF) := fun hm => by have := (h6.lt _ hm).2; omega
      clear hb8 h8 h6 hbb
      go_wp2_with fail
      go_meet
      exact ⟨Wl.heap.size, ⟨2, 0, 5, false, ⟨0, 0, 0, false, 0, 0, 0⟩⟩, 1, 0, rfl, HB8.out, H8.out, hn8, HCR.out.2.1⟩
    · clear hk
      have q0 := hbb.at (i := 26) rfl
      have q1 := hbb.at (i := 27) rfl
      have q2 := hbb.at (i := 28) rfl
      have q3 := hbb.at (i := 29) rfl
      have q4 := hbb.at (i := 30) rfl
      have q5 := hbb.at (i := 31) rfl
      have q6 := hbb.at (i := 32) rfl
      have q7 := hbb.at (i := 33) rfl
      have q8 := hbb.at (i := 34) rfl
      have q9 := hbb.at (i := 35) rfl
      have q10 := hbb.at (i := 36) rfl
      have q11 := hbb.at (i := 37) rfl
      have q12 := hbb.at (i := 38) rfl
      have hb8 : Blk (Wl.alloc (.cells #[.int .i64 0, .int .u64 0, .int .u64 5, .bool false, .int .i64 1, .int .i64 0, .int .i64 0, .bool false, .int .u64 0, .int .u64 0, .int .i64 0, .int .i64 2, .int .u64 5] 74)) Wl.heap.size 74 [.int .i64 0, .int .u64 0, .int .u64 5, .bool false, .int .i64 1, .int .i64 0, .int .i64 0, .bool false, .int .u64 0, .int .u64 0, .int .i64 0, .int .i64 2, .int .u64 5] := Blk.new Wl _ _
      have h8 := h6.to ((Chg.refl [] Wl).alloc (.cells #[.int .i64 0, .int .u64 0, .int .u64 5, .bool false, .int .i64 1, .int .i64 0, .int .i64 0, .bool false, .int .u64 0, .int .u64 0, .int .i64 0, .int .i64 2, .int .u64 5] 74))
      have HB8 := Lib.hid hb8
      have H8 := Lib.hid h8
      have hn8 : Hid (Wl.heap.size ∉ FF) := fun hm => by have := (h6.lt _ hm).2; omega
      clear hb8 h8 h6 hbb
      go_wp2_with fail
      go_meet
      exact ⟨Wl.heap.size, ⟨0, 0, 5, false, ⟨1, 0, 0, false, 0, 0, 0⟩⟩, 2, 5, rfl, HB8.out, H8.out, hn8, HCR.out.2.2.1⟩
    · clear hk
      have q0 := hbb.at (i := 39) rfl
      have q1 := hbb.at (i := 40) rfl
      have q2 := hbb.at (i := 41) rfl
      have q3 := hbb.at (i := 42) rfl
      have q4 := hbb.at (i := 43) rfl
      have q5 := hbb.at (i := 44) rfl
      have q6 := hbb.at (i := 45) rfl
      have q7 := hbb.at (i := 46) rfl
      have q8 := hbb.at (i := 47) rfl
      have q9 := hbb.at (i := 48) rfl
      have q10 := hbb.at (i := 49) rfl
      have q11 := hbb.at (i := 50) rfl
      have q12 := hbb.at (i := 51) rfl
      have hb8 : Blk (Wl.alloc (.cells #[.int .i64 0, .int .u64 0, .int .u64 5, .bool true, .int .i64 0, .int .i64 0, .int .i64 0, .bool false, .int .u64 0, .int .u64 0, .int .i64 0, .int .i64 2, .int .u64 5] 74)) Wl.heap.size 74 [.int .i64 0, .int .u64 0, .int .u64 5, .bool true, .int .i64 0, .int .i64 0, .int .i64 0, .bool false, .int .u64 0, .int .u64 0, .int .i64 0, .int .i64 2, .int .u64 5] := Blk.new Wl _ _
      have h8 := h6.to ((Chg.refl [] Wl).alloc (.cells #[.int .i64 0, .int .u64 0, .int .u64 5, .bool true, .int .i64 0, .int .i64 0, .int .i64 0, .bool false, .int .u64 0, .int .u64 0, .int .i64 0, .int .i64 2, .int .u64 5] 74))
      have HB8 := Lib.hid hb8
      have H8 := Lib.hid h8
      have hn8 : Hid (Wl.heap.size ∉ FF) := fun hm => by have := (h6.lt _ hm).2; omega
      clear hb8 h8 h6 hbb
      go_wp2_with fail
      go_meet
      exact ⟨Wl.heap.size, ⟨0, 0, 5, true, ⟨0, 0, 0, false, 0, 0, 0⟩⟩, 2, 5, rfl, HB8.out, H8.out, hn8, HCR.out.2.2.2.1⟩
    · clear hk
      have q0 := hbb.at (i := 52) rfl
      have q1 := hbb.at (i := 53) rfl
      have q2 := hbb.at (i := 54) rfl
      have q3 := hbb.at (i := 55) rfl
      have q4 := hbb.at (i := 56) rfl
      have q5 := hbb.at (i := 57) rfl
      have q6 := hbb.at (i := 58) rfl
      have q7 := hbb.at (i := 59) rfl
      have q8 := hbb.at (i := 60) rfl
      have q9 := hbb.at (i := 61) rfl
      have q10 := hbb.at (i := 62) rfl
      have q11 := hbb.at (i := 63) rfl
      have q12 := hbb.at (i := 64) rfl
      have hb8 : Blk (Wl.alloc (.cells #[.int .i64 0, .int .u64 1, .int .u64 2000, .bool true, .int .i64 1, .int .i64 0, .int .i64 0, .bool false, .int .u64 0, .int .u64 0, .int .i64 0, .int .i64 3, .int .u64 1000] 74)) Wl.heap.size 74 [.int .i64 0, .int .u64 1, .int .u64 2000, .bool true, .int .i64 1, .int .i64 0, .int .i64 0, .bool false, .int .u64 0, .int .u64 0, .int .i64 0, .int .i64 3, .int .u64 1000] := Blk.new Wl _ _
      have h8 := h6.to ((Chg.refl [] Wl).alloc (.cells #[.int .i64 0, .int .u64 1, .int .u64 2000, .bool true, .int .i64 1, .int .i64 0, .int .i64 0, .bool false, .int .u64 0, .int .u64 0, .int .i64 0, .int .i64 3, .int .u64 1000] 74))
      have HB8 := Lib.hid hb8
      have H8 := Lib.hid h8
      have hn8 : Hid (Wl.heap.size ∉ FF) := fun hm => by have := (h6.lt _ hm).2; omega
      clear hb8 h8 h6 hbb
      go_wp2_with fail
      go_meet
      exact ⟨Wl.heap.size, ⟨0, 1, 2000, true, ⟨1, 0, 0, false, 0, 0, 0⟩⟩, 3, 1000, rfl, HB8.out, H8.out, hn8, HCR.out.2.2.2.2.1⟩
    · clear hk
      have q0 := hbb.at (i := 65) rfl
      have q1 := hbb.at (i := 66) rfl
      have q2 := hbb.at (i := 67) rfl
      have q3 := hbb.at (i := 68) rfl
      have q4 := hbb.at (i := 69) rfl
      have q5 := hbb.at (i := 70) rfl
      have q6 := hbb.at (i := 71) rfl
      have q7 := hbb.at (i := 72) rfl
      have q8 := hbb.at (i := 73) rfl
      have q9 := hbb.at (i := 74) rfl
      have q10 := hbb.at (i := 75) rfl
      have q11 := hbb.at (i := 76) rfl
      have q12 := hbb.at (i := 77) rfl
      have hb8 : Blk (Wl.alloc (.cells #[.int .i64 0, .int .u64 0, .int .u64 0, .bool true, .int .i64 1, .int .i64 0, .int .i64 0, .bool false, .int .u64 0, .int .u64 4611686018427387904, .int .i64 0, .int .i64 4, .int .u64 0] 74)) Wl.heap.size 74 [.int .i64 0, .int .u64 0, .int .u64 0, .bool true, .int .i64 1, .int .i64 0, .int .i64 0, .bool false, .int .u64 0, .int .u64 4611686018427387904, .int .i64 0, .int .i64 4, .int .u64 0] := Blk.new Wl _ _
      have h8 := h6.to ((Chg.refl [] Wl).alloc (.cells #[.int .i64 0, .int .u64 0, .int .u64 0, .bool true, .int .i64 1, .int .i64 0, .int .i64 0, .bool false, .int .u64 0, .int .u64 4611686018427387904, .int .i64 0, .int .i64 4, .int .u64 0] 74))
      have HB8 := Lib.hid hb8
      have H8 := Lib.hid h8
      have hn8 : Hid (Wl.heap.size ∉ FF) := fun hm => by have := (h6.lt _ hm).2; omega
      clear hb8 h8 h6 hbb
      go_wp2_with fail
      go_meet
      exact ⟨Wl.heap.size, ⟨0, 0, 0, true, ⟨1, 0, 0, false, 0, 4611686018427387904, 0⟩⟩, 4, 0, rfl, HB8.out, H8.out, hn8, HCR.out.2.2.2.2.2.1⟩
    · clear hk
      have q0 := hbb.at (i := 78) rfl
      have q1 := hbb.at (i := 79) rfl
      have q2 := hbb.at (i := 80) rfl
      have q3 := hbb.at (i := 81) rfl
      have q4 := hbb.at (i := 82) rfl
      have q5 := hbb.at (i := 83) rfl
      have q6 := hbb.at (i := 84) rfl
      have q7 := hbb.at (i := 85) rfl
      have q8 := hbb.at (i := 86) rfl
      have q9 := hbb.at (i := 87) rfl
      have q10 := hbb.at (i := 88) rfl
      have q11 := hbb.at (i := 89) rfl
      have q12 := hbb.at (i := 90) rfl
      have hb8 : Blk (Wl.alloc (.cells #[.int .i64 0, .int .u64 0, .int .u64 3, .bool true, .int .i64 1, .int .i64 0, .int .i64 0, .bool false, .int .u64 0, .int .u64 4611686018427385904, .int .i64 0, .int .i64 0, .int .u64 1] 74)) Wl.heap.size 74 [.int .i64 0, .int .u64 0, .int .u64 3, .bool true, .int .i64 1, .int .i64 0, .int .i64 0, .bool false, .int .u64 0, .int .u64 4611686018427385904, .int .i64 0, .int .i64 0, .int .u64 1] := Blk.new Wl _ _
      have h8 := h6.to ((Chg.refl [] Wl).alloc (.cells #[.int .i64 0, .int .u64 0, .int .u64 3, .bool true, .int .i64 1, .int .i64 0, .int .i64 0, .bool false, .int .u64 0, .int .u64 4611686018427385904, .int .i64 0, .int .i64 0, .int .u64 1] 74))
      have HB8 := Lib.hid hb8
      have H8 := Lib.hid h8
      have hn8 : Hid (Wl.heap.size ∉ FF) := fun hm => by have := (h6.lt _ hm).2; omega
      clear hb8 h8 h6 hbb
      go_wp2_with fail
      go_meet
      exact ⟨Wl.heap.size, ⟨0, 0, 3, true, ⟨1, 0, 0, false, 0, 4611686018427385904, 0⟩⟩, 0, 1, rfl, HB8.out, H8.out, hn8, HCR.out.2.2.2.2.2.2.1⟩
    · clear hk
      have q0 := hbb.at (i := 91) rfl
      have q1 := hbb.at (i := 92) rfl
      have q2 := hbb.at (i := 93) rfl
      have q3 := hbb.at (i := 94) rfl
      have q4 := hbb.at (i := 95) rfl
      have q5 := hbb.at (i := 96) rfl
      have q6 := hbb.at (i := 97) rfl
      have q7 := hbb.at (i := 98) rfl
      have q8 := hbb.at (i := 99) rfl
      have q9 := hbb.at (i := 100) rfl
      have q10 := hbb.at (i := 101) rfl
      have q11 := hbb.at (i := 102) rfl
      have q12 := hbb.at (i := 103) rfl
      have hb8 : Blk (Wl.alloc (.cells #[.int .i64 0, .int .u64 0, .int .u64 3, .bool true, .int .i64 2, .int .i64 1, .int .i64 0, .bool false, .int .u64 0, .int .u64 998, .int .i64 0, .int .i64 5, .int .u64 3] 74)) Wl.heap.size 74 [.int .i64 0, .int .u64 0, .int .u64 3, .bool true, .int .i64 2, .int .i64 1, .int .i64 0, .bool false, .int .u64 0, .int .u64 998, .int .i64 0, .int .i64 5, .int .u64 3] := Blk.new Wl _ _
      have h8 := h6.to ((Chg.refl [] Wl).alloc (.cells #[.int .i64 0, .int .u64 0, .int .u64 3, .bool true, .int .i64 2, .int .i64 1, .int .i64 0, .bool false, .int .u64 0, .int .u64 998, .int .i64 0, .int .i64 5, .int .u64 3] 74))
      have HB8 := Lib.hid hb8
      have H8 := Lib.hid h8
      have hn8 : Hid (Wl.heap.size ∉ FF) := fun hm => by have := (h6.lt _ hm).2; omega
      clear hb8 h8 h6 hbb
      go_wp2_with fail
      go_meet
      exact ⟨Wl.heap.size, ⟨0, 0, 3, true, ⟨2, 1, 0, false, 0, 998, 0⟩⟩, 5, 3, rfl, HB8.out, H8.out, hn8, HCR.out.2.2.2.2.2.2.2.1⟩
    · clear hk
      have q0 := hbb.at (i := 104) rfl
      have q1 := hbb.at (i := 105) rfl
      have q2 := hbb.at (i := 106) rfl
      have q3 := hbb.at (i := 107) rfl
      have q4 := hbb.at (i := 108) rfl
      have q5 := hbb.at (i := 109) rfl
      have q6 := hbb.at (i := 110) rfl
      have q7 := hbb.at (i := 111) rfl
      have q8 := hbb.at (i := 112) rfl
      have q9 := hbb.at (i := 113) rfl
      have q10 := hbb.at (i := 114) rfl
      have q11 := hbb.at (i := 115) rfl
      have q12 := hbb.at (i := 116) rfl
      have hb8 : Blk (Wl.alloc (.cells #[.int .i64 0, .int .u64 0, .int .u64 3, .bool true, .int .i64 2, .int .i64 1, .int .i64 0, .bool false, .int .u64 0, .int .u64 997, .int .i64 0, .int .i64 0, .int .u64 1] 74)) Wl.heap.size 74 [.int .i64 0, .int .u64 0, .int .u64 3, .bool true, .int .i64 2, .int .i64 1, .int .i64 0, .bool false, .int .u64 0, .int .u64 997, .int .i64 0, .int .i64 0, .int .u64 1] := Blk.new Wl _ _
      have h8 := h6.to ((Chg.refl [] Wl).alloc (.cells #[.int .i64 0, .int .u64 0, .int .u64 3, .bool true, .int .i64 2, .int .i64 1, .int .i64 0, .bool false, .int .u64 0, .int .u64 997, .int .i64 0, .int .i64 0, .int .u64 1] 74))
      have HB8 := Lib.hid hb8
      have H8 := Lib.hid h8
      have hn8 : Hid (Wl.heap.size ∉ FF) := fun hm => by have := (h6.lt _ hm).2; omega
      clear hb8 h8 h6 hbb
      go_wp2_with fail
      go_meet
      exact ⟨Wl.heap.size, ⟨0, 0, 3, true, ⟨2, 1, 0, false, 0, 997, 0⟩⟩, 0, 1, rfl, HB8.out, H8.out, hn8, HCR.out.2.2.2.2.2.2.2.2.1⟩
    · clear hk
      have q0 := hbb.at (i := 117) rfl
      have q1 := hbb.at (i := 118) rfl
      have q2 := hbb.at (i := 119) rfl
      have q3 := hbb.at (i := 120) rfl
      have q4 := hbb.at (i := 121) rfl
      have q5 := hbb.at (i := 122) rfl
      have q6 := hbb.at (i := 123) rfl
      have q7 := hbb.at (i := 124) rfl
      have q8 := hbb.at (i := 125) rfl
      have q9 := hbb.at (i := 126) rfl
      have q10 := hbb.at (i := 127) rfl
      have q11 := hbb.at (i := 128) rfl
      have q12 := hbb.at (i := 129) rfl
      have hb8 : Blk (Wl.alloc (.cells #[.int .i64 0, .int .u64 0, .int .u64 1, .bool true, .int .i64 3, .int .i64 0, .int .i64 2, .bool false, .int .u64 0, .int .u64 0, .int .i64 0, .int .i64 6, .int .u64 1] 74)) Wl.heap.size 74 [.int .i64 0, .int .u64 0, .int .u64 1, .bool true, .int .i64 3, .int .i64 0, .int .i64 2, .bool false, .int .u64 0, .int .u64 0, .int .i64 0, .int .i64 6, .int .u64 1] := Blk.new Wl _ _
      have h8 := h6.to ((Chg.refl [] Wl).alloc (.cells #[.int .i64 0, .int .u64 0, .int .u64 1, .bool true, .int .i64 3, .int .i64 0, .int .i64 2, .bool false, .int .u64 0, .int .u64 0, .int .i64 0, .int .i64 6, .int .u64 1] 74))
      have HB8 := Lib.hid hb8
      have H8 := Lib.hid h8
      have hn8 : Hid (Wl.heap.size ∉ FF) := fun hm => by have := (h6.lt _ hm).2; omega
      clear hb8 h8 h6 hbb
      go_wp2_with fail
      go_meet
      exact ⟨Wl.heap.size, ⟨0, 0, 1, true, ⟨3, 0, 2, false, 0, 0, 0⟩⟩, 6, 1, rfl, HB8.out, H8.out, hn8, HCR.out.2.2.2.2.2.2.2.2.2.1⟩
    · clear hk
      have q0 := hbb.at (i := 130) rfl
      have q1 := hbb.at (i := 131) rfl
      have q2 := hbb.at (i := 132) rfl
      have q3 := hbb.at (i := 133) rfl
      have q4 := hbb.at (i := 134) rfl
      have q5 := hbb.at (i := 135) rfl
      have q6 := hbb.at (i := 136) rfl
      have q7 := hbb.at (i := 137) rfl
      have q8 := hbb.at (i := 138) rfl
      have q9 := hbb.at (i := 139) rfl
      have q10 := hbb.at (i := 140) rfl
      have q11 := hbb.at (i := 141) rfl
      have q12 := hbb.at (i := 142) rfl
      have hb8 : Blk (Wl.alloc (.cells #[.int .i64 0, .int .u64 0, .int .u64 1, .bool true, .int .i64 3, .int .i64 0, .int .i64 1, .bool false, .int .u64 0, .int .u64 1001, .int .i64 0, .int .i64 5, .int .u64 1] 74)) Wl.heap.size 74 [.int .i64 0, .int .u64 0, .int .u64 1, .bool true, .int .i64 3, .int .i64 0, .int .i64 1, .bool false, .int .u64 0, .int .u64 1001, .int .i64 0, .int .i64 5, .int .u64 1] := Blk.new Wl _ _
      have h8 := h6.to ((Chg.refl [] Wl).alloc (.cells #[.int .i64 0, .int .u64 0, .int .u64 1, .bool true, .int .i64 3, .int .i64 0, .int .i64 1, .bool false, .int .u64 0, .int .u64 1001, .int .i64 0, .int .i64 5, .int .u64 1] 74))
      have HB8 := Lib.hid hb8
      have H8 := Lib.hid h8
      have hn8 : Hid (Wl.heap.size ∉ FF) := fun hm => by have := (h6.lt _ hm).2; omega
      clear hb8 h8 h6 hbb
      go_wp2_with fail
      go_meet
      exact ⟨Wl.heap.size, ⟨0, 0, 1, true, ⟨3, 0, 1, false, 0, 1001, 0⟩⟩, 5, 1, rfl, HB8.out, H8.out, hn8, HCR.out.2.2.2.2.2.2.2.2.2.2.1⟩
    · clear hk
      have q0 := hbb.at (i := 143) rfl
      have q1 := hbb.at (i := 144) rfl
      have q2 := hbb.at (i := 145) rfl
      have q3 := hbb.at (i := 146) rfl
      have q4 := hbb.at (i := 147) rfl
      have q5 := hbb.at (i := 148) rfl
      have q6 := hbb.at (i := 149) rfl
      have q7 := hbb.at (i := 150) rfl
      have q8 := hbb.at (i := 151) rfl
      have q9 := hbb.at (i := 152) rfl
      have q10 := hbb.at (i := 153) rfl
      have q11 := hbb.at (i := 154) rfl
      have q12 := hbb.at (i := 155) rfl
      have hb8 : Blk (Wl.alloc (.cells #[.int .i64 0, .int .u64 0, .int .u64 2, .bool true, .int .i64 3, .int .i64 0, .int .i64 0, .bool false, .int .u64 0, .int .u64 1000, .int .i64 0, .int .i64 0, .int .u64 1] 74)) Wl.heap.size 74 [.int .i64 0, .int .u64 0, .int .u64 2, .bool true, .int .i64 3, .int .i64 0, .int .i64 0, .bool false, .int .u64 0, .int .u64 1000, .int .i64 0, .int .i64 0, .int .u64 1] := Blk.new Wl _ _
      have h8 := h6.to ((Chg.refl [] Wl).alloc (.cells #[.int .i64 0, .int .u64 0, .int .u64 2, .bool true, .int .i64 3, .int .i64 0, .int .i64 0, .bool false, .int .u64 0, .int .u64 1000, .int .i64 0, .int .i64 0, .int .u64 1] 74))
      have HB8 := Lib.hid hb8
      have H8 := Lib.hid h8
      have hn8 : Hid (Wl.heap.size ∉ FF) := fun hm => by have := (h6.lt _ hm).2; omega
      clear hb8 h8 h6 hbb
      go_wp2_with fail
      go_meet
      exact ⟨Wl.heap.size, ⟨0, 0, 2, true, ⟨3, 0, 0, false, 0, 1000, 0⟩⟩, 0, 1, rfl, HB8.out, H8.out, hn8, HCR.out.2.2.2.2.2.2.2.2.2.2.2.1⟩
    · clear hk
      have q0 := hbb.at (i := 156) rfl
      have q1 := hbb.at (i := 157) rfl
      have q2 := hbb.at (i := 158) rfl
      have q3 := hbb.at (i := 159) rfl
      have q4 := hbb.at (i := 160) rfl
      have q5 := hbb.at (i := 161) rfl
      have q6 := hbb.at (i := 162) rfl
      have q7 := hbb.at (i := 163) rfl
      have q8 := hbb.at (i := 164) rfl
      have q9 := hbb.at (i := 165) rfl
      have q10 := hbb.at (i := 166) rfl
      have q11 := hbb.at (i := 167) rfl
      have q12 := hbb.at (i := 168) rfl
      have hb8 : Blk (Wl.alloc (.cells #[.int .i64 0, .int .u64 0, .int .u64 2, .bool true, .int .i64 4, .int .i64 0, .int .i64 0, .bool false, .int .u64 0, .int .u64 1, .int .i64 0, .int .i64 7, .int .u64 2] 74)) Wl.heap.size 74 [.int .i64 0, .int .u64 0, .int .u64 2, .bool true, .int .i64 4, .int .i64 0, .int .i64 0, .bool false, .int .u64 0, .int .u64 1, .int .i64 0, .int .i64 7, .int .u64 2] := Blk.new Wl _ _
      have h8 := h6.to ((Chg.refl [] Wl).alloc (.cells #[.int .i64 0, .int .u64 0, .int .u64 2, .bool true, .int .i64 4, .int .i64 0, .int .i64 0, .bool false, .int .u64 0, .int .u64 1, .int .i64 0, .int .i64 7, .int .u64 2] 74))
      have HB8 := Lib.hid hb8
      have H8 := Lib.hid h8
      have hn8 : Hid (Wl.heap.size ∉ FF) := fun hm => by have := (h6.lt _ hm).2; omega
      clear hb8 h8 h6 hbb
      go_wp2_with fail
      go_meet
      exact ⟨Wl.heap.size, ⟨0, 0, 2, true, ⟨4, 0, 0, false, 0, 1, 0⟩⟩, 7, 2, rfl, HB8.out, H8.out, hn8, HCR.out.2.2.2.2.2.2.2.2.2.2.2.2.1⟩
    · clear hk
      have q0 := hbb.at (i := 169) rfl
      have q1 := hbb.at (i := 170) rfl
      have q2 := hbb.at (i := 171) rfl
      have q3 := hbb.at (i := 172) rfl
      have q4 := hbb.at (i := 173) rfl
      have q5 := hbb.at (i := 174) rfl
      have q6 := hbb.at (i := 175) rfl
      have q7 := hbb.at (i := 176) rfl
      have q8 := hbb.at (i := 177) rfl
      have q9 := hbb.at (i := 178) rfl
      have q10 := hbb.at (i := 179) rfl
      have q11 := hbb.at (i := 180) rfl
      have q12 := hbb.at (i := 181) rfl
      have hb8 : Blk (Wl.alloc (.cells #[.int .i64 0, .int .u64 0, .int .u64 2, .bool true, .int .i64 5, .int .i64 0, .int .i64 0, .bool true, .int .u64 500, .int .u64 2, .int .i64 0, .int .i64 5, .int .u64 2] 74)) Wl.heap.size 74 [.int .i64 0, .int .u64 0, .int .u64 2, .bool true, .int .i64 5, .int .i64 0, .int .i64 0, .bool true, .int .u64 500, .int .u64 2, .int .i64 0, .int .i64 5, .int .u64 2] := Blk.new Wl _ _
      have h8 := h6.to ((Chg.refl [] Wl).alloc (.cells #[.int .i64 0, .int .u64 0, .int .u64 2, .bool true, .int .i64 5, .int .i64 0, .int .i64 0, .bool true, .int .u64 500, .int .u64 2, .int .i64 0, .int .i64 5, .int .u64 2] 74))
      have HB8 := Lib.hid hb8
      have H8 := Lib.hid h8
      have hn8 : Hid (Wl.heap.size ∉ FF) := fun hm => by have := (h6.lt _ hm).2; omega
      clear hb8 h8 h6 hbb
      go_wp2_with fail
      go_meet
      exact ⟨Wl.heap.size, ⟨0, 0, 2, true, ⟨5, 0, 0, true, 500, 2, 0⟩⟩, 5, 2, rfl, HB8.out, H8.out, hn8, HCR.out.2.2.2.2.2.2.2.2.2.2.2.2.2.1⟩
    · clear hk
      have q0 := hbb.at (i := 182) rfl
      have q1 := hbb.at (i := 183) rfl
      have q2 := hbb.at (i := 184) rfl
      have q3 := hbb.at (i := 185) rfl
      have q4 := hbb.at (i := 186) rfl
      have q5 := hbb.at (i := 187) rfl
      have q6 := hbb.at (i := 188) rfl
      have q7 := hbb.at (i := 189) rfl
      have q8 := hbb.at (i := 190) rfl
      have q9 := hbb.at (i := 191) rfl
      have q10 := hbb.at (i := 192) rfl
      have q11 := hbb.at (i := 193) rfl
      have q12 := hbb.at (i := 194) rfl
      have hb8 : Blk (Wl.alloc (.cells #[.int .i64 0, .int .u64 0, .int .u64 2, .bool true, .int .i64 5, .int .i64 0, .int .i64 0, .bool true, .int .u64 6, .int .u64 2, .int .i64 0, .int .i64 0, .int .u64 1] 74)) Wl.heap.size 74 [.int .i64 0, .int .u64 0, .int .u64 2, .bool true, .int .i64 5, .int .i64 0, .int .i64 0, .bool true, .int .u64 6, .int .u64 2, .int .i64 0, .int .i64 0, .int .u64 1] := Blk.new Wl _ _
      have h8 := h6.to ((Chg.refl [] Wl).alloc (.cells #[.int .i64 0, .int .u64 0, .int .u64 2, .bool true, .int .i64 5, .int .i64 0, .int .i64 0, .bool true, .int .u64 6, .int .u64 2, .int .i64 0, .int .i64 0, .int .u64 1] 74))
      have HB8 := Lib.hid hb8
      have H8 := Lib.hid h8
      have hn8 : Hid (Wl.heap.size ∉ FF) := fun hm => by have := (h6.lt _ hm).2; omega
      clear hb8 h8 h6 hbb
      go_wp2_with fail
      go_meet
      exact ⟨Wl.heap.size, ⟨0, 0, 2, true, ⟨5, 0, 0, true, 6, 2, 0⟩⟩, 0, 1, rfl, HB8.out, H8.out, hn8, HCR.out.2.2.2.2.2.2.2.2.2.2.2.2.2.2.1⟩
    · clear hk
      have q0 := hbb.at (i := 195) rfl
      have q1 := hbb.at (i := 196) rfl
      have q2 := hbb.at (i := 197) rfl
      have q3 := hbb.at (i := 198) rfl
      have q4 := hbb.at (i := 199) rfl
      have q5 := hbb.at (i := 200) rfl
      have q6 := hbb.at (i := 201) rfl
      have q7 := hbb.at (i := 202) rfl
      have q8 := hbb.at (i := 203) rfl
      have q9 := hbb.at (i := 204) rfl
      have q10 := hbb.at (i := 205) rfl
      have q11 := hbb.at (i := 206) rfl
      have q12 := hbb.at (i := 207) rfl
      have hb8 : Blk (Wl.alloc (.cells #[.int .i64 0, .int .u64 0, .int .u64 2, .bool true, .int .i64 6, .int .i64 0, .int .i64 0, .bool false, .int .u64 0, .int .u64 0, .int .i64 1, .int .i64 8, .int .u64 2] 74)) Wl.heap.size 74 [.int .i64 0, .int .u64 0, .int .u64 2, .bool true, .int .i64 6, .int .i64 0, .int .i64 0, .bool false, .int .u64 0, .int .u64 0, .int .i64 1, .int .i64 8, .int .u64 2] := Blk.new Wl _ _
      have h8 := h6.to ((Chg.refl [] Wl).alloc (.cells #[.int .i64 0, .int .u64 0, .int .u64 2, .bool true, .int .i64 6, .int .i64 0, .int .i64 0, .bool false, .int .u64 0, .int .u64 0, .int .i64 1, .int .i64 8, .int .u64 2] 74))
      have HB8 := Lib.hid hb8
      have H8 := Lib.hid h8
      have hn8 : Hid (Wl.heap.size ∉ FF) := fun hm => by have := (h6.lt _ hm).2; omega
      clear hb8 h8 h6 hbb
      go_wp2_with fail
      go_meet
      exact ⟨Wl.heap.size, ⟨0, 0, 2, true, ⟨6, 0, 0, false, 0, 0, 1⟩⟩, 8, 2, rfl, HB8.out, H8.out, hn8, HCR.out.2.2.2.2.2.2.2.2.2.2.2.2.2.2.2⟩
  case rest =>
    clear h6 hbb hk HCR
    obtain ⟨g8, e, cd, pd, rfl, hb, h, hg8', HRW⟩ := hcut
    obtain ⟨hok, S2, r, hlaw⟩ := HRW
    obtain ⟨rc, rp, ri, T⟩ := r
    obtain ⟨hdo, e1, e2, hl⟩ := hlaw
    dsimp only at e1 e2
    rw [e1, e2] at hdo
    have HL : Hid (lDo 2 ((lDo 2 (LS1 2) ⟨1, 0, 0, true, ⟨4, 0, 0, false, 5, 10, 0⟩⟩).1) e = (S2, ⟨cd, pd, ri, T⟩) ∧ cd = cd ∧ pd = pd ∧ lNextV 2 S2 0 = (if e.client = 0 ∧ cd ≠ 2 ∧ cd ≠ 3 then 1 else 0) ∧ lNextV 2 S2 1 = 1 ∧ S2.got = pd) := ⟨hdo, rfl, rfl, hl⟩
    have HOK := Lib.hid hok
    clear hdo e1 e2 hl hok
    have hg8 := Lib.hid hg8'.out
    clear hg8'
    have z0 := hb.at (i := 0) rfl
    have z1 := hb.at (i := 1) rfl
    have z2 := hb.at (i := 2) rfl
    have z3 := hb.at (i := 3) rfl
    have z4 := hb.at (i := 4) rfl
    have z5 := hb.at (i := 5) rfl
    have z6 := hb.at (i := 6) rfl
    have z7 := hb.at (i := 7) rfl
    have z8 := hb.at (i := 8) rfl
    have z9 := hb.at (i := 9) rfl
    have z10 := hb.at (i := 10) rfl
    have z11 := hb.at (i := 11) rfl
    have z12 := hb.at (i := 12) rfl
    obtain ⟨nT, hnT⟩ : ∃ k, T.length = k := ⟨_, rfl⟩
    have HNT := Lib.hid hnT
    clear hnT
    go_wp2_with fail
    refine (lxDo h (by omega) e HOK.out S2 ⟨cd, pd, ri, T⟩ HL.out.1).mono ?_
    dsimp only
    rw [HNT.out]
    rintro y v2 ⟨a2, d2, F2, rfl, -, k3, c3, -⟩
    have hb2 := (hb.chg c3 hg8.out).alloc (.cells #[.int .i64 cd, .int .u64 pd, .int .i64 ri, .slice a2 nT d2] 68)
    have B2 : Blk (v2.alloc (.cells #[.int .i64 cd, .int .u64 pd, .int .i64 ri, .slice a2 nT d2] 68)) v2.heap.size 68 [.int .i64 cd, .int .u64 pd, .int .i64 ri, .slice a2 nT d2] := Blk.new v2 _ _
    have h3 := k3.to ((Chg.refl [] v2).alloc (.cells #[.int .i64 cd, .int .u64 pd, .int .i64 ri, .slice a2 nT d2] 68))
    clear h k3 c3 hb z0 z1 z2 z3 z4 z5 z6 z7 z8 z9 z10 z11 z12
    go_upto_region 8 with (fail)
    generalize v2.heap.size = b2 at *
    generalize v2.alloc _ = W3 at *
    have x0 := B2.at (i := 0) rfl
    have x1 := B2.at (i := 1) rfl
    have z0 := hb2.at (i := 0) rfl
    have z11 := hb2.at (i := 11) rfl
    have z12 := hb2.at (i := 12) rfl
    clear B2 hb2
    by_cases hc0 : e.client = 0
    · have b0 : (e.client == 0) = true := by simp [hc0]
      by_cases hc2 : cd = 2
      · have b2' : (cd != 2) = false := by simp [hc2]
        have HCS := Lib.hid hc2
        clear hc2 hc0
        have H0 : Hid (lNextV 2 S2 0 = 0) := by show _ = _; rw [HL.out.2.2.2.1]; simp [HCS.out]
        go_upto_region 11 with (fail)
        refine codes_last (by intro c a d v w h; cases d <;> exact h) (Lib.hid h3) H0 (Lib.hid HL.out.2.2.2.2.1) (Lib.hid HL.out.2.2.2.2.2) x0 x1 z11 z12 ?_
        intro w9 c9
        intros
        have h9 := h3.to c9
        clear h3 c9 x0 x1 z0 z11 z12
        go_wp2_with fail
        go_ret
        exact ⟨rfl, h9.c.below⟩
      · have b2' : (cd != 2) = true := by simp [hc2]
        by_cases hc3 : cd = 3
        · have b3' : (cd != 3) = false := by simp [hc3]
          have HCS := Lib.hid hc3
          clear hc2 hc0 hc3
          have H0 : Hid (lNextV 2 S2 0 = 0) := by show _ = _; rw [HL.out.2.2.2.1]; simp [HCS.out]
          go_upto_region 11 with (fail)
          refine codes_last (by intro c a d v w h; cases d <;> exact h) (Lib.hid h3) H0 (Lib.hid HL.out.2.2.2.2.1) (Lib.hid HL.out.2.2.2.2.2) x0 x1 z11 z12 ?_
          intro w9 c9
          intros
          have h9 := h3.to c9
          clear h3 c9 x0 x1 z0 z11 z12
          go_wp2_with fail
          go_ret
          exact ⟨rfl, h9.c.below⟩
        · have b3' : (cd != 3) = true := by simp [hc3]
          have HCS := Lib.hid (And.intro hc0 (And.intro hc2 hc3))
          clear hc2 hc0 hc3
          have H0 : Hid (lNextV 2 S2 0 = 1) := by show _ = _; rw [HL.out.2.2.2.1]; simp [HCS.out]
          go_upto_region 11 with (fail)
          refine codes_last (by intro c a d v w h; cases d <;> exact h) (Lib.hid h3) H0 (Lib.hid HL.out.2.2.2.2.1) (Lib.hid HL.out.2.2.2.2.2) x0 x1 z11 z12 ?_
          intro w9 c9
          intros
          have h9 := h3.to c9
          clear h3 c9 x0 x1 z0 z11 z12
          go_wp2_with fail
          go_ret
          exact ⟨rfl, h9.c.below⟩
    · have b0 : (e.client == 0) = false := by simp [hc0]
      have HCS := Lib.hid hc0
      clear hc0
      have H0 : Hid (lNextV 2 S2 0 = 0) := by show _ = _; rw [HL.out.2.2.2.1]; simp [HCS.out]
      go_upto_region 11 with (fail)
      refine codes_last (by intro c a d v w h; cases d <;> exact h) (Lib.hid h3) H0 (Lib.hid HL.out.2.2.2.2.1) (Lib.hid HL.out.2.2.2.2.2) x0 x1 z11 z12 ?_
      intro w9 c9
      intros
      have h9 := h3.to c9
      clear h3 c9 x0 x1 z0 z11 z12
      go_wp2_with fail
      go_ret
      exact ⟨rfl, h9.c.below⟩
end Go.Proofs.Yteabcpmpcbjicaa
