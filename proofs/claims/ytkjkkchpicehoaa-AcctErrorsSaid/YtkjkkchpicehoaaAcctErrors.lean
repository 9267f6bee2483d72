import Derived.Test.YtkjkkchpicehoaaAcct5
import Derived.Deep.CutBlock
namespace Go.Proofs.Ytkjkkchpicehoaa
set_option linter.unusedVariables false
open Go Go.Proofs Go.RowKit

theorem tmod12 (a : Int) : (bits BinOp.and IntKind.i64 a 255).tmod 12 = 0 ∨ (bits BinOp.and IntKind.i64 a 255).tmod 12 = 1 ∨ (bits BinOp.and IntKind.i64 a 255).tmod 12 = 2 ∨ (bits BinOp.and IntKind.i64 a 255).tmod 12 = 3 ∨ (bits BinOp.and IntKind.i64 a 255).tmod 12 = 4 ∨ (bits BinOp.and IntKind.i64 a 255).tmod 12 = 5 ∨ (bits BinOp.and IntKind.i64 a 255).tmod 12 = 6 ∨ (bits BinOp.and IntKind.i64 a 255).tmod 12 = 7 ∨ (bits BinOp.and IntKind.i64 a 255).tmod 12 = 8 ∨ (bits BinOp.and IntKind.i64 a 255).tmod 12 = 9 ∨ (bits BinOp.and IntKind.i64 a 255).tmod 12 = 10 ∨ (bits BinOp.and IntKind.i64 a 255).tmod 12 = 11 := by
  have h0 : 0 ≤ bits BinOp.and IntKind.i64 a 255 := and255_nonneg a
  have h1 := Int.tmod_nonneg 12 h0
  have h2 := Int.tmod_lt_of_pos (bits BinOp.and IntKind.i64 a 255) (show (0 : Int) < 12 by omega)
  omega

set_option maxRecDepth 100000 in
set_option maxHeartbeats 4000000 in
theorem errors_walk (a : Int) (w : World) :
    Calls Try.prog 8 #[.int .i64 a] w fun e w' => e = .returned (.bool true) ∧ Below w.heap.size w w' := by
  have hk := Lib.hid (tmod12 a)
  go_enter Try.func8, Try.ntmps8
  go_wp2_with fail
  refine (new_is 2 2 [0, 0, 0, 0] _ (by decide) (by decide)).mono ?_
  rintro e w1 ⟨b, s, rfl, h1, c1, g1, g2⟩
  go_wp2_with fail
  refine (put_is h1 1 1 7 0 [0, 0, 0, 7] ⟨by omega, by omega⟩ (by decide) (by decide)).mono ?_
  rintro e w2 ⟨rfl, h2, c2⟩
  have hlt := h2.lt
  go_upto_region 6 with (fail)
  rcases hk.out with h | h | h | h | h | h | h | h | h | h | h | h
  all_goals clear hk
  · go_wp2_with fail
    refine (put_is ((h2.alloc _).alloc _) (-1) 9 0 2 [0, 0, 0, 7] ⟨by omega, by omega⟩ (by decide) (by decide)).mono ?_
    rintro e w3 ⟨rfl, h3, c3⟩
    have xw30 : w3.cell? ⟨w2.heap.size + 1, 0, none⟩ = some (.bool false) := c3.cell (last_cell _ _ _ (by simp) rfl) (by simp; omega)
    have xw31 : w3.cell? ⟨w2.heap.size + 1, 1, none⟩ = some (.int .i64 (-1)) := c3.cell (last_cell _ _ _ (by simp) rfl) (by simp; omega)
    have xw32 : w3.cell? ⟨w2.heap.size + 1, 2, none⟩ = some (.int .i64 9) := c3.cell (last_cell _ _ _ (by simp) rfl) (by simp; omega)
    have xw33 : w3.cell? ⟨w2.heap.size + 1, 3, none⟩ = some (.int .u64 1) := c3.cell (last_cell _ _ _ (by simp) rfl) (by simp; omega)
    have xw34 : w3.cell? ⟨w2.heap.size + 1, 4, none⟩ = some (.int .i64 2) := c3.cell (last_cell _ _ _ (by simp) rfl) (by simp; omega)
    have hc3 : Chg [] w w3 := ((((c1.trans' c2 (by simpa using g1)).alloc _).alloc _).trans' c3 (by simpa using g1))
    go_wp2_with fail
    refine (put_is h3 (-1) 9 1 2 [0, 0, 0, 7] ⟨by omega, by omega⟩ (by decide) (by decide)).mono ?_
    rintro e w4 ⟨rfl, h4, c4⟩
    have y0 := c4.cell xw30 (by simp; omega)
    have y1 := c4.cell xw31 (by simp; omega)
    have y2 := c4.cell xw32 (by simp; omega)
    have y3 := c4.cell xw33 (by simp; omega)
    have y4 := c4.cell xw34 (by simp; omega)
    have hc4 : Chg [] w w4 := hc3.trans' c4 (by simpa using g1)
    clear c3 c4
    go_wp2_with fail
    refine (sumA_is h4 1 7 true (by decide) (by decide)).mono ?_
    rintro e w5 ⟨rfl, c5⟩
    have z0 := c5.cell y0 (by simp)
    have z1 := c5.cell y1 (by simp)
    have z2 := c5.cell y2 (by simp)
    have z3 := c5.cell y3 (by simp)
    have z4 := c5.cell y4 (by simp)
    have h5 := h4.chg c5 (by simp) (by simp)
    go_wp2_with fail
    refine (sumA_is h5 2 0 false (by decide) (by decide)).mono ?_
    rintro e w6 ⟨rfl, c6⟩
    have q0 := c6.cell z0 (by simp)
    have q1 := c6.cell z1 (by simp)
    have q2 := c6.cell z2 (by simp)
    have q3 := c6.cell z3 (by simp)
    have q4 := c6.cell z4 (by simp)
    have hc6 : Chg [] w w6 := (hc4.trans c5).trans c6
    go_wp2_with fail
    refine (awake6 _).mono ?_
    rintro e w' ⟨rfl, hw⟩
    go_wp2_with fail
    go_ret
    exact ⟨rfl, hc6.below.trans (hw.mono hc6.size)⟩
  · go_wp2_with fail
    refine (put_is ((h2.alloc _).alloc _) 2 0 0 2 [0, 0, 0, 7] ⟨by omega, by omega⟩ (by decide) (by decide)).mono ?_
    rintro e w3 ⟨rfl, h3, c3⟩
    have xw30 : w3.cell? ⟨w2.heap.size + 1, 0, none⟩ = some (.bool false) := c3.cell (last_cell _ _ _ (by simp) rfl) (by simp; omega)
    have xw31 : w3.cell? ⟨w2.heap.size + 1, 1, none⟩ = some (.int .i64 2) := c3.cell (last_cell _ _ _ (by simp) rfl) (by simp; omega)
    have xw32 : w3.cell? ⟨w2.heap.size + 1, 2, none⟩ = some (.int .i64 0) := c3.cell (last_cell _ _ _ (by simp) rfl) (by simp; omega)
    have xw33 : w3.cell? ⟨w2.heap.size + 1, 3, none⟩ = some (.int .u64 1) := c3.cell (last_cell _ _ _ (by simp) rfl) (by simp; omega)
    have xw34 : w3.cell? ⟨w2.heap.size + 1, 4, none⟩ = some (.int .i64 2) := c3.cell (last_cell _ _ _ (by simp) rfl) (by simp; omega)
    have hc3 : Chg [] w w3 := ((((c1.trans' c2 (by simpa using g1)).alloc _).alloc _).trans' c3 (by simpa using g1))
    go_wp2_with fail
    refine (put_is h3 2 0 1 2 [0, 0, 0, 7] ⟨by omega, by omega⟩ (by decide) (by decide)).mono ?_
    rintro e w4 ⟨rfl, h4, c4⟩
    have y0 := c4.cell xw30 (by simp; omega)
    have y1 := c4.cell xw31 (by simp; omega)
    have y2 := c4.cell xw32 (by simp; omega)
    have y3 := c4.cell xw33 (by simp; omega)
    have y4 := c4.cell xw34 (by simp; omega)
    have hc4 : Chg [] w w4 := hc3.trans' c4 (by simpa using g1)
    clear c3 c4
    go_wp2_with fail
    refine (sumA_is h4 1 7 true (by decide) (by decide)).mono ?_
    rintro e w5 ⟨rfl, c5⟩
    have z0 := c5.cell y0 (by simp)
    have z1 := c5.cell y1 (by simp)
    have z2 := c5.cell y2 (by simp)
    have z3 := c5.cell y3 (by simp)
    have z4 := c5.cell y4 (by simp)
    have h5 := h4.chg c5 (by simp) (by simp)
    go_wp2_with fail
    refine (sumA_is h5 2 0 false (by decide) (by decide)).mono ?_
    rintro e w6 ⟨rfl, c6⟩
    have q0 := c6.cell z0 (by simp)
    have q1 := c6.cell z1 (by simp)
    have q2 := c6.cell z2 (by simp)
    have q3 := c6.cell z3 (by simp)
    have q4 := c6.cell z4 (by simp)
    have hc6 : Chg [] w w6 := (hc4.trans c5).trans c6
    go_wp2_with fail
    refine (awake6 _).mono ?_
    rintro e w' ⟨rfl, hw⟩
    go_wp2_with fail
    go_ret
    exact ⟨rfl, hc6.below.trans (hw.mono hc6.size)⟩
  · go_wp2_with fail
    refine (put_is ((h2.alloc _).alloc _) 1 (-1) 0 3 [0, 0, 0, 7] ⟨by omega, by omega⟩ (by decide) (by decide)).mono ?_
    rintro e w3 ⟨rfl, h3, c3⟩
    have xw30 : w3.cell? ⟨w2.heap.size + 1, 0, none⟩ = some (.bool false) := c3.cell (last_cell _ _ _ (by simp) rfl) (by simp; omega)
    have xw31 : w3.cell? ⟨w2.heap.size + 1, 1, none⟩ = some (.int .i64 1) := c3.cell (last_cell _ _ _ (by simp) rfl) (by simp; omega)
    have xw32 : w3.cell? ⟨w2.heap.size + 1, 2, none⟩ = some (.int .i64 (-1)) := c3.cell (last_cell _ _ _ (by simp) rfl) (by simp; omega)
    have xw33 : w3.cell? ⟨w2.heap.size + 1, 3, none⟩ = some (.int .u64 1) := c3.cell (last_cell _ _ _ (by simp) rfl) (by simp; omega)
    have xw34 : w3.cell? ⟨w2.heap.size + 1, 4, none⟩ = some (.int .i64 3) := c3.cell (last_cell _ _ _ (by simp) rfl) (by simp; omega)
    have hc3 : Chg [] w w3 := ((((c1.trans' c2 (by simpa using g1)).alloc _).alloc _).trans' c3 (by simpa using g1))
    go_wp2_with fail
    refine (put_is h3 1 (-1) 1 3 [0, 0, 0, 7] ⟨by omega, by omega⟩ (by decide) (by decide)).mono ?_
    rintro e w4 ⟨rfl, h4, c4⟩
    have y0 := c4.cell xw30 (by simp; omega)
    have y1 := c4.cell xw31 (by simp; omega)
    have y2 := c4.cell xw32 (by simp; omega)
    have y3 := c4.cell xw33 (by simp; omega)
    have y4 := c4.cell xw34 (by simp; omega)
    have hc4 : Chg [] w w4 := hc3.trans' c4 (by simpa using g1)
    clear c3 c4
    go_wp2_with fail
    refine (sumA_is h4 1 7 true (by decide) (by decide)).mono ?_
    rintro e w5 ⟨rfl, c5⟩
    have z0 := c5.cell y0 (by simp)
    have z1 := c5.cell y1 (by simp)
    have z2 := c5.cell y2 (by simp)
    have z3 := c5.cell y3 (by simp)
    have z4 := c5.cell y4 (by simp)
    have h5 := h4.chg c5 (by simp) (by simp)
    go_wp2_with fail
    refine (sumA_is h5 2 0 false (by decide) (by decide)).mono ?_
    rintro e w6 ⟨rfl, c6⟩
    have q0 := c6.cell z0 (by simp)
    have q1 := c6.cell z1 (by simp)
    have q2 := c6.cell z2 (by simp)
    have q3 := c6.cell z3 (by simp)
    have q4 := c6.cell z4 (by simp)
    have hc6 : Chg [] w w6 := (hc4.trans c5).trans c6
    go_wp2_with fail
    refine (awake6 _).mono ?_
    rintro e w' ⟨rfl, hw⟩
    go_wp2_with fail
    go_ret
    exact ⟨rfl, hc6.below.trans (hw.mono hc6.size)⟩
  · go_wp2_with fail
    refine (put_is ((h2.alloc _).alloc _) 1 2 0 3 [0, 0, 0, 7] ⟨by omega, by omega⟩ (by decide) (by decide)).mono ?_
    rintro e w3 ⟨rfl, h3, c3⟩
    have xw30 : w3.cell? ⟨w2.heap.size + 1, 0, none⟩ = some (.bool false) := c3.cell (last_cell _ _ _ (by simp) rfl) (by simp; omega)
    have xw31 : w3.cell? ⟨w2.heap.size + 1, 1, none⟩ = some (.int .i64 1) := c3.cell (last_cell _ _ _ (by simp) rfl) (by simp; omega)
    have xw32 : w3.cell? ⟨w2.heap.size + 1, 2, none⟩ = some (.int .i64 2) := c3.cell (last_cell _ _ _ (by simp) rfl) (by simp; omega)
    have xw33 : w3.cell? ⟨w2.heap.size + 1, 3, none⟩ = some (.int .u64 1) := c3.cell (last_cell _ _ _ (by simp) rfl) (by simp; omega)
    have xw34 : w3.cell? ⟨w2.heap.size + 1, 4, none⟩ = some (.int .i64 3) := c3.cell (last_cell _ _ _ (by simp) rfl) (by simp; omega)
    have hc3 : Chg [] w w3 := ((((c1.trans' c2 (by simpa using g1)).alloc _).alloc _).trans' c3 (by simpa using g1))
    go_wp2_with fail
    refine (put_is h3 1 2 1 3 [0, 0, 0, 7] ⟨by omega, by omega⟩ (by decide) (by decide)).mono ?_
    rintro e w4 ⟨rfl, h4, c4⟩
    have y0 := c4.cell xw30 (by simp; omega)
    have y1 := c4.cell xw31 (by simp; omega)
    have y2 := c4.cell xw32 (by simp; omega)
    have y3 := c4.cell xw33 (by simp; omega)
    have y4 := c4.cell xw34 (by simp; omega)
    have hc4 : Chg [] w w4 := hc3.trans' c4 (by simpa using g1)
    clear c3 c4
    go_wp2_with fail
    refine (sumA_is h4 1 7 true (by decide) (by decide)).mono ?_
    rintro e w5 ⟨rfl, c5⟩
    have z0 := c5.cell y0 (by simp)
    have z1 := c5.cell y1 (by simp)
    have z2 := c5.cell y2 (by simp)
    have z3 := c5.cell y3 (by simp)
    have z4 := c5.cell y4 (by simp)
    have h5 := h4.chg c5 (by simp) (by simp)
    go_wp2_with fail
    refine (sumA_is h5 2 0 false (by decide) (by decide)).mono ?_
    rintro e w6 ⟨rfl, c6⟩
    have q0 := c6.cell z0 (by simp)
    have q1 := c6.cell z1 (by simp)
    have q2 := c6.cell z2 (by simp)
    have q3 := c6.cell z3 (by simp)
    have q4 := c6.cell z4 (by simp)
    have hc6 : Chg [] w w6 := (hc4.trans c5).trans c6
    go_wp2_with fail
    refine (awake6 _).mono ?_
    rintro e w' ⟨rfl, hw⟩
    go_wp2_with fail
    go_ret
    exact ⟨rfl, hc6.below.trans (hw.mono hc6.size)⟩
  · go_wp2_with fail
    refine (put_is ((h2.alloc _).alloc _) 1 1 0 0 [0, 0, 0, 7] ⟨by omega, by omega⟩ (by decide) (by decide)).mono ?_
    rintro e w3 ⟨rfl, h3, c3⟩
    have xw30 : w3.cell? ⟨w2.heap.size + 1, 0, none⟩ = some (.bool false) := c3.cell (last_cell _ _ _ (by simp) rfl) (by simp; omega)
    have xw31 : w3.cell? ⟨w2.heap.size + 1, 1, none⟩ = some (.int .i64 1) := c3.cell (last_cell _ _ _ (by simp) rfl) (by simp; omega)
    have xw32 : w3.cell? ⟨w2.heap.size + 1, 2, none⟩ = some (.int .i64 1) := c3.cell (last_cell _ _ _ (by simp) rfl) (by simp; omega)
    have xw33 : w3.cell? ⟨w2.heap.size + 1, 3, none⟩ = some (.int .u64 18446744073709551608) := c3.cell (last_cell _ _ _ (by simp) rfl) (by simp; omega)
    have xw34 : w3.cell? ⟨w2.heap.size + 1, 4, none⟩ = some (.int .i64 0) := c3.cell (last_cell _ _ _ (by simp) rfl) (by simp; omega)
    have hc3 : Chg [] w w3 := ((((c1.trans' c2 (by simpa using g1)).alloc _).alloc _).trans' c3 (by simpa using g1))
    go_wp2_with fail
    refine (put_is h3 1 1 18446744073709551608 0 [0, 0, 0, 18446744073709551615] ⟨by omega, by omega⟩ (by decide) (by decide)).mono ?_
    rintro e w4 ⟨rfl, h4, c4⟩
    have y0 := c4.cell xw30 (by simp; omega)
    have y1 := c4.cell xw31 (by simp; omega)
    have y2 := c4.cell xw32 (by simp; omega)
    have y3 := c4.cell xw33 (by simp; omega)
    have y4 := c4.cell xw34 (by simp; omega)
    have hc4 : Chg [] w w4 := hc3.trans' c4 (by simpa using g1)
    clear c3 c4
    go_wp2_with fail
    refine (sumA_is h4 1 18446744073709551615 true (by decide) (by decide)).mono ?_
    rintro e w5 ⟨rfl, c5⟩
    have z0 := c5.cell y0 (by simp)
    have z1 := c5.cell y1 (by simp)
    have z2 := c5.cell y2 (by simp)
    have z3 := c5.cell y3 (by simp)
    have z4 := c5.cell y4 (by simp)
    have h5 := h4.chg c5 (by simp) (by simp)
    go_wp2_with fail
    refine (sumA_is h5 2 0 false (by decide) (by decide)).mono ?_
    rintro e w6 ⟨rfl, c6⟩
    have q0 := c6.cell z0 (by simp)
    have q1 := c6.cell z1 (by simp)
    have q2 := c6.cell z2 (by simp)
    have q3 := c6.cell z3 (by simp)
    have q4 := c6.cell z4 (by simp)
    have hc6 : Chg [] w w6 := (hc4.trans c5).trans c6
    go_wp2_with fail
    refine (awake6 _).mono ?_
    rintro e w' ⟨rfl, hw⟩
    go_wp2_with fail
    go_ret
    exact ⟨rfl, hc6.below.trans (hw.mono hc6.size)⟩
  · go_wp2_with fail
    refine (put_is ((h2.alloc _).alloc _) 1 1 0 0 [0, 0, 0, 7] ⟨by omega, by omega⟩ (by decide) (by decide)).mono ?_
    rintro e w3 ⟨rfl, h3, c3⟩
    have xw30 : w3.cell? ⟨w2.heap.size + 1, 0, none⟩ = some (.bool false) := c3.cell (last_cell _ _ _ (by simp) rfl) (by simp; omega)
    have xw31 : w3.cell? ⟨w2.heap.size + 1, 1, none⟩ = some (.int .i64 1) := c3.cell (last_cell _ _ _ (by simp) rfl) (by simp; omega)
    have xw32 : w3.cell? ⟨w2.heap.size + 1, 2, none⟩ = some (.int .i64 1) := c3.cell (last_cell _ _ _ (by simp) rfl) (by simp; omega)
    have xw33 : w3.cell? ⟨w2.heap.size + 1, 3, none⟩ = some (.int .u64 18446744073709551609) := c3.cell (last_cell _ _ _ (by simp) rfl) (by simp; omega)
    have xw34 : w3.cell? ⟨w2.heap.size + 1, 4, none⟩ = some (.int .i64 5) := c3.cell (last_cell _ _ _ (by simp) rfl) (by simp; omega)
    have hc3 : Chg [] w w3 := ((((c1.trans' c2 (by simpa using g1)).alloc _).alloc _).trans' c3 (by simpa using g1))
    go_wp2_with fail
    refine (put_is h3 1 1 18446744073709551609 5 [0, 0, 0, 7] ⟨by omega, by omega⟩ (by decide) (by decide)).mono ?_
    rintro e w4 ⟨rfl, h4, c4⟩
    have y0 := c4.cell xw30 (by simp; omega)
    have y1 := c4.cell xw31 (by simp; omega)
    have y2 := c4.cell xw32 (by simp; omega)
    have y3 := c4.cell xw33 (by simp; omega)
    have y4 := c4.cell xw34 (by simp; omega)
    have hc4 : Chg [] w w4 := hc3.trans' c4 (by simpa using g1)
    clear c3 c4
    go_wp2_with fail
    refine (sumA_is h4 1 7 true (by decide) (by decide)).mono ?_
    rintro e w5 ⟨rfl, c5⟩
    have z0 := c5.cell y0 (by simp)
    have z1 := c5.cell y1 (by simp)
    have z2 := c5.cell y2 (by simp)
    have z3 := c5.cell y3 (by simp)
    have z4 := c5.cell y4 (by simp)
    have h5 := h4.chg c5 (by simp) (by simp)
    go_wp2_with fail
    refine (sumA_is h5 2 0 false (by decide) (by decide)).mono ?_
    rintro e w6 ⟨rfl, c6⟩
    have q0 := c6.cell z0 (by simp)
    have q1 := c6.cell z1 (by simp)
    have q2 := c6.cell z2 (by simp)
    have q3 := c6.cell z3 (by simp)
    have q4 := c6.cell z4 (by simp)
    have hc6 : Chg [] w w6 := (hc4.trans c5).trans c6
    go_wp2_with fail
    refine (awake6 _).mono ?_
    rintro e w' ⟨rfl, hw⟩
    go_wp2_with fail
    go_ret
    exact ⟨rfl, hc6.below.trans (hw.mono hc6.size)⟩
  · go_wp2_with fail
    refine (put_is ((h2.alloc _).alloc _) (-1) 9 0 2 [0, 0, 0, 7] ⟨by omega, by omega⟩ (by decide) (by decide)).mono ?_
    rintro e w3 ⟨rfl, h3, c3⟩
    have xw30 : w3.cell? ⟨w2.heap.size + 1, 0, none⟩ = some (.bool true) := c3.cell (last_cell _ _ _ (by simp) rfl) (by simp; omega)
    have xw31 : w3.cell? ⟨w2.heap.size + 1, 1, none⟩ = some (.int .i64 (-1)) := c3.cell (last_cell _ _ _ (by simp) rfl) (by simp; omega)
    have xw32 : w3.cell? ⟨w2.heap.size + 1, 2, none⟩ = some (.int .i64 9) := c3.cell (last_cell _ _ _ (by simp) rfl) (by simp; omega)
    have xw33 : w3.cell? ⟨w2.heap.size + 1, 3, none⟩ = some (.int .u64 1) := c3.cell (last_cell _ _ _ (by simp) rfl) (by simp; omega)
    have xw34 : w3.cell? ⟨w2.heap.size + 1, 4, none⟩ = some (.int .i64 2) := c3.cell (last_cell _ _ _ (by simp) rfl) (by simp; omega)
    have hc3 : Chg [] w w3 := ((((c1.trans' c2 (by simpa using g1)).alloc _).alloc _).trans' c3 (by simpa using g1))
    go_wp2_with fail
    refine (take_is h3 (-1) 9 1 2 [0, 0, 0, 7] ⟨by omega, by omega⟩ (by decide) (by decide)).mono ?_
    rintro e w4 ⟨rfl, h4, c4⟩
    have y0 := c4.cell xw30 (by simp; omega)
    have y1 := c4.cell xw31 (by simp; omega)
    have y2 := c4.cell xw32 (by simp; omega)
    have y3 := c4.cell xw33 (by simp; omega)
    have y4 := c4.cell xw34 (by simp; omega)
    have hc4 : Chg [] w w4 := hc3.trans' c4 (by simpa using g1)
    clear c3 c4
    go_wp2_with fail
    refine (sumA_is h4 1 7 true (by decide) (by decide)).mono ?_
    rintro e w5 ⟨rfl, c5⟩
    have z0 := c5.cell y0 (by simp)
    have z1 := c5.cell y1 (by simp)
    have z2 := c5.cell y2 (by simp)
    have z3 := c5.cell y3 (by simp)
    have z4 := c5.cell y4 (by simp)
    have h5 := h4.chg c5 (by simp) (by simp)
    go_wp2_with fail
    refine (sumA_is h5 2 0 false (by decide) (by decide)).mono ?_
    rintro e w6 ⟨rfl, c6⟩
    have q0 := c6.cell z0 (by simp)
    have q1 := c6.cell z1 (by simp)
    have q2 := c6.cell z2 (by simp)
    have q3 := c6.cell z3 (by simp)
    have q4 := c6.cell z4 (by simp)
    have hc6 : Chg [] w w6 := (hc4.trans c5).trans c6
    go_wp2_with fail
    refine (awake6 _).mono ?_
    rintro e w' ⟨rfl, hw⟩
    go_wp2_with fail
    go_ret
    exact ⟨rfl, hc6.below.trans (hw.mono hc6.size)⟩
  · go_wp2_with fail
    refine (put_is ((h2.alloc _).alloc _) 0 2 0 3 [0, 0, 0, 7] ⟨by omega, by omega⟩ (by decide) (by decide)).mono ?_
    rintro e w3 ⟨rfl, h3, c3⟩
    have xw30 : w3.cell? ⟨w2.heap.size + 1, 0, none⟩ = some (.bool true) := c3.cell (last_cell _ _ _ (by simp) rfl) (by simp; omega)
    have xw31 : w3.cell? ⟨w2.heap.size + 1, 1, none⟩ = some (.int .i64 0) := c3.cell (last_cell _ _ _ (by simp) rfl) (by simp; omega)
    have xw32 : w3.cell? ⟨w2.heap.size + 1, 2, none⟩ = some (.int .i64 2) := c3.cell (last_cell _ _ _ (by simp) rfl) (by simp; omega)
    have xw33 : w3.cell? ⟨w2.heap.size + 1, 3, none⟩ = some (.int .u64 0) := c3.cell (last_cell _ _ _ (by simp) rfl) (by simp; omega)
    have xw34 : w3.cell? ⟨w2.heap.size + 1, 4, none⟩ = some (.int .i64 3) := c3.cell (last_cell _ _ _ (by simp) rfl) (by simp; omega)
    have hc3 : Chg [] w w3 := ((((c1.trans' c2 (by simpa using g1)).alloc _).alloc _).trans' c3 (by simpa using g1))
    go_wp2_with fail
    refine (take_is h3 0 2 0 3 [0, 0, 0, 7] ⟨by omega, by omega⟩ (by decide) (by decide)).mono ?_
    rintro e w4 ⟨rfl, h4, c4⟩
    have y0 := c4.cell xw30 (by simp; omega)
    have y1 := c4.cell xw31 (by simp; omega)
    have y2 := c4.cell xw32 (by simp; omega)
    have y3 := c4.cell xw33 (by simp; omega)
    have y4 := c4.cell xw34 (by simp; omega)
    have hc4 : Chg [] w w4 := hc3.trans' c4 (by simpa using g1)
    clear c3 c4
    go_wp2_with fail
    refine (sumA_is h4 1 7 true (by decide) (by decide)).mono ?_
    rintro e w5 ⟨rfl, c5⟩
    have z0 := c5.cell y0 (by simp)
    have z1 := c5.cell y1 (by simp)
    have z2 := c5.cell y2 (by simp)
    have z3 := c5.cell y3 (by simp)
    have z4 := c5.cell y4 (by simp)
    have h5 := h4.chg c5 (by simp) (by simp)
    go_wp2_with fail
    refine (sumA_is h5 2 0 false (by decide) (by decide)).mono ?_
    rintro e w6 ⟨rfl, c6⟩
    have q0 := c6.cell z0 (by simp)
    have q1 := c6.cell z1 (by simp)
    have q2 := c6.cell z2 (by simp)
    have q3 := c6.cell z3 (by simp)
    have q4 := c6.cell z4 (by simp)
    have hc6 : Chg [] w w6 := (hc4.trans c5).trans c6
    go_wp2_with fail
    refine (awake6 _).mono ?_
    rintro e w' ⟨rfl, hw⟩
    go_wp2_with fail
    go_ret
    exact ⟨rfl, hc6.below.trans (hw.mono hc6.size)⟩
  · go_wp2_with fail
    refine (put_is ((h2.alloc _).alloc _) 1 1 0 0 [0, 0, 0, 7] ⟨by omega, by omega⟩ (by decide) (by decide)).mono ?_
    rintro e w3 ⟨rfl, h3, c3⟩
    have xw30 : w3.cell? ⟨w2.heap.size + 1, 0, none⟩ = some (.bool true) := c3.cell (last_cell _ _ _ (by simp) rfl) (by simp; omega)
    have xw31 : w3.cell? ⟨w2.heap.size + 1, 1, none⟩ = some (.int .i64 1) := c3.cell (last_cell _ _ _ (by simp) rfl) (by simp; omega)
    have xw32 : w3.cell? ⟨w2.heap.size + 1, 2, none⟩ = some (.int .i64 1) := c3.cell (last_cell _ _ _ (by simp) rfl) (by simp; omega)
    have xw33 : w3.cell? ⟨w2.heap.size + 1, 3, none⟩ = some (.int .u64 7) := c3.cell (last_cell _ _ _ (by simp) rfl) (by simp; omega)
    have xw34 : w3.cell? ⟨w2.heap.size + 1, 4, none⟩ = some (.int .i64 0) := c3.cell (last_cell _ _ _ (by simp) rfl) (by simp; omega)
    have hc3 : Chg [] w w3 := ((((c1.trans' c2 (by simpa using g1)).alloc _).alloc _).trans' c3 (by simpa using g1))
    go_wp2_with fail
    refine (take_is h3 1 1 7 0 [0, 0, 0, 0] ⟨by omega, by omega⟩ (by decide) (by decide)).mono ?_
    rintro e w4 ⟨rfl, h4, c4⟩
    have y0 := c4.cell xw30 (by simp; omega)
    have y1 := c4.cell xw31 (by simp; omega)
    have y2 := c4.cell xw32 (by simp; omega)
    have y3 := c4.cell xw33 (by simp; omega)
    have y4 := c4.cell xw34 (by simp; omega)
    have hc4 : Chg [] w w4 := hc3.trans' c4 (by simpa using g1)
    clear c3 c4
    go_wp2_with fail
    refine (sumA_is h4 1 0 true (by decide) (by decide)).mono ?_
    rintro e w5 ⟨rfl, c5⟩
    have z0 := c5.cell y0 (by simp)
    have z1 := c5.cell y1 (by simp)
    have z2 := c5.cell y2 (by simp)
    have z3 := c5.cell y3 (by simp)
    have z4 := c5.cell y4 (by simp)
    have h5 := h4.chg c5 (by simp) (by simp)
    go_wp2_with fail
    refine (sumA_is h5 2 0 false (by decide) (by decide)).mono ?_
    rintro e w6 ⟨rfl, c6⟩
    have q0 := c6.cell z0 (by simp)
    have q1 := c6.cell z1 (by simp)
    have q2 := c6.cell z2 (by simp)
    have q3 := c6.cell z3 (by simp)
    have q4 := c6.cell z4 (by simp)
    have hc6 : Chg [] w w6 := (hc4.trans c5).trans c6
    go_wp2_with fail
    refine (awake6 _).mono ?_
    rintro e w' ⟨rfl, hw⟩
    go_wp2_with fail
    go_ret
    exact ⟨rfl, hc6.below.trans (hw.mono hc6.size)⟩
  · go_wp2_with fail
    refine (put_is ((h2.alloc _).alloc _) 1 1 0 0 [0, 0, 0, 7] ⟨by omega, by omega⟩ (by decide) (by decide)).mono ?_
    rintro e w3 ⟨rfl, h3, c3⟩
    have xw30 : w3.cell? ⟨w2.heap.size + 1, 0, none⟩ = some (.bool true) := c3.cell (last_cell _ _ _ (by simp) rfl) (by simp; omega)
    have xw31 : w3.cell? ⟨w2.heap.size + 1, 1, none⟩ = some (.int .i64 1) := c3.cell (last_cell _ _ _ (by simp) rfl) (by simp; omega)
    have xw32 : w3.cell? ⟨w2.heap.size + 1, 2, none⟩ = some (.int .i64 1) := c3.cell (last_cell _ _ _ (by simp) rfl) (by simp; omega)
    have xw33 : w3.cell? ⟨w2.heap.size + 1, 3, none⟩ = some (.int .u64 8) := c3.cell (last_cell _ _ _ (by simp) rfl) (by simp; omega)
    have xw34 : w3.cell? ⟨w2.heap.size + 1, 4, none⟩ = some (.int .i64 4) := c3.cell (last_cell _ _ _ (by simp) rfl) (by simp; omega)
    have hc3 : Chg [] w w3 := ((((c1.trans' c2 (by simpa using g1)).alloc _).alloc _).trans' c3 (by simpa using g1))
    go_wp2_with fail
    refine (take_is h3 1 1 8 4 [0, 0, 0, 7] ⟨by omega, by omega⟩ (by decide) (by decide)).mono ?_
    rintro e w4 ⟨rfl, h4, c4⟩
    have y0 := c4.cell xw30 (by simp; omega)
    have y1 := c4.cell xw31 (by simp; omega)
    have y2 := c4.cell xw32 (by simp; omega)
    have y3 := c4.cell xw33 (by simp; omega)
    have y4 := c4.cell xw34 (by simp; omega)
    have hc4 : Chg [] w w4 := hc3.trans' c4 (by simpa using g1)
    clear c3 c4
    go_wp2_with fail
    refine (sumA_is h4 1 7 true (by decide) (by decide)).mono ?_
    rintro e w5 ⟨rfl, c5⟩
    have z0 := c5.cell y0 (by simp)
    have z1 := c5.cell y1 (by simp)
    have z2 := c5.cell y2 (by simp)
    have z3 := c5.cell y3 (by simp)
    have z4 := c5.cell y4 (by simp)
    have h5 := h4.chg c5 (by simp) (by simp)
    go_wp2_with fail
    refine (sumA_is h5 2 0 false (by decide) (by decide)).mono ?_
    rintro e w6 ⟨rfl, c6⟩
    have q0 := c6.cell z0 (by simp)
    have q1 := c6.cell z1 (by simp)
    have q2 := c6.cell z2 (by simp)
    have q3 := c6.cell z3 (by simp)
    have q4 := c6.cell z4 (by simp)
    have hc6 : Chg [] w w6 := (hc4.trans c5).trans c6
    go_wp2_with fail
    refine (awake6 _).mono ?_
    rintro e w' ⟨rfl, hw⟩
    go_wp2_with fail
    go_ret
    exact ⟨rfl, hc6.below.trans (hw.mono hc6.size)⟩
  · go_wp2_with fail
    refine (put_is ((h2.alloc _).alloc _) 0 1 0 0 [0, 0, 0, 7] ⟨by omega, by omega⟩ (by decide) (by decide)).mono ?_
    rintro e w3 ⟨rfl, h3, c3⟩
    have xw30 : w3.cell? ⟨w2.heap.size + 1, 0, none⟩ = some (.bool true) := c3.cell (last_cell _ _ _ (by simp) rfl) (by simp; omega)
    have xw31 : w3.cell? ⟨w2.heap.size + 1, 1, none⟩ = some (.int .i64 0) := c3.cell (last_cell _ _ _ (by simp) rfl) (by simp; omega)
    have xw32 : w3.cell? ⟨w2.heap.size + 1, 2, none⟩ = some (.int .i64 1) := c3.cell (last_cell _ _ _ (by simp) rfl) (by simp; omega)
    have xw33 : w3.cell? ⟨w2.heap.size + 1, 3, none⟩ = some (.int .u64 0) := c3.cell (last_cell _ _ _ (by simp) rfl) (by simp; omega)
    have xw34 : w3.cell? ⟨w2.heap.size + 1, 4, none⟩ = some (.int .i64 0) := c3.cell (last_cell _ _ _ (by simp) rfl) (by simp; omega)
    have hc3 : Chg [] w w3 := ((((c1.trans' c2 (by simpa using g1)).alloc _).alloc _).trans' c3 (by simpa using g1))
    go_wp2_with fail
    refine (take_is h3 0 1 0 0 [0, 0, 0, 7] ⟨by omega, by omega⟩ (by decide) (by decide)).mono ?_
    rintro e w4 ⟨rfl, h4, c4⟩
    have y0 := c4.cell xw30 (by simp; omega)
    have y1 := c4.cell xw31 (by simp; omega)
    have y2 := c4.cell xw32 (by simp; omega)
    have y3 := c4.cell xw33 (by simp; omega)
    have y4 := c4.cell xw34 (by simp; omega)
    have hc4 : Chg [] w w4 := hc3.trans' c4 (by simpa using g1)
    clear c3 c4
    go_wp2_with fail
    refine (sumA_is h4 1 7 true (by decide) (by decide)).mono ?_
    rintro e w5 ⟨rfl, c5⟩
    have z0 := c5.cell y0 (by simp)
    have z1 := c5.cell y1 (by simp)
    have z2 := c5.cell y2 (by simp)
    have z3 := c5.cell y3 (by simp)
    have z4 := c5.cell y4 (by simp)
    have h5 := h4.chg c5 (by simp) (by simp)
    go_wp2_with fail
    refine (sumA_is h5 2 0 false (by decide) (by decide)).mono ?_
    rintro e w6 ⟨rfl, c6⟩
    have q0 := c6.cell z0 (by simp)
    have q1 := c6.cell z1 (by simp)
    have q2 := c6.cell z2 (by simp)
    have q3 := c6.cell z3 (by simp)
    have q4 := c6.cell z4 (by simp)
    have hc6 : Chg [] w w6 := (hc4.trans c5).trans c6
    go_wp2_with fail
    refine (awake6 _).mono ?_
    rintro e w' ⟨rfl, hw⟩
    go_wp2_with fail
    go_ret
    exact ⟨rfl, hc6.below.trans (hw.mono hc6.size)⟩
  · go_wp2_with fail
    refine (put_is ((h2.alloc _).alloc _) 0 1 0 0 [0, 0, 0, 7] ⟨by omega, by omega⟩ (by decide) (by decide)).mono ?_
    rintro e w3 ⟨rfl, h3, c3⟩
    have xw30 : w3.cell? ⟨w2.heap.size + 1, 0, none⟩ = some (.bool true) := c3.cell (last_cell _ _ _ (by simp) rfl) (by simp; omega)
    have xw31 : w3.cell? ⟨w2.heap.size + 1, 1, none⟩ = some (.int .i64 0) := c3.cell (last_cell _ _ _ (by simp) rfl) (by simp; omega)
    have xw32 : w3.cell? ⟨w2.heap.size + 1, 2, none⟩ = some (.int .i64 1) := c3.cell (last_cell _ _ _ (by simp) rfl) (by simp; omega)
    have xw33 : w3.cell? ⟨w2.heap.size + 1, 3, none⟩ = some (.int .u64 1) := c3.cell (last_cell _ _ _ (by simp) rfl) (by simp; omega)
    have xw34 : w3.cell? ⟨w2.heap.size + 1, 4, none⟩ = some (.int .i64 4) := c3.cell (last_cell _ _ _ (by simp) rfl) (by simp; omega)
    have hc3 : Chg [] w w3 := ((((c1.trans' c2 (by simpa using g1)).alloc _).alloc _).trans' c3 (by simpa using g1))
    go_wp2_with fail
    refine (take_is h3 0 1 1 4 [0, 0, 0, 7] ⟨by omega, by omega⟩ (by decide) (by decide)).mono ?_
    rintro e w4 ⟨rfl, h4, c4⟩
    have y0 := c4.cell xw30 (by simp; omega)
    have y1 := c4.cell xw31 (by simp; omega)
    have y2 := c4.cell xw32 (by simp; omega)
    have y3 := c4.cell xw33 (by simp; omega)
    have y4 := c4.cell xw34 (by simp; omega)
    have hc4 : Chg [] w w4 := hc3.trans' c4 (by simpa using g1)
    clear c3 c4
    go_wp2_with fail
    refine (sumA_is h4 1 7 true (by decide) (by decide)).mono ?_
    rintro e w5 ⟨rfl, c5⟩
    have z0 := c5.cell y0 (by simp)
    have z1 := c5.cell y1 (by simp)
    have z2 := c5.cell y2 (by simp)
    have z3 := c5.cell y3 (by simp)
    have z4 := c5.cell y4 (by simp)
    have h5 := h4.chg c5 (by simp) (by simp)
    go_wp2_with fail
    refine (sumA_is h5 2 0 false (by decide) (by decide)).mono ?_
    rintro e w6 ⟨rfl, c6⟩
    have q0 := c6.cell z0 (by simp)
    have q1 := c6.cell z1 (by simp)
    have q2 := c6.cell z2 (by simp)
    have q3 := c6.cell z3 (by simp)
    have q4 := c6.cell z4 (by simp)
    have hc6 : Chg [] w w6 := (hc4.trans c5).trans c6
    go_wp2_with fail
    refine (awake6 _).mono ?_
    rintro e w' ⟨rfl, hw⟩
    go_wp2_with fail
    go_ret
    exact ⟨rfl, hc6.below.trans (hw.mono hc6.size)⟩
end Go.Proofs.Ytkjkkchpicehoaa
