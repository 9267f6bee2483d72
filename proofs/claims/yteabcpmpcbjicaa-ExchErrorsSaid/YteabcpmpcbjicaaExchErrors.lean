
import Derived.Test.YteabcpmpcbjicaaAwake10
import Derived.Test.YteabcpmpcbjicaaShell
import Derived.Deep.CutBlock
import Derived.BigQuiet
namespace Go.Proofs.Yteabcpmpcbjicaa
set_option linter.unusedVariables false
open Go Go.Proofs Go.RowKit
attribute [local go_sem ↓] Go.wp_at_zero Go.wp_at_succ

theorem tmod12x (a : Int) : (bits BinOp.and IntKind.i64 a 255).tmod 12 = 0 ∨ (bits BinOp.and IntKind.i64 a 255).tmod 12 = 1 ∨ (bits BinOp.and IntKind.i64 a 255).tmod 12 = 2 ∨ (bits BinOp.and IntKind.i64 a 255).tmod 12 = 3 ∨ (bits BinOp.and IntKind.i64 a 255).tmod 12 = 4 ∨ (bits BinOp.and IntKind.i64 a 255).tmod 12 = 5 ∨ (bits BinOp.and IntKind.i64 a 255).tmod 12 = 6 ∨ (bits BinOp.and IntKind.i64 a 255).tmod 12 = 7 ∨ (bits BinOp.and IntKind.i64 a 255).tmod 12 = 8 ∨ (bits BinOp.and IntKind.i64 a 255).tmod 12 = 9 ∨ (bits BinOp.and IntKind.i64 a 255).tmod 12 = 10 ∨ (bits BinOp.and IntKind.i64 a 255).tmod 12 = 11 := by
  have h0 : 0 ≤ bits BinOp.and IntKind.i64 a 255 := and255_nonneg a
  have h1 := Int.tmod_nonneg 12 h0
  have h2 := Int.tmod_lt_of_pos (bits BinOp.and IntKind.i64 a 255) (show (0 : Int) < 12 by omega)
  omega
/-- A row of what is asked by hand, with what comes of it. -/
structure ERow (c : Int) (b : Bool) (p q e : Int) : Prop where
  hc : I c
  hp : U p
  hq : U q
  he : mtE 1 [100, 100] c b p q = e
  hz : e = 0 → (c = 0 ∧ ((b = true ∧ p = 10 ∧ q = 10) ∨ (b = false ∧ p = 1048576 ∧ q = 100)))

set_option maxRecDepth 100000 in
set_option maxHeartbeats 8000000 in
theorem exerrors_walk (a : Int) (now : Bool) (w : World) :
    Calls Try.prog 11 #[.int .i64 a, .bool now] w fun e w' => e = .returned (.bool true) ∧ Below w.heap.size w w' := by
  have hk := Lib.hid (tmod12x a)
  go_enter Try.func11, Try.ntmps11
  go_wp2_with fail
  refine (new_is 1 1 [0, 0] w (by decide) (by decide)).mono ?_
  rintro e wa ⟨ab, s, rfl, ha1, c1, ls, lb⟩
  go_wp2_with fail
  refine (put_is ha1 0 1 100 0 [0, 100] ⟨by omega, by omega⟩ (by decide) (by decide)).mono ?_
  rintro e wb ⟨rfl, ha2, c2⟩
  go_wp2_with fail
  refine (put_is ha2 0 0 100 0 [100, 100] ⟨by omega, by omega⟩ (by decide) (by decide)).mono ?_
  rintro e wc ⟨rfl, ha3, c3⟩
  have hc3 : Chg [] w wc := (c1.trans' c2 (fun z hz => .inr (by simp at hz; omega))).trans' c3 (fun z hz => .inr (by simp at hz; omega))
  clear ha1 ha2 c1 c2 c3
  go_wp2_with fail
  refine (exNew ha3 hc3 lb ls).mono ?_
  rintro e w4 ⟨x, kb, FF, rfl, h4⟩
  clear ha3 hc3
  go_upto_region 10 with (fail)
  have h6 := h4.to ((Chg.refl [] w4).alloc (.cells #[.int .i64 (-1), .bool true, .int .u64 0, .int .u64 0, .int .i64 2, .int .i64 1, .bool false, .int .u64 1, .int .u64 1, .int .i64 2, .int .i64 0, .bool true, .int .u64 0, .int .u64 1, .int .i64 6, .int .i64 0, .bool true, .int .u64 1, .int .u64 0, .int .i64 6, .int .i64 0, .bool false, .int .u64 2097152, .int .u64 1, .int .i64 6, .int .i64 0, .bool false, .int .u64 1, .int .u64 1048577, .int .i64 6, .int .i64 0, .bool true, .int .u64 10, .int .u64 10, .int .i64 0, .int .i64 0, .bool true, .int .u64 10, .int .u64 11, .int .i64 4, .int .i64 0, .bool true, .int .u64 1048576, .int .u64 1048576, .int .i64 4, .int .i64 0, .bool false, .int .u64 1048576, .int .u64 100, .int .i64 0, .int .i64 0, .bool false, .int .u64 1, .int .u64 101, .int .i64 4, .int .i64 0, .bool true, .int .u64 18446744073709551615, .int .u64 18446744073709551615, .int .i64 6] 87))
  have hbb : Blk (w4.alloc (.cells #[.int .i64 (-1), .bool true, .int .u64 0, .int .u64 0, .int .i64 2, .int .i64 1, .bool false, .int .u64 1, .int .u64 1, .int .i64 2, .int .i64 0, .bool true, .int .u64 0, .int .u64 1, .int .i64 6, .int .i64 0, .bool true, .int .u64 1, .int .u64 0, .int .i64 6, .int .i64 0, .bool false, .int .u64 2097152, .int .u64 1, .int .i64 6, .int .i64 0, .bool false, .int .u64 1, .int .u64 1048577, .int .i64 6, .int .i64 0, .bool true, .int .u64 10, .int .u64 10, .int .i64 0, .int .i64 0, .bool true, .int .u64 10, .int .u64 11, .int .i64 4, .int .i64 0, .bool true, .int .u64 1048576, .int .u64 1048576, .int .i64 4, .int .i64 0, .bool false, .int .u64 1048576, .int .u64 100, .int .i64 0, .int .i64 0, .bool false, .int .u64 1, .int .u64 101, .int .i64 4, .int .i64 0, .bool true, .int .u64 18446744073709551615, .int .u64 18446744073709551615, .int .i64 6] 87)) w4.heap.size 87 [.int .i64 (-1), .bool true, .int .u64 0, .int .u64 0, .int .i64 2, .int .i64 1, .bool false, .int .u64 1, .int .u64 1, .int .i64 2, .int .i64 0, .bool true, .int .u64 0, .int .u64 1, .int .i64 6, .int .i64 0, .bool true, .int .u64 1, .int .u64 0, .int .i64 6, .int .i64 0, .bool false, .int .u64 2097152, .int .u64 1, .int .i64 6, .int .i64 0, .bool false, .int .u64 1, .int .u64 1048577, .int .i64 6, .int .i64 0, .bool true, .int .u64 10, .int .u64 10, .int .i64 0, .int .i64 0, .bool true, .int .u64 10, .int .u64 11, .int .i64 4, .int .i64 0, .bool true, .int .u64 1048576, .int .u64 1048576, .int .i64 4, .int .i64 0, .bool false, .int .u64 1048576, .int .u64 100, .int .i64 0, .int .i64 0, .bool false, .int .u64 1, .int .u64 101, .int .i64 4, .int .i64 0, .bool true, .int .u64 18446744073709551615, .int .u64 18446744073709551615, .int .i64 6] := Blk.new w4 _ _
  clear h4
  generalize w4.heap.size = gb at *
  generalize w4.alloc _ = Wl at *
  go_cut [8] from 34 to 41 (fun v wx => ∃ (g8 : Nat) (c : Int) (b : Bool) (p q e : Int), v = .pointer (some ⟨g8, 0, none⟩) ∧ Blk wx g8 87 [.int .i64 c, .bool b, .int .u64 p, .int .u64 q, .int .i64 e] ∧ Exc w wx x ab s kb 1 FF [100, 100] [] [] 0 ∧ Hid (g8 ∉ x :: s :: FF) ∧ ERow c b p q e)
  case first =>
    rcases hk.out with h | h | h | h | h | h | h | h | h | h | h | h
    · clear hk
      have q0 := hbb.at (i := 0) rfl
      have q1 := hbb.at (i := 1) rfl
      have q2 := hbb.at (i := 2) rfl
      have q3 := hbb.at (i := 3) rfl
      have q4 := hbb.at (i := 4) rfl
      have hb8 : Blk ((Wl).alloc (.cells #[.int .i64 (-1), .bool true, .int .u64 0, .int .u64 0, .int .i64 2] 87)) Wl.heap.size 87 [.int .i64 (-1), .bool true, .int .u64 0, .int .u64 0, .int .i64 2] := Blk.new Wl _ _
      have h8 := h6.to ((Chg.refl [] Wl).alloc (.cells #[.int .i64 (-1), .bool true, .int .u64 0, .int .u64 0, .int .i64 2] 87))
      have HB8 := Lib.hid hb8
      have H8 := Lib.hid h8
      have hn8 : Hid (Wl.heap.size ∉ x :: s :: FF) := by
        obtain ⟨z1, z2, z3, z4, z5⟩ := h6.lt
        show ¬ _
        simp
        exact ⟨by omega, by omega, fun hm => by have := z5 _ hm; omega⟩
      clear hb8 h8 h6 hbb
      go_wp2_with fail
      go_meet
      exact ⟨Wl.heap.size, (-1), true, 0, 0, 2, rfl, HB8.out, H8.out, hn8, ⟨⟨by omega, by omega⟩, ⟨by omega, by omega⟩, ⟨by omega, by omega⟩, by decide, by simp⟩⟩
    · clear hk
      have q0 := hbb.at (i := 5) rfl
      have q1 := hbb.at (i := 6) rfl
      have q2 := hbb.at (i := 7) rfl
      have q3 := hbb.at (i := 8) rfl
      have q4 := hbb.at (i := 9) rfl
      have hb8 : Blk ((Wl).alloc (.cells #[.int .i64 1, .bool false, .int .u64 1, .int .u64 1, .int .i64 2] 87)) Wl.heap.size 87 [.int .i64 1, .bool false, .int .u64 1, .int .u64 1, .int .i64 2] := Blk.new Wl _ _
      have h8 := h6.to ((Chg.refl [] Wl).alloc (.cells #[.int .i64 1, .bool false, .int .u64 1, .int .u64 1, .int .i64 2] 87))
      have HB8 := Lib.hid hb8
      have H8 := Lib.hid h8
      have hn8 : Hid (Wl.heap.size ∉ x :: s :: FF) := by
        obtain ⟨z1, z2, z3, z4, z5⟩ := h6.lt
        show ¬ _
        simp
        exact ⟨by omega, by omega, fun hm => by have := z5 _ hm; omega⟩
      clear hb8 h8 h6 hbb
      go_wp2_with fail
      go_meet
      exact ⟨Wl.heap.size, 1, false, 1, 1, 2, rfl, HB8.out, H8.out, hn8, ⟨⟨by omega, by omega⟩, ⟨by omega, by omega⟩, ⟨by omega, by omega⟩, by decide, by simp⟩⟩
    · clear hk
      have q0 := hbb.at (i := 10) rfl
      have q1 := hbb.at (i := 11) rfl
      have q2 := hbb.at (i := 12) rfl
      have q3 := hbb.at (i := 13) rfl
      have q4 := hbb.at (i := 14) rfl
      have hb8 : Blk ((Wl).alloc (.cells #[.int .i64 0, .bool true, .int .u64 0, .int .u64 1, .int .i64 6] 87)) Wl.heap.size 87 [.int .i64 0, .bool true, .int .u64 0, .int .u64 1, .int .i64 6] := Blk.new Wl _ _
      have h8 := h6.to ((Chg.refl [] Wl).alloc (.cells #[.int .i64 0, .bool true, .int .u64 0, .int .u64 1, .int .i64 6] 87))
      have HB8 := Lib.hid hb8
      have H8 := Lib.hid h8
      have hn8 : Hid (Wl.heap.size ∉ x :: s :: FF) := by
        obtain ⟨z1, z2, z3, z4, z5⟩ := h6.lt
        show ¬ _
        simp
        exact ⟨by omega, by omega, fun hm => by have := z5 _ hm; omega⟩
      clear hb8 h8 h6 hbb
      go_wp2_with fail
      go_meet
      exact ⟨Wl.heap.size, 0, true, 0, 1, 6, rfl, HB8.out, H8.out, hn8, ⟨⟨by omega, by omega⟩, ⟨by omega, by omega⟩, ⟨by omega, by omega⟩, by decide, by simp⟩⟩
    · clear hk
      have q0 := hbb.at (i := 15) rfl
      have q1 := hbb.at (i := 16) rfl
      have q2 := hbb.at (i := 17) rfl
      have q3 := hbb.at (i := 18) rfl
      have q4 := hbb.at (i := 19) rfl
      have hb8 : Blk ((Wl).alloc (.cells #[.int .i64 0, .bool true, .int .u64 1, .int .u64 0, .int .i64 6] 87)) Wl.heap.size 87 [.int .i64 0, .bool true, .int .u64 1, .int .u64 0, .int .i64 6] := Blk.new Wl _ _
      have h8 := h6.to ((Chg.refl [] Wl).alloc (.cells #[.int .i64 0, .bool true, .int .u64 1, .int .u64 0, .int .i64 6] 87))
      have HB8 := Lib.hid hb8
      have H8 := Lib.hid h8
      have hn8 : Hid (Wl.heap.size ∉ x :: s :: FF) := by
        obtain ⟨z1, z2, z3, z4, z5⟩ := h6.lt
        show ¬ _
        simp
        exact ⟨by omega, by omega, fun hm => by have := z5 _ hm; omega⟩
      clear hb8 h8 h6 hbb
      go_wp2_with fail
      go_meet
      exact ⟨Wl.heap.size, 0, true, 1, 0, 6, rfl, HB8.out, H8.out, hn8, ⟨⟨by omega, by omega⟩, ⟨by omega, by omega⟩, ⟨by omega, by omega⟩, by decide, by simp⟩⟩
    · clear hk
      have q0 := hbb.at (i := 20) rfl
      have q1 := hbb.at (i := 21) rfl
      have q2 := hbb.at (i := 22) rfl
      have q3 := hbb.at (i := 23) rfl
      have q4 := hbb.at (i := 24) rfl
      have hb8 : Blk ((Wl).alloc (.cells #[.int .i64 0, .bool false, .int .u64 2097152, .int .u64 1, .int .i64 6] 87)) Wl.heap.size 87 [.int .i64 0, .bool false, .int .u64 2097152, .int .u64 1, .int .i64 6] := Blk.new Wl _ _
      have h8 := h6.to ((Chg.refl [] Wl).alloc (.cells #[.int .i64 0, .bool false, .int .u64 2097152, .int .u64 1, .int .i64 6] 87))
      have HB8 := Lib.hid hb8
      have H8 := Lib.hid h8
      have hn8 : Hid (Wl.heap.size ∉ x :: s :: FF) := by
        obtain ⟨z1, z2, z3, z4, z5⟩ := h6.lt
        show ¬ _
        simp
        exact ⟨by omega, by omega, fun hm => by have := z5 _ hm; omega⟩
      clear hb8 h8 h6 hbb
      go_wp2_with fail
      go_meet
      exact ⟨Wl.heap.size, 0, false, 2097152, 1, 6, rfl, HB8.out, H8.out, hn8, ⟨⟨by omega, by omega⟩, ⟨by omega, by omega⟩, ⟨by omega, by omega⟩, by decide, by simp⟩⟩
    · clear hk
      have q0 := hbb.at (i := 25) rfl
      have q1 := hbb.at (i := 26) rfl
      have q2 := hbb.at (i := 27) rfl
      have q3 := hbb.at (i := 28) rfl
      have q4 := hbb.at (i := 29) rfl
      have hb8 : Blk ((Wl).alloc (.cells #[.int .i64 0, .bool false, .int .u64 1, .int .u64 1048577, .int .i64 6] 87)) Wl.heap.size 87 [.int .i64 0, .bool false, .int .u64 1, .int .u64 1048577, .int .i64 6] := Blk.new Wl _ _
      have h8 := h6.to ((Chg.refl [] Wl).alloc (.cells #[.int .i64 0, .bool false, .int .u64 1, .int .u64 1048577, .int .i64 6] 87))
      have HB8 := Lib.hid hb8
      have H8 := Lib.hid h8
      have hn8 : Hid (Wl.heap.size ∉ x :: s :: FF) := by
        obtain ⟨z1, z2, z3, z4, z5⟩ := h6.lt
        show ¬ _
        simp
        exact ⟨by omega, by omega, fun hm => by have := z5 _ hm; omega⟩
      clear hb8 h8 h6 hbb
      go_wp2_with fail
      go_meet
      exact ⟨Wl.heap.size, 0, false, 1, 1048577, 6, rfl, HB8.out, H8.out, hn8, ⟨⟨by omega, by omega⟩, ⟨by omega, by omega⟩, ⟨by omega, by omega⟩, by decide, by simp⟩⟩
    · clear hk
      have q0 := hbb.at (i := 30) rfl
      have q1 := hbb.at (i := 31) rfl
      have q2 := hbb.at (i := 32) rfl
      have q3 := hbb.at (i := 33) rfl
      have q4 := hbb.at (i := 34) rfl
      have hb8 : Blk ((Wl).alloc (.cells #[.int .i64 0, .bool true, .int .u64 10, .int .u64 10, .int .i64 0] 87)) Wl.heap.size 87 [.int .i64 0, .bool true, .int .u64 10, .int .u64 10, .int .i64 0] := Blk.new Wl _ _
      have h8 := h6.to ((Chg.refl [] Wl).alloc (.cells #[.int .i64 0, .bool true, .int .u64 10, .int .u64 10, .int .i64 0] 87))
      have HB8 := Lib.hid hb8
      have H8 := Lib.hid h8
      have hn8 : Hid (Wl.heap.size ∉ x :: s :: FF) := by
        obtain ⟨z1, z2, z3, z4, z5⟩ := h6.lt
        show ¬ _
        simp
        exact ⟨by omega, by omega, fun hm => by have := z5 _ hm; omega⟩
      clear hb8 h8 h6 hbb
      go_wp2_with fail
      go_meet
      exact ⟨Wl.heap.size, 0, true, 10, 10, 0, rfl, HB8.out, H8.out, hn8, ⟨⟨by omega, by omega⟩, ⟨by omega, by omega⟩, ⟨by omega, by omega⟩, by decide, by simp⟩⟩
    · clear hk
      have q0 := hbb.at (i := 35) rfl
      have q1 := hbb.at (i := 36) rfl
      have q2 := hbb.at (i := 37) rfl
      have q3 := hbb.at (i := 38) rfl
      have q4 := hbb.at (i := 39) rfl
      have hb8 : Blk ((Wl).alloc (.cells #[.int .i64 0, .bool true, .int .u64 10, .int .u64 11, .int .i64 4] 87)) Wl.heap.size 87 [.int .i64 0, .bool true, .int .u64 10, .int .u64 11, .int .i64 4] := Blk.new Wl _ _
      have h8 := h6.to ((Chg.refl [] Wl).alloc (.cells #[.int .i64 0, .bool true, .int .u64 10, .int .u64 11, .int .i64 4] 87))
      have HB8 := Lib.hid hb8
      have H8 := Lib.hid h8
      have hn8 : Hid (Wl.heap.size ∉ x :: s :: FF) := by
        obtain ⟨z1, z2, z3, z4, z5⟩ := h6.lt
        show ¬ _
        simp
        exact ⟨by omega, by omega, fun hm => by have := z5 _ hm; omega⟩
      clear hb8 h8 h6 hbb
      go_wp2_with fail
      go_meet
      exact ⟨Wl.heap.size, 0, true, 10, 11, 4, rfl, HB8.out, H8.out, hn8, ⟨⟨by omega, by omega⟩, ⟨by omega, by omega⟩, ⟨by omega, by omega⟩, by decide, by simp⟩⟩
    · clear hk
      have q0 := hbb.at (i := 40) rfl
      have q1 := hbb.at (i := 41) rfl
      have q2 := hbb.at (i := 42) rfl
      have q3 := hbb.at (i := 43) rfl
      have q4 := hbb.at (i := 44) rfl
      have hb8 : Blk ((Wl).alloc (.cells #[.int .i64 0, .bool true, .int .u64 1048576, .int .u64 1048576, .int .i64 4] 87)) Wl.heap.size 87 [.int .i64 0, .bool true, .int .u64 1048576, .int .u64 1048576, .int .i64 4] := Blk.new Wl _ _
      have h8 := h6.to ((Chg.refl [] Wl).alloc (.cells #[.int .i64 0, .bool true, .int .u64 1048576, .int .u64 1048576, .int .i64 4] 87))
      have HB8 := Lib.hid hb8
      have H8 := Lib.hid h8
      have hn8 : Hid (Wl.heap.size ∉ x :: s :: FF) := by
        obtain ⟨z1, z2, z3, z4, z5⟩ := h6.lt
        show ¬ _
        simp
        exact ⟨by omega, by omega, fun hm => by have := z5 _ hm; omega⟩
      clear hb8 h8 h6 hbb
      go_wp2_with fail
      go_meet
      exact ⟨Wl.heap.size, 0, true, 1048576, 1048576, 4, rfl, HB8.out, H8.out, hn8, ⟨⟨by omega, by omega⟩, ⟨by omega, by omega⟩, ⟨by omega, by omega⟩, by decide, by simp⟩⟩
    · clear hk
      have q0 := hbb.at (i := 45) rfl
      have q1 := hbb.at (i := 46) rfl
      have q2 := hbb.at (i := 47) rfl
      have q3 := hbb.at (i := 48) rfl
      have q4 := hbb.at (i := 49) rfl
      have hb8 : Blk ((Wl).alloc (.cells #[.int .i64 0, .bool false, .int .u64 1048576, .int .u64 100, .int .i64 0] 87)) Wl.heap.size 87 [.int .i64 0, .bool false, .int .u64 1048576, .int .u64 100, .int .i64 0] := Blk.new Wl _ _
      have h8 := h6.to ((Chg.refl [] Wl).alloc (.cells #[.int .i64 0, .bool false, .int .u64 1048576, .int .u64 100, .int .i64 0] 87))
      have HB8 := Lib.hid hb8
      have H8 := Lib.hid h8
      have hn8 : Hid (Wl.heap.size ∉ x :: s :: FF) := by
        obtain ⟨z1, z2, z3, z4, z5⟩ := h6.lt
        show ¬ _
        simp
        exact ⟨by omega, by omega, fun hm => by have := z5 _ hm; omega⟩
      clear hb8 h8 h6 hbb
      go_wp2_with fail
      go_meet
      exact ⟨Wl.heap.size, 0, false, 1048576, 100, 0, rfl, HB8.out, H8.out, hn8, ⟨⟨by omega, by omega⟩, ⟨by omega, by omega⟩, ⟨by omega, by omega⟩, by decide, by simp⟩⟩
    · clear hk
      have q0 := hbb.at (i := 50) rfl
      have q1 := hbb.at (i := 51) rfl
      have q2 := hbb.at (i := 52) rfl
      have q3 := hbb.at (i := 53) rfl
      have q4 := hbb.at (i := 54) rfl
      have hb8 : Blk ((Wl).alloc (.cells #[.int .i64 0, .bool false, .int .u64 1, .int .u64 101, .int .i64 4] 87)) Wl.heap.size 87 [.int .i64 0, .bool false, .int .u64 1, .int .u64 101, .int .i64 4] := Blk.new Wl _ _
      have h8 := h6.to ((Chg.refl [] Wl).alloc (.cells #[.int .i64 0, .bool false, .int .u64 1, .int .u64 101, .int .i64 4] 87))
      have HB8 := Lib.hid hb8
      have H8 := Lib.hid h8
      have hn8 : Hid (Wl.heap.size ∉ x :: s :: FF) := by
        obtain ⟨z1, z2, z3, z4, z5⟩ := h6.lt
        show ¬ _
        simp
        exact ⟨by omega, by omega, fun hm => by have := z5 _ hm; omega⟩
      clear hb8 h8 h6 hbb
      go_wp2_with fail
      go_meet
      exact ⟨Wl.heap.size, 0, false, 1, 101, 4, rfl, HB8.out, H8.out, hn8, ⟨⟨by omega, by omega⟩, ⟨by omega, by omega⟩, ⟨by omega, by omega⟩, by decide, by simp⟩⟩
    · clear hk
      have q0 := hbb.at (i := 55) rfl
      have q1 := hbb.at (i := 56) rfl
      have q2 := hbb.at (i := 57) rfl
      have q3 := hbb.at (i := 58) rfl
      have q4 := hbb.at (i := 59) rfl
      have hb8 : Blk ((Wl).alloc (.cells #[.int .i64 0, .bool true, .int .u64 18446744073709551615, .int .u64 18446744073709551615, .int .i64 6] 87)) Wl.heap.size 87 [.int .i64 0, .bool true, .int .u64 18446744073709551615, .int .u64 18446744073709551615, .int .i64 6] := Blk.new Wl _ _
      have h8 := h6.to ((Chg.refl [] Wl).alloc (.cells #[.int .i64 0, .bool true, .int .u64 18446744073709551615, .int .u64 18446744073709551615, .int .i64 6] 87))
      have HB8 := Lib.hid hb8
      have H8 := Lib.hid h8
      have hn8 : Hid (Wl.heap.size ∉ x :: s :: FF) := by
        obtain ⟨z1, z2, z3, z4, z5⟩ := h6.lt
        show ¬ _
        simp
        exact ⟨by omega, by omega, fun hm => by have := z5 _ hm; omega⟩
      clear hb8 h8 h6 hbb
      go_wp2_with fail
      go_meet
      exact ⟨Wl.heap.size, 0, true, 18446744073709551615, 18446744073709551615, 6, rfl, HB8.out, H8.out, hn8, ⟨⟨by omega, by omega⟩, ⟨by omega, by omega⟩, ⟨by omega, by omega⟩, by decide, by simp⟩⟩
  case rest =>
    clear h6 hbb hk
    obtain ⟨g8, c, b, p, q, e, rfl, hb, h, hg8', HRW⟩ := hcut
    have HRW := Lib.hid HRW
    have hg8 := hg8'.out
    have z0 := hb.at (i := 0) rfl
    have z1 := hb.at (i := 1) rfl
    have z2 := hb.at (i := 2) rfl
    have z3 := hb.at (i := 3) rfl
    have z4 := hb.at (i := 4) rfl
    cases now
    · by_cases he : e = 0
      · obtain ⟨rfl, hz⟩ := HRW.out.hz he
        rcases hz with ⟨rfl, rfl, rfl⟩ | ⟨rfl, rfl, rfl⟩
        · subst he
          clear HRW
          go_wp2_with fail
          refine (limit_yes h (by omega) 0 true 10 10 ⟨by omega, by omega⟩ ⟨by omega, by omega⟩ ⟨by omega, by omega⟩ (by decide) [100, 0] [100, 0] [] 10 [] [] (by decide) (by decide) (by decide) (by decide) (by decide)).mono ?_
          rintro e w5 ⟨a5, d5, rfl, -, F5, h5, c5, -, -⟩
          have e5 : (restL ⟨((0 : Nat) : Int) + 1, 0, true, 10, 10⟩ [], restM ⟨((0 : Nat) : Int) + 1, 0, true, 10, 10⟩ []) = ([(⟨1, 0, true, 10, 10⟩ : Ord)], ([] : List Ord)) := by decide
          obtain ⟨e51, e52⟩ := Prod.mk.inj e5
          rw [e51, e52] at h5
          simp only [List.length_nil]
          have y4 := c5.cell z4 hg8
          clear h c5 e5 e51 e52 z0 z1 z2 z3 z4 hb
          go_wp2_with fail
          refine (locked_any h5 (by omega) 0 0 0 (by decide)).mono ?_
          rintro e w12 ⟨rfl, c12⟩
          have h12 := h5.to c12
          have y4' := c12.cell y4 (by simp)
          clear h5 c12 y4
          go_wp2_with fail
          refine (locked_any h12 (by omega) 0 1 100 (by decide)).mono ?_
          rintro e w13 ⟨rfl, c13⟩
          have h13 := h12.to c13
          clear h12 c13
          go_wp2_with fail
          refine (free_is h13.a 0 0 100 (by decide)).mono ?_
          rintro e w14 ⟨rfl, rfl⟩
          go_wp2_with fail
          refine (locked_any h13 (by omega) 0 0 0 (by decide)).mono ?_
          rintro e w15 ⟨rfl, c15⟩
          have h15 := h13.to c15
          clear h13 c15
          go_wp2_with fail
          refine (free_is h15.a 0 1 0 (by decide)).mono ?_
          rintro e w16 ⟨rfl, rfl⟩
          go_wp2_with fail
          refine (locked_any h15 (by omega) 0 1 100 (by decide)).mono ?_
          rintro e w17 ⟨rfl, c17⟩
          have h17 := h15.to c17
          clear h15 c17
          go_wp2_with fail
          refine (awake10 _).mono ?_
          rintro e w18 ⟨rfl, c18⟩
          go_wp2_with fail
          go_ret
          exact ⟨rfl, (h17.b.c.trans c18).below⟩
        · subst he
          clear HRW
          go_wp2_with fail
          refine (limit_yes h (by omega) 0 false 1048576 100 ⟨by omega, by omega⟩ ⟨by omega, by omega⟩ ⟨by omega, by omega⟩ (by decide) [0, 100] [0, 100] [] 100 [] [] (by decide) (by decide) (by decide) (by decide) (by decide)).mono ?_
          rintro e w5 ⟨a5, d5, rfl, -, F5, h5, c5, -, -⟩
          have e5 : (restL ⟨((0 : Nat) : Int) + 1, 0, false, 1048576, 100⟩ [], restM ⟨((0 : Nat) : Int) + 1, 0, false, 1048576, 100⟩ []) = (([] : List Ord), [(⟨1, 0, false, 1048576, 100⟩ : Ord)]) := by decide
          obtain ⟨e51, e52⟩ := Prod.mk.inj e5
          rw [e51, e52] at h5
          simp only [List.length_nil]
          have y4 := c5.cell z4 hg8
          clear h c5 e5 e51 e52 z0 z1 z2 z3 z4 hb
          go_wp2_with fail
          refine (locked_any h5 (by omega) 0 0 100 (by decide)).mono ?_
          rintro e w12 ⟨rfl, c12⟩
          have h12 := h5.to c12
          have y4' := c12.cell y4 (by simp)
          clear h5 c12 y4
          go_wp2_with fail
          refine (locked_any h12 (by omega) 0 1 0 (by decide)).mono ?_
          rintro e w13 ⟨rfl, c13⟩
          have h13 := h12.to c13
          clear h12 c13
          go_wp2_with fail
          refine (free_is h13.a 0 0 0 (by decide)).mono ?_
          rintro e w14 ⟨rfl, rfl⟩
          go_wp2_with fail
          refine (locked_any h13 (by omega) 0 0 100 (by decide)).mono ?_
          rintro e w15 ⟨rfl, c15⟩
          have h15 := h13.to c15
          clear h13 c15
          go_wp2_with fail
          refine (free_is h15.a 0 1 100 (by decide)).mono ?_
          rintro e w16 ⟨rfl, rfl⟩
          go_wp2_with fail
          refine (locked_any h15 (by omega) 0 1 0 (by decide)).mono ?_
          rintro e w17 ⟨rfl, c17⟩
          have h17 := h15.to c17
          clear h15 c17
          go_wp2_with fail
          refine (awake10 _).mono ?_
          rintro e w18 ⟨rfl, c18⟩
          go_wp2_with fail
          go_ret
          exact ⟨rfl, (h17.b.c.trans c18).below⟩
      · go_wp2_with fail
        refine (limit_no h (by omega) c b p q HRW.out.hp HRW.out.hq HRW.out.hc e HRW.out.he he).mono ?_
        rintro e5 w5 ⟨rfl, h5, c5⟩
        have y4 := c5.cell z4 (fun hm => hg8 (by simp at hm; simp [hm]))
        have d1 : decide (e = 0) = false := by simp; exact he
        have d2 : (e == 0) = false := by simp; exact he
        clear h c5 z0 z1 z2 z3 z4 hb he
        go_wp2_with fail
        refine (locked_any h5 (by omega) 0 0 0 (by decide)).mono ?_
        rintro e w12 ⟨rfl, c12⟩
        have h12 := h5.to c12
        have y4' := c12.cell y4 (by simp)
        clear h5 c12 y4
        go_wp2_with fail
        refine (locked_any h12 (by omega) 0 1 0 (by decide)).mono ?_
        rintro e w13 ⟨rfl, c13⟩
        have h13 := h12.to c13
        clear h12 c13
        go_wp2_with fail
        refine (free_is h13.a 0 0 100 (by decide)).mono ?_
        rintro e w14 ⟨rfl, rfl⟩
        go_wp2_with fail
        refine (locked_any h13 (by omega) 0 0 0 (by decide)).mono ?_
        rintro e w15 ⟨rfl, c15⟩
        have h15 := h13.to c15
        clear h13 c15
        go_wp2_with fail
        refine (free_is h15.a 0 1 100 (by decide)).mono ?_
        rintro e w16 ⟨rfl, rfl⟩
        go_wp2_with fail
        refine (locked_any h15 (by omega) 0 1 0 (by decide)).mono ?_
        rintro e w17 ⟨rfl, c17⟩
        have h17 := h15.to c17
        clear h15 c17
        go_wp2_with fail
        refine (awake10 _).mono ?_
        rintro e w18 ⟨rfl, c18⟩
        go_wp2_with fail
        go_ret
        exact ⟨rfl, (h17.b.c.trans c18).below⟩
    · by_cases he : e = 0
      · obtain ⟨rfl, hz⟩ := HRW.out.hz he
        rcases hz with ⟨rfl, rfl, rfl⟩ | ⟨rfl, rfl, rfl⟩
        · subst he
          clear HRW
          go_wp2_with fail
          refine (now_yes h (by omega) 0 true 10 10 ⟨by omega, by omega⟩ ⟨by omega, by omega⟩ ⟨by omega, by omega⟩ (by decide) [100, 0] [100, 0] [] 10 [] [] (by decide) (by decide) (by decide) (by decide) (by decide)).mono ?_
          rintro e w5 ⟨a5, d5, rfl, -, h5, c5⟩
          have e5 : aPut 1 [100, 0] 0 (lockA ⟨((0 : Nat) : Int) + 1, 0, true, 10, 10⟩) (lockN ⟨((0 : Nat) : Int) + 1, 0, true, 10, 10⟩) = [100, 100] := by decide
          rw [e5] at h5
          simp only [List.length_nil]
          have y4 := c5.cell z4 hg8
          clear h c5 e5 z0 z1 z2 z3 z4 hb
          go_wp2_with fail
          refine (locked_any h5 (by omega) 0 0 0 (by decide)).mono ?_
          rintro e w12 ⟨rfl, c12⟩
          have h12 := h5.to c12
          have y4' := c12.cell y4 (by simp)
          clear h5 c12 y4
          go_wp2_with fail
          refine (locked_any h12 (by omega) 0 1 0 (by decide)).mono ?_
          rintro e w13 ⟨rfl, c13⟩
          have h13 := h12.to c13
          clear h12 c13
          go_wp2_with fail
          refine (free_is h13.a 0 0 100 (by decide)).mono ?_
          rintro e w14 ⟨rfl, rfl⟩
          go_wp2_with fail
          refine (locked_any h13 (by omega) 0 0 0 (by decide)).mono ?_
          rintro e w15 ⟨rfl, c15⟩
          have h15 := h13.to c15
          clear h13 c15
          go_wp2_with fail
          refine (free_is h15.a 0 1 100 (by decide)).mono ?_
          rintro e w16 ⟨rfl, rfl⟩
          go_wp2_with fail
          refine (locked_any h15 (by omega) 0 1 0 (by decide)).mono ?_
          rintro e w17 ⟨rfl, c17⟩
          have h17 := h15.to c17
          clear h15 c17
          go_wp2_with fail
          refine (awake10 _).mono ?_
          rintro e w18 ⟨rfl, c18⟩
          go_wp2_with fail
          go_ret
          exact ⟨rfl, (h17.b.c.trans c18).below⟩
        · subst he
          clear HRW
          go_wp2_with fail
          refine (now_yes h (by omega) 0 false 1048576 100 ⟨by omega, by omega⟩ ⟨by omega, by omega⟩ ⟨by omega, by omega⟩ (by decide) [0, 100] [0, 100] [] 100 [] [] (by decide) (by decide) (by decide) (by decide) (by decide)).mono ?_
          rintro e w5 ⟨a5, d5, rfl, -, h5, c5⟩
          have e5 : aPut 1 [0, 100] 0 (lockA ⟨((0 : Nat) : Int) + 1, 0, false, 1048576, 100⟩) (lockN ⟨((0 : Nat) : Int) + 1, 0, false, 1048576, 100⟩) = [100, 100] := by decide
          rw [e5] at h5
          simp only [List.length_nil]
          have y4 := c5.cell z4 hg8
          clear h c5 e5 z0 z1 z2 z3 z4 hb
          go_wp2_with fail
          refine (locked_any h5 (by omega) 0 0 0 (by decide)).mono ?_
          rintro e w12 ⟨rfl, c12⟩
          have h12 := h5.to c12
          have y4' := c12.cell y4 (by simp)
          clear h5 c12 y4
          go_wp2_with fail
          refine (locked_any h12 (by omega) 0 1 0 (by decide)).mono ?_
          rintro e w13 ⟨rfl, c13⟩
          have h13 := h12.to c13
          clear h12 c13
          go_wp2_with fail
          refine (free_is h13.a 0 0 100 (by decide)).mono ?_
          rintro e w14 ⟨rfl, rfl⟩
          go_wp2_with fail
          refine (locked_any h13 (by omega) 0 0 0 (by decide)).mono ?_
          rintro e w15 ⟨rfl, c15⟩
          have h15 := h13.to c15
          clear h13 c15
          go_wp2_with fail
          refine (free_is h15.a 0 1 100 (by decide)).mono ?_
          rintro e w16 ⟨rfl, rfl⟩
          go_wp2_with fail
          refine (locked_any h15 (by omega) 0 1 0 (by decide)).mono ?_
          rintro e w17 ⟨rfl, c17⟩
          have h17 := h15.to c17
          clear h15 c17
          go_wp2_with fail
          refine (awake10 _).mono ?_
          rintro e w18 ⟨rfl, c18⟩
          go_wp2_with fail
          go_ret
          exact ⟨rfl, (h17.b.c.trans c18).below⟩
      · go_wp2_with fail
        refine (now_no h (by omega) c b p q HRW.out.hp HRW.out.hq HRW.out.hc e HRW.out.he he).mono ?_
        rintro e5 w5 ⟨rfl, h5, c5⟩
        have y4 := c5.cell z4 (fun hm => hg8 (by simp at hm; simp [hm]))
        have d1 : decide (e = 0) = false := by simp; exact he
        have d2 : (e == 0) = false := by simp; exact he
        clear h c5 z0 z1 z2 z3 z4 hb he
        go_wp2_with fail
        refine (locked_any h5 (by omega) 0 0 0 (by decide)).mono ?_
        rintro e w12 ⟨rfl, c12⟩
        have h12 := h5.to c12
        have y4' := c12.cell y4 (by simp)
        clear h5 c12 y4
        go_wp2_with fail
        refine (locked_any h12 (by omega) 0 1 0 (by decide)).mono ?_
        rintro e w13 ⟨rfl, c13⟩
        have h13 := h12.to c13
        clear h12 c13
        go_wp2_with fail
        refine (free_is h13.a 0 0 100 (by decide)).mono ?_
        rintro e w14 ⟨rfl, rfl⟩
        go_wp2_with fail
        refine (locked_any h13 (by omega) 0 0 0 (by decide)).mono ?_
        rintro e w15 ⟨rfl, c15⟩
        have h15 := h13.to c15
        clear h13 c15
        go_wp2_with fail
        refine (free_is h15.a 0 1 100 (by decide)).mono ?_
        rintro e w16 ⟨rfl, rfl⟩
        go_wp2_with fail
        refine (locked_any h15 (by omega) 0 1 0 (by decide)).mono ?_
        rintro e w17 ⟨rfl, c17⟩
        have h17 := h15.to c17
        clear h15 c17
        go_wp2_with fail
        refine (awake10 _).mono ?_
        rintro e w18 ⟨rfl, c18⟩
        go_wp2_with fail
        go_ret
        exact ⟨rfl, (h17.b.c.trans c18).below⟩
end Go.Proofs.Yteabcpmpcbjicaa
