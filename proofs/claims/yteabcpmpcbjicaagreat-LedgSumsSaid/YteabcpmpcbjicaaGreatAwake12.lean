
import Derived.Test.YteabcpmpcbjicaaGreatLedK
namespace Go.Proofs.YteabcpmpcbjicaaGreat
set_option linter.unusedVariables false
open Go Go.Proofs Go.RowKit
attribute [local go_sem ↓] Go.wp_at_zero Go.wp_at_succ

set_option maxRecDepth 100000 in
set_option maxHeartbeats 4000000 in
theorem awake12 (w : World) : Calls Tryz.prog 36 #[] w fun e w' => e = .returned (.bool true) ∧ Chg [] w w' := by
  go_enter Tryz.func36, Tryz.ntmps36
  go_wp2_with fail
  refine (ledNew 2 (by omega) (by omega) w).mono ?_
  rintro e w1 ⟨l, F0, rfl, h0⟩
  go_wp2_with fail
  refine (lxDo h0 (by omega) ⟨0, 0, 5, true, ⟨3, 0, 1, false, 0, 10, 0⟩⟩ ⟨⟨by decide, by decide⟩, ⟨by decide, by decide⟩, ⟨by decide, by decide⟩, ⟨⟨by decide, by decide⟩, ⟨by decide, by decide⟩, ⟨by decide, by decide⟩, ⟨by decide, by decide⟩, ⟨by decide, by decide⟩, ⟨by decide, by decide⟩⟩⟩ ((lDo 2 (LS1 2) ⟨0, 0, 5, true, ⟨3, 0, 1, false, 0, 10, 0⟩⟩).1) ⟨0, 1, 0, []⟩ (by kernel_rfl)).mono ?_
  rintro y v1 ⟨a1, d1, F1, rfl, -, k1, c1, g1⟩
  simp only [List.length_nil]
  have B1 : Blk (v1.alloc (.cells #[.int .i64 0, .int .u64 1, .int .i64 0, .slice a1 0 d1] 46)) v1.heap.size 46 [.int .i64 0, .int .u64 1, .int .i64 0, .slice a1 0 d1] := Blk.new v1 _ _
  have N1 : v1.heap.size ∉ F1 := fun hm => by have := (k1.lt _ hm).2; omega
  have h1 := k1.to ((Chg.refl [] v1).alloc (.cells #[.int .i64 0, .int .u64 1, .int .i64 0, .slice a1 0 d1] 46))
  clear h0 k1 c1 g1
  go_upto_region 5 with (fail)
  have B1l := B1.lt
  generalize v1.heap.size = b1 at *
  generalize v1.alloc _ = W1 at *
  go_wp2_with fail
  refine (lxDo h1 (by omega) ⟨1, 3, 7, true, ⟨2, 0, 0, false, 0, 1, 0⟩⟩ ⟨⟨by decide, by decide⟩, ⟨by decide, by decide⟩, ⟨by decide, by decide⟩, ⟨⟨by decide, by decide⟩, ⟨by decide, by decide⟩, ⟨by decide, by decide⟩, ⟨by decide, by decide⟩, ⟨by decide, by decide⟩, ⟨by decide, by decide⟩⟩⟩ ((lDo 2 ((lDo 2 (LS1 2) ⟨0, 0, 5, true, ⟨3, 0, 1, false, 0, 10, 0⟩⟩).1) ⟨1, 3, 7, true, ⟨2, 0, 0, false, 0, 1, 0⟩⟩).1) ⟨3, 7, 0, []⟩ (by kernel_rfl)).mono ?_
  rintro y v2 ⟨a2, d2, F2, rfl, -, k2, c2, g2⟩
  simp only [List.length_nil]
  have B1 := B1.chg c2 N1
  have B2 : Blk (v2.alloc (.cells #[.int .i64 3, .int .u64 7, .int .i64 0, .slice a2 0 d2] 46)) v2.heap.size 46 [.int .i64 3, .int .u64 7, .int .i64 0, .slice a2 0 d2] := Blk.new v2 _ _
  have N2 : v2.heap.size ∉ F2 := fun hm => by have := (k2.lt _ hm).2; omega
  have h2 := k2.to ((Chg.refl [] v2).alloc (.cells #[.int .i64 3, .int .u64 7, .int .i64 0, .slice a2 0 d2] 46))
  have B1 := B1.alloc (.cells #[.int .i64 3, .int .u64 7, .int .i64 0, .slice a2 0 d2] 46)
  have N1 : b1 ∉ F2 := fun hm => (g2 _ hm).elim N1 fun e => by have := B1l; omega
  clear h1 k2 c2 g2
  go_upto_region 6 with (fail)
  have B2l := B2.lt
  clear B1l
  have B1l := B1.lt
  generalize v2.heap.size = b2 at *
  generalize v2.alloc _ = W2 at *
  go_wp2_with fail
  refine (lxDo h2 (by omega) ⟨1, 0, 2, false, ⟨0, 0, 0, false, 0, 0, 0⟩⟩ ⟨⟨by decide, by decide⟩, ⟨by decide, by decide⟩, ⟨by decide, by decide⟩, ⟨⟨by decide, by decide⟩, ⟨by decide, by decide⟩, ⟨by decide, by decide⟩, ⟨by decide, by decide⟩, ⟨by decide, by decide⟩, ⟨by decide, by decide⟩⟩⟩ ((lDo 2 ((lDo 2 ((lDo 2 (LS1 2) ⟨0, 0, 5, true, ⟨3, 0, 1, false, 0, 10, 0⟩⟩).1) ⟨1, 3, 7, true, ⟨2, 0, 0, false, 0, 1, 0⟩⟩).1) ⟨1, 0, 2, false, ⟨0, 0, 0, false, 0, 0, 0⟩⟩).1) ⟨2, 2, 0, []⟩ (by kernel_rfl)).mono ?_
  rintro y v3 ⟨a3, d3, F3, rfl, -, k3, c3, g3⟩
  simp only [List.length_nil]
  have B1 := B1.chg c3 N1
  have B2 := B2.chg c3 N2
  have B3 : Blk (v3.alloc (.cells #[.int .i64 2, .int .u64 2, .int .i64 0, .slice a3 0 d3] 46)) v3.heap.size 46 [.int .i64 2, .int .u64 2, .int .i64 0, .slice a3 0 d3] := Blk.new v3 _ _
  have N3 : v3.heap.size ∉ F3 := fun hm => by have := (k3.lt _ hm).2; omega
  have h3 := k3.to ((Chg.refl [] v3).alloc (.cells #[.int .i64 2, .int .u64 2, .int .i64 0, .slice a3 0 d3] 46))
  have B1 := B1.alloc (.cells #[.int .i64 2, .int .u64 2, .int .i64 0, .slice a3 0 d3] 46)
  have N1 : b1 ∉ F3 := fun hm => (g3 _ hm).elim N1 fun e => by have := B1l; omega
  have B2 := B2.alloc (.cells #[.int .i64 2, .int .u64 2, .int .i64 0, .slice a3 0 d3] 46)
  have N2 : b2 ∉ F3 := fun hm => (g3 _ hm).elim N2 fun e => by have := B2l; omega
  clear h2 k3 c3 g3
  have x10 := B1.at (i := 0) rfl
  have x11 := B1.at (i := 1) rfl
  have x20 := B2.at (i := 0) rfl
  have x21 := B2.at (i := 1) rfl
  have x30 := B3.at (i := 0) rfl
  have x31 := B3.at (i := 1) rfl
  go_wp2_with fail
  refine (lxNext h3 0 1 (by kernel_rfl)).mono ?_
  rintro y u0 ⟨rfl, q0⟩
  have m0 := h3.to q0
  clear h3 q0
  go_wp2_with fail
  refine (lxNext m0 1 0 (by kernel_rfl)).mono ?_
  rintro y u1 ⟨rfl, q1⟩
  have m1 := m0.to q1
  clear m0 q1
  go_wp2_with fail
  refine (lxFree m1 0 0 990 (by kernel_rfl)).mono ?_
  rintro y u2 ⟨rfl, q2⟩
  have m2 := m1.to q2
  clear m1 q2
  go_wp2_with fail
  refine (lxFree m2 1 0 1010 (by kernel_rfl)).mono ?_
  rintro y u3 ⟨rfl, q3⟩
  have m3 := m2.to q3
  clear m2 q3
  go_wp2_with fail
  refine (lxFree m3 0 1 999 (by kernel_rfl)).mono ?_
  rintro y u4 ⟨rfl, q4⟩
  have m4 := m3.to q4
  clear m3 q4
  go_wp2_with fail
  refine (lxFree m4 1 1 991 (by kernel_rfl)).mono ?_
  rintro y u5 ⟨rfl, q5⟩
  have m5 := m4.to q5
  clear m4 q5
  go_wp2_with fail
  refine (lxGot m5 10 (by kernel_rfl)).mono ?_
  rintro y u6 ⟨rfl, q6⟩
  have m6 := m5.to q6
  clear m5 q6
  go_wp2_with fail
  refine (lxGiven m6 1 2000 (by kernel_rfl)).mono ?_
  rintro y u7 ⟨rfl, q7⟩
  have m7 := m6.to q7
  clear m6 q7
  go_wp2_with fail
  refine (lxBook m7).mono ?_
  rintro y u9 ⟨kb, FB, rfl, q9, -, -⟩
  go_wp2_with fail
  go_ret
  exact ⟨rfl, m7.c.trans q9⟩
end Go.Proofs.YteabcpmpcbjicaaGreat
