
import Derived.Test.YteabcpmpcbjicaaLedMP
import Derived.Test.YteabcpmpcbjicaaLedMS
import Derived.StillTailTactics
namespace Go.Proofs.Yteabcpmpcbjicaa
set_option linter.unusedVariables false
open Go Go.Proofs Go.RowKit
attribute [local go_sem ↓] Go.wp_at_zero Go.wp_at_succ

theorem meS_ok {p q : Int} (hp : 0 ≤ p ∧ p ≤ 24) (hq : 0 ≤ q ∧ q ≤ 20) : (meS p q).Ok := by
  refine ⟨⟨?_, ?_⟩, ⟨?_, ?_⟩, ⟨?_, ?_⟩, ⟨⟨?_, ?_⟩, ⟨?_, ?_⟩, ⟨?_, ?_⟩, ⟨?_, ?_⟩, ⟨?_, ?_⟩, ⟨?_, ?_⟩⟩⟩ <;> (simp only [meS]; omega)
theorem meB_ok {p q : Int} (hp : 0 ≤ p ∧ p ≤ 24) (hq : 0 ≤ q ∧ q ≤ 20) : (meB p q).Ok := by
  refine ⟨⟨?_, ?_⟩, ⟨?_, ?_⟩, ⟨?_, ?_⟩, ⟨⟨?_, ?_⟩, ⟨?_, ?_⟩, ⟨?_, ?_⟩, ⟨?_, ?_⟩, ⟨?_, ?_⟩, ⟨?_, ?_⟩⟩⟩ <;> (simp only [meB]; omega)
theorem mul_b {a b : Int} (ha : 1 ≤ a ∧ a ≤ 24) (hb : 1 ≤ b ∧ b ≤ 20) : 1 ≤ a * b ∧ a * b ≤ 480 := by
  constructor
  · calc (1 : Int) = 1 * 1 := rfl
      _ ≤ a * 1 := Int.mul_le_mul_of_nonneg_right ha.1 (by omega)
      _ ≤ a * b := Int.mul_le_mul_of_nonneg_left hb.1 (by omega)
  · calc a * b ≤ 24 * b := Int.mul_le_mul_of_nonneg_right ha.2 (by omega)
      _ ≤ 24 * 20 := Int.mul_le_mul_of_nonneg_left hb.2 (by omega)
      _ = 480 := by rfl
set_option maxRecDepth 100000 in
set_option maxHeartbeats 8000000 in
theorem ledmeets_walk (price qty more : Int) (first : Bool) (w : World) (hp0 : U price) (hq0 : U qty) (hm0 : U more) : Calls Try.prog 14 #[.int .u64 price, .int .u64 qty, .bool first, .int .u64 more] w fun e w' => e = .returned (.bool true) ∧ Below w.heap.size w w' := by
  obtain ⟨p0, hp1, hp2, hp3⟩ : ∃ z : Int, price.tmod 20 = z ∧ 0 ≤ z ∧ z < 20 := ⟨_, rfl, by rw [Int.tmod_eq_emod_of_nonneg hp0.1]; omega, by rw [Int.tmod_eq_emod_of_nonneg hp0.1]; omega⟩
  obtain ⟨q0, hq1, hq2, hq3⟩ : ∃ z : Int, qty.tmod 20 = z ∧ 0 ≤ z ∧ z < 20 := ⟨_, rfl, by rw [Int.tmod_eq_emod_of_nonneg hq0.1]; omega, by rw [Int.tmod_eq_emod_of_nonneg hq0.1]; omega⟩
  obtain ⟨m, hm1, hm2, hm3⟩ : ∃ z : Int, more.tmod 5 = z ∧ 0 ≤ z ∧ z < 5 := ⟨_, rfl, by rw [Int.tmod_eq_emod_of_nonneg hm0.1]; omega, by rw [Int.tmod_eq_emod_of_nonneg hm0.1]; omega⟩
  have w1 : IntKind.u64.wrap p0 = p0 := by simp [IntKind.wrap, IntKind.bits, IntKind.signed]; omega
  have w2 : IntKind.u64.wrap q0 = q0 := by simp [IntKind.wrap, IntKind.bits, IntKind.signed]; omega
  have w3 : IntKind.u64.wrap m = m := by simp [IntKind.wrap, IntKind.bits, IntKind.signed]; omega
  obtain ⟨p, hp⟩ : ∃ p, p = p0 + 1 := ⟨_, rfl⟩
  obtain ⟨q, hq⟩ : ∃ q, q = q0 + 1 := ⟨_, rfl⟩
  obtain ⟨P, hP⟩ : ∃ P, P = p + m := ⟨_, rfl⟩
  have w4 : IntKind.u64.wrap (p0 + 1) = p := by rw [← hp]; simp [IntKind.wrap, IntKind.bits, IntKind.signed]; omega
  have w5 : IntKind.u64.wrap (q0 + 1) = q := by rw [← hq]; simp [IntKind.wrap, IntKind.bits, IntKind.signed]; omega
  have w6 : IntKind.u64.wrap (p + m) = P := by rw [← hP]; simp [IntKind.wrap, IntKind.bits, IntKind.signed]; omega
  have hpb : 1 ≤ p ∧ p ≤ 24 := by omega
  have hPb : 1 ≤ P ∧ P ≤ 24 := by omega
  have hqb : 1 ≤ q ∧ q ≤ 20 := by omega
  have hpP : p ≤ P := by omega
  obtain ⟨v, hv⟩ : ∃ v, p * q = v := ⟨_, rfl⟩
  obtain ⟨V, hV⟩ : ∃ V, P * q = V := ⟨_, rfl⟩
  obtain ⟨d, hd⟩ : ∃ d, (P - p) * q = d := ⟨_, rfl⟩
  have hvb := mul_b hpb hqb
  have hVb := mul_b hPb hqb
  have hdb : 0 ≤ (P - p) * q := Int.mul_nonneg (by omega) (by omega)
  have hsum : V = v + d := by rw [← hv, ← hV, ← hd, Int.sub_mul]; omega
  rw [hv] at hvb
  rw [hV] at hVb
  rw [hd] at hdb
  have HP := Lib.hid (And.intro hpb (And.intro hPb (And.intro hpP hPb.2)))
  have HQ := Lib.hid hqb
  have HV := Lib.hid (And.intro hv (And.intro hV (And.intro hd (And.intro hvb (And.intro hVb (And.intro hdb (And.intro hsum hVb.2)))))))
  obtain ⟨q1b, q2b⟩ := hqb
  obtain ⟨p1b, p2b⟩ := hpb
  obtain ⟨P1b, P2b⟩ := hPb
  obtain ⟨v1b, v2b⟩ := hvb
  obtain ⟨V1b, V2b⟩ := hVb
  clear hp hq hP hv hV hd hsum hdb hp0 hq0 hm0
  go_enter Try.func14, Try.ntmps14
  go_wp2_with fail
  refine (ledNew 2 (by omega) (by omega) w).mono ?_
  rintro e w1' ⟨l, F0, rfl, h0⟩
  go_wp2_with fail
  refine (lxBook h0).mono ?_
  rintro e W2 ⟨kb, FB, rfl, c2, -, -⟩
  have h1 := h0.to c2
  clear h0 c2
  go_upto_region 8 with (fail)
  have h2 := h1.to (((Chg.refl [] W2).alloc (.cells #[.int .i64 0, .int .u64 0, .int .u64 0, .bool true, .int .i64 4, .int .i64 0, .int .i64 0, .bool false, .int .u64 p, .int .u64 q, .int .i64 0] 73)).alloc (.cells #[.int .i64 1, .int .u64 0, .int .u64 0, .bool true, .int .i64 4, .int .i64 0, .int .i64 0, .bool true, .int .u64 P, .int .u64 q, .int .i64 0] 73))
  have B10 : Blk ((W2.alloc (.cells #[.int .i64 0, .int .u64 0, .int .u64 0, .bool true, .int .i64 4, .int .i64 0, .int .i64 0, .bool false, .int .u64 p, .int .u64 q, .int .i64 0] 73)).alloc (.cells #[.int .i64 1, .int .u64 0, .int .u64 0, .bool true, .int .i64 4, .int .i64 0, .int .i64 0, .bool true, .int .u64 P, .int .u64 q, .int .i64 0] 73)) W2.heap.size 73 (ec (meS p q)) := (Blk.new W2 (ec (meS p q)) 73).alloc _
  have B11 : Blk ((W2.alloc (.cells #[.int .i64 0, .int .u64 0, .int .u64 0, .bool true, .int .i64 4, .int .i64 0, .int .i64 0, .bool false, .int .u64 p, .int .u64 q, .int .i64 0] 73)).alloc (.cells #[.int .i64 1, .int .u64 0, .int .u64 0, .bool true, .int .i64 4, .int .i64 0, .int .i64 0, .bool true, .int .u64 P, .int .u64 q, .int .i64 0] 73)) (W2.heap.size + 1) 73 (ec (meB P q)) := by
    have := Blk.new (W2.alloc (.cells #[.int .i64 0, .int .u64 0, .int .u64 0, .bool true, .int .i64 4, .int .i64 0, .int .i64 0, .bool false, .int .u64 p, .int .u64 q, .int .i64 0] 73)) (ec (meB P q)) 73
    rwa [World.size_alloc] at this
  clear h1 hp1 hq1 hm1 w1 w2 w3 w4 w5
  generalize W2.heap.size + 1 = g11 at *
  generalize W2.heap.size = g10 at *
  generalize (W2.alloc _).alloc _ = W3 at *
  refine meets_two (e1 := meS p q) (e2 := meB P q) (by intro c a d v w h; cases d <;> exact h) (Lib.hid B10) (Lib.hid B11) ?_
  intro V3 g13 g14 B13 B14 c3 l13' l14' n1314
  intros
  have h3 := h2.to c3
  have n13 : g13 ∉ F0 := fun hm => by have := (h2.lt _ hm).2; omega
  have n14 : g14 ∉ F0 := fun hm => by have := (h2.lt _ hm).2; omega
  have hsz := h2.c.size
  have l13 : w.heap.size ≤ g13 := by omega
  have l14 : w.heap.size ≤ g14 := by omega
  have lt10 := B10.lt
  have lt11 := B11.lt
  have nne : g10 ≠ g13 ∧ g11 ≠ g13 ∧ g10 ≠ g14 ∧ g11 ≠ g14 ∧ g13 ≠ g14 := ⟨by omega, by omega, by omega, by omega, n1314⟩
  have B10 := B10.chg c3 (by simp)
  have B11 := B11.chg c3 (by simp)
  clear h2 c3 l13' l14' hsz lt10 lt11
  cases first
  · go_upto_region 10 with (fail)
    refine meets_swap (e1 := meS p q) (e2 := meB P q) (by intro c a d v w h; cases d <;> exact h) w6 (Lib.hid B10) (Lib.hid B11) (Lib.hid B13) (Lib.hid B14) nne ?_
    intro V5 B13' B14' cS
    intros
    have h4 := h3.aside cS (fun z hz => by simp at hz; rcases hz with e | e <;> subst e; exact ⟨n13, l13⟩; exact ⟨n14, l14⟩)
    clear h3 B10 B11 B13 B14 cS
    have B13 := B13'
    have B14 := B14'
    clear B13' B14'
    go_upto_region 11 with (fail)
    refine meets_do (n := 2) (S0 := LS1 2) (S1 := (meB1 P q V)) (S2 := meE q V) (e1 := (meB P q)) (e2 := (meS p q)) (c1 := 0) (p1 := 0) (i1 := 1) (T1 := []) (n1 := 0) (c2 := 0) (p2 := 0) (i2 := 2) (T2 := [⟨1, 2, 1, 0, P, q⟩]) (n2 := 1) (by intro c a d v w h; cases d <;> exact h) (Lib.hid h4) n13 n14 (Lib.hid B13) (Lib.hid B14) (Lib.hid (meB_ok ⟨by omega, by omega⟩ ⟨by omega, by omega⟩)) (Lib.hid (meS_ok ⟨by omega, by omega⟩ ⟨by omega, by omega⟩)) (Lib.hid (meets_b1 P q V HP.out.2.1 HQ.out HV.out.2.1 HV.out.2.2.2.2.1)) (Lib.hid (meets_b2 p P q V ⟨HP.out.1.1, HP.out.2.2.1⟩ HP.out.2.2.2 HQ.out HV.out.2.1 HV.out.2.2.2.2.1)) (Lib.hid rfl) (Lib.hid rfl) ?_
    intro W5 g15 g16 F5 a1 d1 a2 d2 h5 hR5 B15 B16
    intros
    clear h4 B13 B14 n13 n14
    obtain ⟨gt, rfl, hbt⟩ : ∃ gt, a2 = some ⟨gt, 0, none⟩ ∧ Beg W5 gt 85 (tc ⟨1, 2, 1, 0, P, q⟩) := by
      rcases hR5 with e | ⟨g, e, hb⟩
      · cases e
      · exact ⟨g, e, hb⟩
    have t2 := hbt.at (i := 2) rfl
    have t3 := hbt.at (i := 3) rfl
    have t4 := hbt.at (i := 4) rfl
    have t5 := hbt.at (i := 5) rfl
    have x0 := B15.at (i := 0) rfl
    have x3 := B15.at (i := 3) rfl
    have y0 := B16.at (i := 0) rfl
    have y3 := B16.at (i := 3) rfl
    have wm : IntKind.u64.wrap (P * q) = V := by rw [HV.out.2.1]; simp [IntKind.wrap, IntKind.bits, IntKind.signed]; omega
    have wa : IntKind.u64.wrap (1000 + V) = 1000 + V := by simp [IntKind.wrap, IntKind.bits, IntKind.signed]; omega
    have wb : IntKind.u64.wrap (1000 - V) = 1000 - V := by simp [IntKind.wrap, IntKind.bits, IntKind.signed]; omega
    have wc : IntKind.u64.wrap (1000 + q) = 1000 + q := by simp [IntKind.wrap, IntKind.bits, IntKind.signed]; omega
    have wd : IntKind.u64.wrap (1000 - q) = 1000 - q := by simp [IntKind.wrap, IntKind.bits, IntKind.signed]; omega
    clear hR5 hbt B15 B16
    go_wp2_with fail
    refine (lxFree h5 0 0 (1000 - q) (by simp [meE, aFree, aErr, aHas, aAsset, aGet, aAt])).mono ?_
    rintro y u0 ⟨rfl, q0⟩
    have m0 := h5.to q0
    clear h5 q0 t2 t3 t4 t5 x0 x3 y0 y3
    go_wp2_with fail
    refine (lxFree m0 1 0 (1000 + q) (by simp [meE, aFree, aErr, aHas, aAsset, aGet, aAt])).mono ?_
    rintro y u1 ⟨rfl, q1⟩
    have m1 := m0.to q1
    clear m0 q1 
    go_wp2_with fail
    refine (lxFree m1 0 1 (1000 + V) (by simp [meE, aFree, aErr, aHas, aAsset, aGet, aAt])).mono ?_
    rintro y u2 ⟨rfl, q2⟩
    have m2 := m1.to q2
    clear m1 q2 
    go_wp2_with fail
    refine (lxFree m2 1 1 (1000 - V) (by simp [meE, aFree, aErr, aHas, aAsset, aGet, aAt])).mono ?_
    rintro y u3 ⟨rfl, q3⟩
    have m3 := m2.to q3
    clear m2 q3 
    go_wp2_with fail
    refine (lxBook m3).mono ?_
    rintro y z0 ⟨kb0, FB0, rfl, qz0, hB0, -⟩
    have l0 := m3.to qz0
    clear m3 qz0
    go_wp2_with fail
    refine (bBids hB0.bk (by simp [meE])).mono ?_
    rintro y y0 ⟨s0, rfl, hO0, qy0⟩
    obtain ⟨aa0, dd0, rfl, hS0⟩ := hO0.osn
    simp only [meE, List.length_nil]
    have r0 := l0.to qy0
    clear l0 hB0 hS0 hO0 qy0
    go_wp2_with fail
    refine (lxBook r0).mono ?_
    rintro y z1 ⟨kb1, FB1, rfl, qz1, hB1, -⟩
    have l1 := r0.to qz1
    clear r0 qz1
    go_wp2_with fail
    refine (bAsks hB1.bk (by simp [meE])).mono ?_
    rintro y y1 ⟨s1, rfl, hO1, qy1⟩
    obtain ⟨aa1, dd1, rfl, hS1⟩ := hO1.osn
    simp only [meE, List.length_nil]
    have r1 := l1.to qy1
    clear l1 hB1 hS1 hO1 qy1
    go_wp2_with fail
    refine (awake12 _).mono ?_
    rintro y u9 ⟨rfl, q9⟩
    go_wp2_with fail
    go_ret
    exact ⟨rfl, (r1.c.trans q9).below⟩
  · go_upto_region 11 with (fail)
    have h4 := h3
    clear h3 B10 B11
    refine meets_do (n := 2) (S0 := LS1 2) (S1 := (meS1 p q)) (S2 := meE q v) (e1 := (meS p q)) (e2 := (meB P q)) (c1 := 0) (p1 := 0) (i1 := 1) (T1 := []) (n1 := 0) (c2 := 0) (p2 := 0) (i2 := 2) (T2 := [⟨1, 2, 1, 0, p, q⟩]) (n2 := 1) (by intro c a d v w h; cases d <;> exact h) (Lib.hid h4) n13 n14 (Lib.hid B13) (Lib.hid B14) (Lib.hid (meS_ok ⟨by omega, by omega⟩ ⟨by omega, by omega⟩)) (Lib.hid (meB_ok ⟨by omega, by omega⟩ ⟨by omega, by omega⟩)) (Lib.hid (meets_s1 p q HP.out.1 HQ.out)) (Lib.hid (meets_s2 p P q v V d ⟨HP.out.1.1, HP.out.2.2.1⟩ HP.out.2.2.2 HQ.out HV.out.1 HV.out.2.1 HV.out.2.2.1 HV.out.2.2.2.1 HV.out.2.2.2.2.2)) (Lib.hid rfl) (Lib.hid rfl) ?_
    intro W5 g15 g16 F5 a1 d1 a2 d2 h5 hR5 B15 B16
    intros
    clear h4 B13 B14 n13 n14
    obtain ⟨gt, rfl, hbt⟩ : ∃ gt, a2 = some ⟨gt, 0, none⟩ ∧ Beg W5 gt 85 (tc ⟨1, 2, 1, 0, p, q⟩) := by
      rcases hR5 with e | ⟨g, e, hb⟩
      · cases e
      · exact ⟨g, e, hb⟩
    have t2 := hbt.at (i := 2) rfl
    have t3 := hbt.at (i := 3) rfl
    have t4 := hbt.at (i := 4) rfl
    have t5 := hbt.at (i := 5) rfl
    have x0 := B15.at (i := 0) rfl
    have x3 := B15.at (i := 3) rfl
    have y0 := B16.at (i := 0) rfl
    have y3 := B16.at (i := 3) rfl
    have wm : IntKind.u64.wrap (p * q) = v := by rw [HV.out.1]; simp [IntKind.wrap, IntKind.bits, IntKind.signed]; omega
    have wa : IntKind.u64.wrap (1000 + v) = 1000 + v := by simp [IntKind.wrap, IntKind.bits, IntKind.signed]; omega
    have wb : IntKind.u64.wrap (1000 - v) = 1000 - v := by simp [IntKind.wrap, IntKind.bits, IntKind.signed]; omega
    have wc : IntKind.u64.wrap (1000 + q) = 1000 + q := by simp [IntKind.wrap, IntKind.bits, IntKind.signed]; omega
    have wd : IntKind.u64.wrap (1000 - q) = 1000 - q := by simp [IntKind.wrap, IntKind.bits, IntKind.signed]; omega
    clear hR5 hbt B15 B16
    go_wp2_with fail
    refine (lxFree h5 0 0 (1000 - q) (by simp [meE, aFree, aErr, aHas, aAsset, aGet, aAt])).mono ?_
    rintro y u0 ⟨rfl, q0⟩
    have m0 := h5.to q0
    clear h5 q0 t2 t3 t4 t5 x0 x3 y0 y3
    go_wp2_with fail
    refine (lxFree m0 1 0 (1000 + q) (by simp [meE, aFree, aErr, aHas, aAsset, aGet, aAt])).mono ?_
    rintro y u1 ⟨rfl, q1⟩
    have m1 := m0.to q1
    clear m0 q1 
    go_wp2_with fail
    refine (lxFree m1 0 1 (1000 + v) (by simp [meE, aFree, aErr, aHas, aAsset, aGet, aAt])).mono ?_
    rintro y u2 ⟨rfl, q2⟩
    have m2 := m1.to q2
    clear m1 q2 
    go_wp2_with fail
    refine (lxFree m2 1 1 (1000 - v) (by simp [meE, aFree, aErr, aHas, aAsset, aGet, aAt])).mono ?_
    rintro y u3 ⟨rfl, q3⟩
    have m3 := m2.to q3
    clear m2 q3 
    go_wp2_with fail
    refine (lxBook m3).mono ?_
    rintro y z0 ⟨kb0, FB0, rfl, qz0, hB0, -⟩
    have l0 := m3.to qz0
    clear m3 qz0
    go_wp2_with fail
    refine (bBids hB0.bk (by simp [meE])).mono ?_
    rintro y y0 ⟨s0, rfl, hO0, qy0⟩
    obtain ⟨aa0, dd0, rfl, hS0⟩ := hO0.osn
    simp only [meE, List.length_nil]
    have r0 := l0.to qy0
    clear l0 hB0 hS0 hO0 qy0
    go_wp2_with fail
    refine (lxBook r0).mono ?_
    rintro y z1 ⟨kb1, FB1, rfl, qz1, hB1, -⟩
    have l1 := r0.to qz1
    clear r0 qz1
    go_wp2_with fail
    refine (bAsks hB1.bk (by simp [meE])).mono ?_
    rintro y y1 ⟨s1, rfl, hO1, qy1⟩
    obtain ⟨aa1, dd1, rfl, hS1⟩ := hO1.osn
    simp only [meE, List.length_nil]
    have r1 := l1.to qy1
    clear l1 hB1 hS1 hO1 qy1
    go_wp2_with fail
    refine (awake12 _).mono ?_
    rintro y u9 ⟨rfl, q9⟩
    go_wp2_with fail
    go_ret
    exact ⟨rfl, (r1.c.trans q9).below⟩
end Go.Proofs.Yteabcpmpcbjicaa
