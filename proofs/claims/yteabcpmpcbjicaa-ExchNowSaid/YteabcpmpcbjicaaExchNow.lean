
import Derived.Test.YteabcpmpcbjicaaExn
import Derived.Test.YteabcpmpcbjicaaShell
import Derived.BigQuiet
namespace Go.Proofs.Yteabcpmpcbjicaa
set_option linter.unusedVariables false
set_option linter.unusedSimpArgs false
open Go Go.Proofs Go.RowKit
attribute [local go_sem ↓] Go.wp_at_zero Go.wp_at_succ

set_option maxRecDepth 100000 in
set_option maxHeartbeats 8000000 in
theorem exnow_walk (p0 h0 q0 f0 : Int) (w : World) :
    Calls Try.prog 12 #[.int .u64 p0, .int .u64 h0, .int .u64 q0, .int .u64 f0] w fun e w' => e = .returned (.bool true) ∧ Below w.heap.size w w' := by
  obtain ⟨f1, e1, l1⟩ := and63_u64 p0
  obtain ⟨f2, e2, l2⟩ : ∃ f : Nat, bits BinOp.and .u64 h0 31 = f ∧ f < 32 := low_u64 h0 5 (by omega)
  obtain ⟨f3, e3, l3⟩ : ∃ f : Nat, bits BinOp.and .u64 q0 31 = f ∧ f < 32 := low_u64 q0 5 (by omega)
  obtain ⟨f4, e4, l4⟩ := and15_u64 f0
  have w1 : IntKind.u64.wrap ((f1 : Int) + 11) = (f1 : Int) + 11 := by simp [IntKind.wrap, IntKind.bits, IntKind.signed]; omega
  have w2 : IntKind.u64.wrap ((f2 : Int) + 1) = (f2 : Int) + 1 := by simp [IntKind.wrap, IntKind.bits, IntKind.signed]; omega
  have w3 : IntKind.u64.wrap ((f3 : Int) + 1) = (f3 : Int) + 1 := by simp [IntKind.wrap, IntKind.bits, IntKind.signed]; omega
  go_enter Try.func12, Try.ntmps12
  go_wp2_with fail
  refine (new_is 2 2 [0, 0, 0, 0] w (by decide) (by decide)).mono ?_
  rintro e wa ⟨ab, s, rfl, ha1, c1, ls, lb⟩
  go_upto_region 5 with (fail)
  clear e1 e2 e3 e4 w1 w2 w3
  obtain ⟨p, hpe⟩ : ∃ p : Int, (f1 : Int) + 11 = p := ⟨_, rfl⟩
  obtain ⟨h, hhe⟩ : ∃ p : Int, (f2 : Int) + 1 = p := ⟨_, rfl⟩
  obtain ⟨q, hqe⟩ : ∃ q : Int, (f3 : Int) + 1 = q := ⟨_, rfl⟩
  rw [hpe, hhe, hqe]
  have hp : 11 ≤ p ∧ p ≤ 74 := ⟨by omega, by omega⟩
  have hh : 1 ≤ h ∧ h ≤ 32 := ⟨by omega, by omega⟩
  have hq : 1 ≤ q ∧ q ≤ 32 := ⟨by omega, by omega⟩
  obtain ⟨a, hae⟩ : ∃ a : Int, p + 5 - (f4 : Int) = a := ⟨_, rfl⟩
  have ha : 1 ≤ a ∧ a ≤ 79 := ⟨by omega, by omega⟩
  have w4 : IntKind.u64.wrap (p + 5) = p + 5 := by simp [IntKind.wrap, IntKind.bits, IntKind.signed]; omega
  have w5 : IntKind.u64.wrap (p + 5 - (f4 : Int)) = a := by rw [← hae]; simp [IntKind.wrap, IntKind.bits, IntKind.signed]; omega
  have HM : Hid (0 ≤ a * q ∧ a * q ≤ 2528) := sm (by omega) (by omega) (show 79 * 32 = 2528 by rfl)
  clear hpe hhe hqe hae
  go_wp2_with fail
  refine (put_is ha1 0 0 100 0 [100, 0, 0, 0] ⟨by omega, by omega⟩ (by decide) (by decide)).mono ?_
  rintro e wb ⟨rfl, ha2, c2⟩
  go_wp2_with fail
  refine (put_is ha2 1 1 10000 0 [100, 0, 0, 10000] ⟨by omega, by omega⟩ (by decide) (by decide)).mono ?_
  rintro e wc ⟨rfl, ha3, c3⟩
  have hc3 : Chg [] w wc := (c1.trans' c2 (fun z hz => .inr (by simp at hz; omega))).trans' c3 (fun z hz => .inr (by simp at hz; omega))
  clear ha1 ha2 c1 c2 c3
  go_wp2_with fail
  refine (exNew ha3 hc3 lb ls).mono ?_
  rintro e w4 ⟨x, kb, FF, rfl, h4⟩
  clear ha3 hc3
  go_wp2_with fail
  refine (exBook h4).mono ?_
  rintro e w11 ⟨rfl, rfl⟩
  go_wp2_with fail
  refine (limit_yes h4 (by omega) 0 false p h ⟨by omega, by omega⟩ ⟨by omega, by omega⟩ ⟨by omega, by omega⟩ (exn_lim hp hh).1 [100 - h, 0, 0, 10000] [100 - h, 0, 0, 10000] [] h [] [] (exn_lim hp hh).2 ⟨rfl, rfl⟩ rfl rfl rfl).mono ?_
  rintro e wl ⟨al, dl, rfl, -, Fl, h5, -, -, -⟩
  obtain ⟨e51, e52⟩ := Prod.mk.inj (exn_rest (p := p) hh)
  rw [e51, e52] at h5
  simp only [List.length_nil]
  clear h4 e51 e52
  rcases Int.lt_or_le a p with hc | hc
  · have hres := exn_no (p := p) (a := a) hh hq hc
    have HRES := Lib.hid hres
    clear hres
    go_wp2_with fail
    refine (now_yes h5 (by omega) 1 true a q ⟨by omega, by omega⟩ ⟨by omega, by omega⟩ ⟨by omega, by omega⟩ (exn_now ha hq HM.out).1 [100 - h, 0, 0, 10000 - a * q] [100 - h, 0, 0, 10000 - a * q] ([] : List Trd) q [] [(⟨1, 0, false, p, h⟩ : Ord)] (exn_now ha hq HM.out).2 HRES.out.1 rfl HRES.out.2.1 HRES.out.2.2).mono ?_
    rintro e w6 ⟨a6, d6, rfl, hN6, h6, -⟩
    rw [exn_pay_no (p := p) hq HM.out] at h6
    simp only [List.length_cons, List.length_nil]
    clear h5 HRES
    have dA : decide (p ≤ a) = false := by simp; omega
    go_wp2_with fail
    go_loopw [18, 77] (fun v i wx => v = .int .u64 0 ∧ i = .int .i64 0 ∧ Chg [] w6 wx) (fun _ _ _ => 0)
    case atStart => exact ⟨rfl, rfl, Chg.refl _ _⟩
    case round =>
      obtain ⟨rfl, rfl, hch⟩ := hrel
      have h7 := h6.to hch
      clear h6 hch
      have wA : IntKind.u64.wrap (0 * p) = 0 := by simp [IntKind.wrap, IntKind.bits, IntKind.signed]
      have wB : IntKind.u64.wrap (10000 - 0) = 10000 := by simp [IntKind.wrap, IntKind.bits, IntKind.signed]
      have wC : IntKind.u64.wrap (100 - h) = 100 - h := by simp [IntKind.wrap, IntKind.bits, IntKind.signed]; omega
      have wD : IntKind.u64.wrap (h - 0) = h := by simp [IntKind.wrap, IntKind.bits, IntKind.signed] <;> omega
      have wA' : IntKind.u64.wrap 0 = 0 := rfl
      go_wp2_with fail
      refine (free_is h7.a 1 1 10000 (exn_free).1).mono ?_
      rintro e w8 ⟨rfl, rfl⟩
      go_wp2_with fail
      refine (free_is h7.a 1 0 0 (exn_free).2.1).mono ?_
      rintro e w8 ⟨rfl, rfl⟩
      go_wp2_with fail
      refine (free_is h7.a 0 1 0 (exn_free).2.2.1).mono ?_
      rintro e w8 ⟨rfl, rfl⟩
      go_wp2_with fail
      refine (free_is h7.a 0 0 (100 - h) (exn_free).2.2.2).mono ?_
      rintro e w8 ⟨rfl, rfl⟩
      go_wp2_with fail
      refine (locked_any h7 (by omega) 0 0 h (exn_end_no (p := p) (h := h)).1).mono ?_
      rintro e w9 ⟨rfl, c9⟩
      have h9 := h7.to c9
      clear h7 c9
      go_wp2_with fail
      refine (locked_any h9 (by omega) 1 1 0 (exn_end_no (p := p) (h := h)).2).mono ?_
      rintro e w10 ⟨rfl, c10⟩
      have h10 := h9.to c10
      clear h9 c10
      go_wp2_with fail
      refine (exBook h10).mono ?_
      rintro e w11 ⟨rfl, rfl⟩
      go_wp2_with fail
      refine (bBids h10.b.bk (by simp)).mono ?_
      rintro e w12 ⟨v12, rfl, hO, c12⟩
      obtain ⟨a12, d12, rfl, -⟩ := hO.osn
      have h12 := h10.to c12
      simp only [List.length_nil]
      clear h10 c12 hO
      go_wp2_with fail
      refine (awake10 _).mono ?_
      rintro e w18 ⟨rfl, c18⟩
      go_wp2_with fail
      go_ret
      exact ⟨rfl, (h12.b.c.trans c18).below⟩
  · rcases (by omega : q < h ∨ q = h ∨ h < q) with hd | hd | hd
    · have m1 : 0 ≤ p * q ∧ p * q ≤ 2528 := sm (by omega) (by omega) (show 79 * 32 = 2528 by rfl)
      have m2 : 0 ≤ (a - p) * q ∧ (a - p) * q ≤ 2528 := sm (by omega) (by omega) (show 79 * 32 = 2528 by rfl)
      have m4 : 0 ≤ a * 0 ∧ a * 0 ≤ 2528 := sm (by omega) (by omega) (show 79 * 32 = 2528 by rfl)
      have m5 : a * q = p * q + (a - p) * q + a * 0 := by
        rw [← Int.add_mul, Int.add_comm p, Int.sub_add_cancel]; simp
      have hpay := exn_pay_part hp ha hh hq hc hd m1 m2 HM.out m4 m5
      have HPAY := Lib.hid hpay
      have HM1 := Lib.hid m1
      clear m1 m2 m4 m5 hpay
      have hres := exn_part (p := p) (a := a) hh hq hc hd
      have HRES := Lib.hid hres
      clear hres
      go_wp2_with fail
      refine (now_yes h5 (by omega) 1 true a q ⟨by omega, by omega⟩ ⟨by omega, by omega⟩ ⟨by omega, by omega⟩ (exn_now ha hq HM.out).1 [100 - h, 0, 0, 10000 - a * q] [100 - h, p * q, q, 10000 - a * q + (a - p) * q] [(⟨1, ((0 + 1 : Nat) : Int) + 1, 1, 0, p, q⟩ : Trd)] 0 [] [(⟨1, 0, false, p, h - q⟩ : Ord)] (exn_now ha hq HM.out).2 HRES.out.1 HPAY.out.1 HRES.out.2.1 HRES.out.2.2).mono ?_
      rintro e w6 ⟨a6, d6, rfl, hN6, h6, -⟩
      rw [HPAY.out.2] at h6
      simp only [List.length_cons, List.length_nil]
      clear h5 HRES HPAY
      have dA : decide (p ≤ a) = true := by simp; omega
      obtain ⟨gt, rfl, -, -, t0, t1, t2, t3, t4, t5⟩ := tr_at hN6 (k := 0) (by simp)
      simp only [List.getD_cons_zero, Nat.zero_mul, Nat.zero_add] at t0 t1 t2 t3 t4 t5
      clear hN6
      go_wp2_with fail
      go_loopw [18, 77] (fun v i wx => ((v = .int .u64 0 ∧ i = .int .i64 0) ∨ (v = .int .u64 q ∧ i = .int .i64 1)) ∧ Chg [] w6 wx) (fun _ i _ => 1 - (intOf i).toNat)
      case atStart => exact ⟨.inl ⟨rfl, rfl⟩, Chg.refl _ _⟩
      case round =>
        obtain ⟨hcs, hch⟩ := hrel
        rcases hcs with ⟨rfl, rfl⟩ | ⟨rfl, rfl⟩
        · have u0 := hch.cell t0 (by simp)
          have u1 := hch.cell t1 (by simp)
          have u2 := hch.cell t2 (by simp)
          have u3 := hch.cell t3 (by simp)
          have u4 := hch.cell t4 (by simp)
          have u5 := hch.cell t5 (by simp)
          have wz : IntKind.u64.wrap q = q := by simp [IntKind.wrap, IntKind.bits, IntKind.signed]; omega
          have hch2 := hch.alloc (.cells #[.int .i64 1, .int .i64 (((0 + 1 : Nat) : Int) + 1), .int .i64 1, .int .i64 0, .int .u64 p, .int .u64 q] 85)
          have HCH2 : Hid (∀ o, Chg [] w6 (wr.alloc o)) := fun o => hch.alloc o
          clear t0 t1 t2 t3 t4 t5 h6 hch hch2
          go_wp2_with fail
          go_roundw
          case rel => exact ⟨.inr ⟨by simp [wz], rfl⟩, HCH2.out _⟩
          case measure => simp [intOf]
        · have h7 := h6.to hch
          clear h6 hch t0 t1 t2 t3 t4 t5
          have wA : IntKind.u64.wrap (q * p) = (p * q) := by have := HM1.out; rw [Int.mul_comm]; simp [IntKind.wrap, IntKind.bits, IntKind.signed]; omega
          have wB : IntKind.u64.wrap (10000 - (p * q)) = (10000 - p * q) := by have := HM1.out; simp [IntKind.wrap, IntKind.bits, IntKind.signed]; omega
          have wC : IntKind.u64.wrap (100 - h) = 100 - h := by simp [IntKind.wrap, IntKind.bits, IntKind.signed]; omega
          have wD : IntKind.u64.wrap (h - q) = (h - q) := by simp [IntKind.wrap, IntKind.bits, IntKind.signed] <;> omega

          go_wp2_with fail
          refine (free_is h7.a 1 1 (10000 - p * q) (exn_free).1).mono ?_
          rintro e w8 ⟨rfl, rfl⟩
          go_wp2_with fail
          refine (free_is h7.a 1 0 q (exn_free).2.1).mono ?_
          rintro e w8 ⟨rfl, rfl⟩
          go_wp2_with fail
          refine (free_is h7.a 0 1 (p * q) (exn_free).2.2.1).mono ?_
          rintro e w8 ⟨rfl, rfl⟩
          go_wp2_with fail
          refine (free_is h7.a 0 0 (100 - h) (exn_free).2.2.2).mono ?_
          rintro e w8 ⟨rfl, rfl⟩
          go_wp2_with fail
          refine (locked_any h7 (by omega) 0 0 (h - q) (exn_end_part (p := p) (h := h) (q := q)).1).mono ?_
          rintro e w9 ⟨rfl, c9⟩
          have h9 := h7.to c9
          clear h7 c9
          go_wp2_with fail
          refine (locked_any h9 (by omega) 1 1 0 (exn_end_part (p := p) (h := h) (q := q)).2).mono ?_
          rintro e w10 ⟨rfl, c10⟩
          have h10 := h9.to c10
          clear h9 c10
          go_wp2_with fail
          refine (exBook h10).mono ?_
          rintro e w11 ⟨rfl, rfl⟩
          go_wp2_with fail
          refine (bBids h10.b.bk (by simp)).mono ?_
          rintro e w12 ⟨v12, rfl, hO, c12⟩
          obtain ⟨a12, d12, rfl, -⟩ := hO.osn
          have h12 := h10.to c12
          simp only [List.length_nil]
          clear h10 c12 hO
          go_wp2_with fail
          refine (awake10 _).mono ?_
          rintro e w18 ⟨rfl, c18⟩
          go_wp2_with fail
          go_ret
          exact ⟨rfl, (h12.b.c.trans c18).below⟩
    · subst hd
      have m1 : 0 ≤ p * q ∧ p * q ≤ 2528 := sm (by omega) (by omega) (show 79 * 32 = 2528 by rfl)
      have m2 : 0 ≤ (a - p) * q ∧ (a - p) * q ≤ 2528 := sm (by omega) (by omega) (show 79 * 32 = 2528 by rfl)
      have m4 : 0 ≤ a * 0 ∧ a * 0 ≤ 2528 := sm (by omega) (by omega) (show 79 * 32 = 2528 by rfl)
      have m5 : a * q = p * q + (a - p) * q + a * 0 := by
        rw [← Int.add_mul, Int.add_comm p, Int.sub_add_cancel]; simp
      have hpay := exn_pay_eq hp ha hh hq hc rfl m1 m2 HM.out m4 m5
      have HPAY := Lib.hid hpay
      have HM1 := Lib.hid m1
      clear m1 m2 m4 m5 hpay
      have hres := exn_eq (p := p) (a := a) hh hq hc rfl
      have HRES := Lib.hid hres
      clear hres
      go_wp2_with fail
      refine (now_yes h5 (by omega) 1 true a q ⟨by omega, by omega⟩ ⟨by omega, by omega⟩ ⟨by omega, by omega⟩ (exn_now ha hq HM.out).1 [100 - q, 0, 0, 10000 - a * q] [100 - q, p * q, q, 10000 - a * q + (a - p) * q] [(⟨1, ((0 + 1 : Nat) : Int) + 1, 1, 0, p, q⟩ : Trd)] 0 [] ([] : List Ord) (exn_now ha hq HM.out).2 HRES.out.1 HPAY.out.1 HRES.out.2.1 HRES.out.2.2).mono ?_
      rintro e w6 ⟨a6, d6, rfl, hN6, h6, -⟩
      rw [HPAY.out.2] at h6
      simp only [List.length_cons, List.length_nil]
      clear h5 HRES HPAY
      have dA : decide (p ≤ a) = true := by simp; omega
      obtain ⟨gt, rfl, -, -, t0, t1, t2, t3, t4, t5⟩ := tr_at hN6 (k := 0) (by simp)
      simp only [List.getD_cons_zero, Nat.zero_mul, Nat.zero_add] at t0 t1 t2 t3 t4 t5
      clear hN6
      go_wp2_with fail
      go_loopw [18, 77] (fun v i wx => ((v = .int .u64 0 ∧ i = .int .i64 0) ∨ (v = .int .u64 q ∧ i = .int .i64 1)) ∧ Chg [] w6 wx) (fun _ i _ => 1 - (intOf i).toNat)
      case atStart => exact ⟨.inl ⟨rfl, rfl⟩, Chg.refl _ _⟩
      case round =>
        obtain ⟨hcs, hch⟩ := hrel
        rcases hcs with ⟨rfl, rfl⟩ | ⟨rfl, rfl⟩
        · have u0 := hch.cell t0 (by simp)
          have u1 := hch.cell t1 (by simp)
          have u2 := hch.cell t2 (by simp)
          have u3 := hch.cell t3 (by simp)
          have u4 := hch.cell t4 (by simp)
          have u5 := hch.cell t5 (by simp)
          have wz : IntKind.u64.wrap q = q := by simp [IntKind.wrap, IntKind.bits, IntKind.signed]; omega
          have hch2 := hch.alloc (.cells #[.int .i64 1, .int .i64 (((0 + 1 : Nat) : Int) + 1), .int .i64 1, .int .i64 0, .int .u64 p, .int .u64 q] 85)
          have HCH2 : Hid (∀ o, Chg [] w6 (wr.alloc o)) := fun o => hch.alloc o
          clear t0 t1 t2 t3 t4 t5 h6 hch hch2
          go_wp2_with fail
          go_roundw
          case rel => exact ⟨.inr ⟨by simp [wz], rfl⟩, HCH2.out _⟩
          case measure => simp [intOf]
        · have h7 := h6.to hch
          clear h6 hch t0 t1 t2 t3 t4 t5
          have wA : IntKind.u64.wrap (q * p) = (p * q) := by have := HM1.out; rw [Int.mul_comm]; simp [IntKind.wrap, IntKind.bits, IntKind.signed]; omega
          have wB : IntKind.u64.wrap (10000 - (p * q)) = (10000 - p * q) := by have := HM1.out; simp [IntKind.wrap, IntKind.bits, IntKind.signed]; omega
          have wC : IntKind.u64.wrap (100 - q) = 100 - q := by simp [IntKind.wrap, IntKind.bits, IntKind.signed]; omega
          have wD : IntKind.u64.wrap (q - q) = 0 := by simp [IntKind.wrap, IntKind.bits, IntKind.signed] <;> omega

          go_wp2_with fail
          refine (free_is h7.a 1 1 (10000 - p * q) (exn_free).1).mono ?_
          rintro e w8 ⟨rfl, rfl⟩
          go_wp2_with fail
          refine (free_is h7.a 1 0 q (exn_free).2.1).mono ?_
          rintro e w8 ⟨rfl, rfl⟩
          go_wp2_with fail
          refine (free_is h7.a 0 1 (p * q) (exn_free).2.2.1).mono ?_
          rintro e w8 ⟨rfl, rfl⟩
          go_wp2_with fail
          refine (free_is h7.a 0 0 (100 - q) (exn_free).2.2.2).mono ?_
          rintro e w8 ⟨rfl, rfl⟩
          go_wp2_with fail
          refine (locked_any h7 (by omega) 0 0 0 (exn_end_eq (p := p) (h := q) (q := q)).1).mono ?_
          rintro e w9 ⟨rfl, c9⟩
          have h9 := h7.to c9
          clear h7 c9
          go_wp2_with fail
          refine (locked_any h9 (by omega) 1 1 0 (exn_end_eq (p := p) (h := q) (q := q)).2).mono ?_
          rintro e w10 ⟨rfl, c10⟩
          have h10 := h9.to c10
          clear h9 c10
          go_wp2_with fail
          refine (exBook h10).mono ?_
          rintro e w11 ⟨rfl, rfl⟩
          go_wp2_with fail
          refine (bBids h10.b.bk (by simp)).mono ?_
          rintro e w12 ⟨v12, rfl, hO, c12⟩
          obtain ⟨a12, d12, rfl, -⟩ := hO.osn
          have h12 := h10.to c12
          simp only [List.length_nil]
          clear h10 c12 hO
          go_wp2_with fail
          refine (awake10 _).mono ?_
          rintro e w18 ⟨rfl, c18⟩
          go_wp2_with fail
          go_ret
          exact ⟨rfl, (h12.b.c.trans c18).below⟩
    · have m1 : 0 ≤ p * h ∧ p * h ≤ 2528 := sm (by omega) (by omega) (show 79 * 32 = 2528 by rfl)
      have m2 : 0 ≤ (a - p) * h ∧ (a - p) * h ≤ 2528 := sm (by omega) (by omega) (show 79 * 32 = 2528 by rfl)
      have m4 : 0 ≤ a * (q - h) ∧ a * (q - h) ≤ 2528 := sm (by omega) (by omega) (show 79 * 32 = 2528 by rfl)
      have m5 : a * q = p * h + (a - p) * h + a * (q - h) := by
        rw [← Int.add_mul, Int.add_comm p, Int.sub_add_cancel, ← Int.mul_add, Int.add_comm h, Int.sub_add_cancel]
      have hpay := exn_pay_all hp ha hh hq hc hd m1 m2 HM.out m4 m5
      have HPAY := Lib.hid hpay
      have HM1 := Lib.hid m1
      clear m1 m2 m4 m5 hpay
      have hres := exn_all (p := p) (a := a) hh hq hc hd
      have HRES := Lib.hid hres
      clear hres
      go_wp2_with fail
      refine (now_yes h5 (by omega) 1 true a q ⟨by omega, by omega⟩ ⟨by omega, by omega⟩ ⟨by omega, by omega⟩ (exn_now ha hq HM.out).1 [100 - h, 0, 0, 10000 - a * q] [100 - h, p * h, h, 10000 - a * q + (a - p) * h] [(⟨1, ((0 + 1 : Nat) : Int) + 1, 1, 0, p, h⟩ : Trd)] (q - h) [] ([] : List Ord) (exn_now ha hq HM.out).2 HRES.out.1 HPAY.out.1 HRES.out.2.1 HRES.out.2.2).mono ?_
      rintro e w6 ⟨a6, d6, rfl, hN6, h6, -⟩
      rw [HPAY.out.2] at h6
      simp only [List.length_cons, List.length_nil]
      clear h5 HRES HPAY
      have dA : decide (p ≤ a) = true := by simp; omega
      obtain ⟨gt, rfl, -, -, t0, t1, t2, t3, t4, t5⟩ := tr_at hN6 (k := 0) (by simp)
      simp only [List.getD_cons_zero, Nat.zero_mul, Nat.zero_add] at t0 t1 t2 t3 t4 t5
      clear hN6
      go_wp2_with fail
      go_loopw [18, 77] (fun v i wx => ((v = .int .u64 0 ∧ i = .int .i64 0) ∨ (v = .int .u64 h ∧ i = .int .i64 1)) ∧ Chg [] w6 wx) (fun _ i _ => 1 - (intOf i).toNat)
      case atStart => exact ⟨.inl ⟨rfl, rfl⟩, Chg.refl _ _⟩
      case round =>
        obtain ⟨hcs, hch⟩ := hrel
        rcases hcs with ⟨rfl, rfl⟩ | ⟨rfl, rfl⟩
        · have u0 := hch.cell t0 (by simp)
          have u1 := hch.cell t1 (by simp)
          have u2 := hch.cell t2 (by simp)
          have u3 := hch.cell t3 (by simp)
          have u4 := hch.cell t4 (by simp)
          have u5 := hch.cell t5 (by simp)
          have wz : IntKind.u64.wrap h = h := by simp [IntKind.wrap, IntKind.bits, IntKind.signed]; omega
          have hch2 := hch.alloc (.cells #[.int .i64 1, .int .i64 (((0 + 1 : Nat) : Int) + 1), .int .i64 1, .int .i64 0, .int .u64 p, .int .u64 h] 85)
          have HCH2 : Hid (∀ o, Chg [] w6 (wr.alloc o)) := fun o => hch.alloc o
          clear t0 t1 t2 t3 t4 t5 h6 hch hch2
          go_wp2_with fail
          go_roundw
          case rel => exact ⟨.inr ⟨by simp [wz], rfl⟩, HCH2.out _⟩
          case measure => simp [intOf]
        · have h7 := h6.to hch
          clear h6 hch t0 t1 t2 t3 t4 t5
          have wA : IntKind.u64.wrap (h * p) = (p * h) := by have := HM1.out; rw [Int.mul_comm]; simp [IntKind.wrap, IntKind.bits, IntKind.signed]; omega
          have wB : IntKind.u64.wrap (10000 - (p * h)) = (10000 - p * h) := by have := HM1.out; simp [IntKind.wrap, IntKind.bits, IntKind.signed]; omega
          have wC : IntKind.u64.wrap (100 - h) = 100 - h := by simp [IntKind.wrap, IntKind.bits, IntKind.signed]; omega
          have wD : IntKind.u64.wrap (h - h) = 0 := by simp [IntKind.wrap, IntKind.bits, IntKind.signed] <;> omega

          go_wp2_with fail
          refine (free_is h7.a 1 1 (10000 - p * h) (exn_free).1).mono ?_
          rintro e w8 ⟨rfl, rfl⟩
          go_wp2_with fail
          refine (free_is h7.a 1 0 h (exn_free).2.1).mono ?_
          rintro e w8 ⟨rfl, rfl⟩
          go_wp2_with fail
          refine (free_is h7.a 0 1 (p * h) (exn_free).2.2.1).mono ?_
          rintro e w8 ⟨rfl, rfl⟩
          go_wp2_with fail
          refine (free_is h7.a 0 0 (100 - h) (exn_free).2.2.2).mono ?_
          rintro e w8 ⟨rfl, rfl⟩
          go_wp2_with fail
          refine (locked_any h7 (by omega) 0 0 0 (exn_end_all (p := p) (h := h) (q := q)).1).mono ?_
          rintro e w9 ⟨rfl, c9⟩
          have h9 := h7.to c9
          clear h7 c9
          go_wp2_with fail
          refine (locked_any h9 (by omega) 1 1 0 (exn_end_all (p := p) (h := h) (q := q)).2).mono ?_
          rintro e w10 ⟨rfl, c10⟩
          have h10 := h9.to c10
          clear h9 c10
          go_wp2_with fail
          refine (exBook h10).mono ?_
          rintro e w11 ⟨rfl, rfl⟩
          go_wp2_with fail
          refine (bBids h10.b.bk (by simp)).mono ?_
          rintro e w12 ⟨v12, rfl, hO, c12⟩
          obtain ⟨a12, d12, rfl, -⟩ := hO.osn
          have h12 := h10.to c12
          simp only [List.length_nil]
          clear h10 c12 hO
          go_wp2_with fail
          refine (awake10 _).mono ?_
          rintro e w18 ⟨rfl, c18⟩
          go_wp2_with fail
          go_ret
          exact ⟨rfl, (h12.b.c.trans c18).below⟩
end Go.Proofs.Yteabcpmpcbjicaa
