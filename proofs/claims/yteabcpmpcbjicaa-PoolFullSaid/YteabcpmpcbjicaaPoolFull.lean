
import Derived.Test.YteabcpmpcbjicaaAwake14
import Derived.Test.YteabcpmpcbjicaaPoolFR
import Derived.Test.YteabcpmpcbjicaaShell
import Derived.Deep.CutBlock
namespace Go.Proofs.Yteabcpmpcbjicaa
set_option linter.unusedVariables false
set_option maxRecDepth 100000
open Go Go.Proofs Go.RowKit Go.Maps
attribute [local go_sem ↓] Go.wp_at_zero Go.wp_at_succ

def okF (i : Nat) : Bool := decide (lNextV 60 (LS1 60) (i : Int) = 0) && decide (aFree 60 (LS1 60).xs (i : Int) 1 = 1000)
theorem okF_all : (List.range 60).all okF = true := by kernel_rfl
theorem okF_at {i : Nat} (h : i < 60) : lNextV 60 (LS1 60) (i : Int) = 0 ∧ aFree 60 (LS1 60).xs (i : Int) 1 = 1000 := by
  have := List.all_eq_true.1 okF_all i (List.mem_range.2 h)
  unfold okF at this
  simpa only [Bool.and_eq_true, decide_eq_true_eq] using this
theorem me_in2 {φ : Nat → Int} {k : Nat} (h : k ≤ 999) : inR (me φ k) = true := by
  unfold inR me
  rw [Bool.and_eq_true, decide_eq_true_eq, decide_eq_true_eq]
  exact ⟨Int.natCast_nonneg _, by show (k : Int) ≤ 999; omega⟩
/-- The fees that are asked. -/
def feF (z : List Int) (i : Nat) : Int := bits BinOp.and .u64 (z.getD i 0) 15 + 1
theorem feF_in (z : List Int) (i : Nat) : 0 < feF z i ∧ feF z i ≤ 16 := by
  obtain ⟨f, h, k⟩ := and15_u64 (z.getD i 0)
  unfold feF; rw [h]; omega
theorem SubM.okFe {z : List Int} {n : Nat} {L : List Env} (h : SubM (feF z) n L) (hn : n ≤ 100) : ∀ x ∈ L, x.Ok := fun x hx => by
  obtain ⟨k, hk, rfl⟩ := h x hx
  have := feF_in z k
  exact me_ok (by omega) ⟨by omega, by omega⟩
/-- What waits, wanted. -/
theorem full_step {z : List Int} {i : Nat} {L : List Env} {most : Nat} (h : SubM (feF z) i L) (hi : i < 50) (hp : 0 < most) (hm : most ≤ 8) (hl : L.length ≤ most) :
    (L.length < most ∧ pAddV 60 (LS1 60) most L true (me (feF z) i) = (0, L ++ [me (feF z) i])) ∨
    (L.length = most ∧ (me (feF z) i).fee ≤ (L.getD (kx L L.length) Env.zero).fee ∧ pAddV 60 (LS1 60) most L true (me (feF z) i) = (11, L)) ∨
    (L.length = most ∧ ¬ (me (feF z) i).fee ≤ (L.getD (kx L L.length) Env.zero).fee ∧ pAddV 60 (LS1 60) most L true (me (feF z) i) = (0, (L.take (kx L L.length) ++ L.drop (kx L L.length + 1)) ++ [me (feF z) i])) := by
  obtain ⟨q1, q2⟩ := okF_at (i := i) (by omega)
  have hf := feF_in z i
  by_cases hlt : L.length < most
  · exact .inl ⟨hlt, full_room h (by omega) q1 q2 hf.1 (by omega)⟩
  · have h2 := full_none (most := (most : Int)) h (by omega) (by omega) q1 q2 hf.1 (by omega)
    right
    by_cases hq : feF z i ≤ (L.getD (kx L L.length) Env.zero).fee
    · rw [if_pos hq] at h2
      exact .inl ⟨by omega, hq, h2⟩
    · rw [if_neg hq] at h2
      exact .inr ⟨by omega, hq, h2⟩
set_option maxHeartbeats 16000000 in
theorem poolfull_walk (most0 : Int) (a1 : Option Addr) (n1 cap1 : Nat) (z : List Int) (w : World) (hn : n1 = z.length) (hzm : n1 ≤ 9223372036854775807) (hU : ∀ x ∈ z, U x) (hr0 : Row64 w a1 z) :
    Calls Try.prog 3 #[.int .i64 most0, .slice a1 n1 cap1] w fun e w' => e = .returned (.bool true) ∧ Below w.heap.size w w' := by
  obtain ⟨f, hf, hf8⟩ := and7_i64 most0
  have wf : IntKind.i64.wrap ((f : Int) + 1) = ((f + 1 : Nat) : Int) := by simp [IntKind.wrap, IntKind.bits, IntKind.signed]; omega
  obtain ⟨most, hmo⟩ : ∃ n, f + 1 = n := ⟨_, rfl⟩
  rw [hmo] at wf
  have hM : 0 < most ∧ most ≤ 8 := by omega
  have HMO := Lib.hid hM
  have HR := Lib.hid hr0
  have HNZ := Lib.hid hn
  have hM8 : most ≤ 8 := hM.2
  clear hmo hf8 hr0 hU hn hM
  go_enter Try.func3, Try.ntmps3
  go_wp2_with fail
  refine (enNew 1 (by omega) (by omega) w).mono ?_
  rintro y w1 ⟨g, FE, rfl, h1⟩
  go_wp2_with fail
  refine (ledNew 60 (by omega) (by omega) w1).mono ?_
  rintro y w2 ⟨l, FL, rfl, h2⟩
  go_wp2_with fail
  refine (pNew w2 g (most : Int) (by omega) (by omega)).mono ?_
  rintro y w3 ⟨rfl, h3, c3⟩
  have HX : Hid (PX w w3 g l w2.heap.size 60 FE FL [w2.heap.size] W0 (LS1 60) most [] 0 0) := PX.start h1 h2 h3 c3
  clear h1 h2 h3 c3
  generalize w2.heap.size = p at *
  go_wp2_with fail
  go_loopw [8, 9] (fun v8 v9 wr => ∃ (u8 : Value) (i : Nat) (FE FP : List Nat) (W : WS) (L : List Env) (t : Nat), u8 = v8 ∧ i ≤ n1 ∧ i ≤ 50 ∧ v9 = .int .i64 i ∧ t ≤ 4 * i ∧ L.length ≤ most ∧ Hid (PX w wr g l p 60 FE FL FP W (LS1 60) most L t 0) ∧ Hid (DW (feF z) W i) ∧ Hid (SubM (feF z) i L) ∧ Hid (Erw wr u8 L) ∧ Hid (Dj3 w.heap.size (pxF FE FL FP) (obl u8) [] [])) (fun _ i _ => 50 - (intOf i).toNat)
  case atStart =>
    exact ⟨_, 0, FE, [p], W0, [], 0, rfl, by omega, by omega, rfl, by omega, by simp, HX, ⟨rfl, rfl, fun k hk => by omega⟩, fun x hx => by simp at hx, Erw.nil _, Dj3.nil _ _⟩
  case round =>
    clear HX
    obtain ⟨v8, i, FE, FP, W, L, t, rfl, hi1, hi2, rfl, ht, hlm, HX, HW, HS, H8, HJ⟩ := hrel
    by_cases hin : i < n1 ∧ i < 50
    · obtain ⟨hm1, hm2⟩ := hin
      have i0 : (0 : Int) ≤ (i : Int) := by omega
      have i1 : (i : Int) < (n1 : Int) := by omega
      have i3 : (i : Int) < 50 := by omega
      obtain ⟨b0, off0, ea, hcell⟩ := row_cells HR.out (k := i) (by have := HNZ.out; omega)
      subst ea
      have s0 := hcell wr HX.out.e.c.below
      obtain ⟨u0, hu0⟩ : ∃ u, z.getD i 0 = u := ⟨_, rfl⟩
      obtain ⟨fe, hfe, lfe⟩ := and15_u64 u0
      have hfF : feF z i = (fe : Int) + 1 := by unfold feF; rw [hu0, hfe]
      rw [hu0] at s0
      have wfe : IntKind.u64.wrap ((fe : Int) + 1) = (fe : Int) + 1 := by simp [IntKind.wrap, IntKind.bits, IntKind.signed]; omega
      obtain ⟨e, he⟩ : ∃ e, me (feF z) i = e := ⟨_, rfl⟩
      have hmk := HW.out.e ((fe : Int) + 1) hfF
      rw [he] at hmk
      have HE := Lib.hid he
      have HMK := Lib.hid hmk
      clear hcell hu0 hfF he hmk
      go_wp2_with fail
      refine (enMake HX.out.e (by omega) i 0 ((fe : Int) + 1) (by omega) (by omega) ⟨by decide, by decide⟩ ⟨by omega, by omega⟩ e HMK.out).mono ?_
      rintro y v1 ⟨rfl, FE1, s1, hE, hC, hG⟩
      have HX1 := Lib.hid (HX.out.env hE hC hG)
      have hW1 := HW.out.make s1
      rw [HE.out] at hW1
      have HW1 := Lib.hid hW1
      have HJ1 := Lib.hid (HJ.out.gF (grwE hG) H8.out.lt (by simp) (by simp))
      have H81 := Lib.hid (H8.out.chg hC (fun z hz hm => (HJ.out.a z hz).1 (subE z hm)))
      clear HX HW HJ H8 hE hC hG hW1 HMK s0
      have hbe : Blk (v1.alloc (.cells #[.int .i64 e.client, .int .u64 e.nonce, .int .u64 e.fee, .int .i64 e.cipher] 32)) v1.heap.size 32 (nc e) := Blk.new v1 (nc e) 32
      have cA : Chg [] v1 (v1.alloc (.cells #[.int .i64 e.client, .int .u64 e.nonce, .int .u64 e.fee, .int .i64 e.cipher] 32)) := (Chg.refl _ _).alloc _
      have HX2 := Lib.hid (HX1.out.to cA)
      have H82 := Lib.hid (H81.out.chg cA (by simp))
      have HB1 : Hid (v1.heap.size ∉ pxF FE1 FL FP) := fun hm => by have := (HX1.out.ltF _ hm).2; omega
      have HB2 : Hid (v1.heap.size ∉ obl v8) := fun hm => by have := H81.out.lt _ hm; omega
      clear H81 HX1 cA
      go_upto_region 13 with (fail)
      generalize v1.heap.size = b at *
      generalize v1.alloc _ = u1 at *
      have y0 := hbe.at (i := 0) rfl
      have y1 := hbe.at (i := 1) rfl
      have y2 := hbe.at (i := 2) rfl
      have y3 := hbe.at (i := 3) rfl
      have hst := full_step HS.out hm2 HMO.out.1 HMO.out.2 hlm
      rw [HE.out] at hst
      have hok : e.Ok := by rw [← HE.out]; have := feF_in z i; exact me_ok (by omega) ⟨by omega, by omega⟩
      have hinR : inR e = true := by rw [← HE.out]; exact me_in2 (by omega)
      have HADD : Hid (∀ (c : Int) (L' : List Env), pAddV 60 (LS1 60) most L true e = (c, L') → Calls Try.prog 19 #[.pointer (some ⟨p, 0, none⟩), nv e, .pointer (some ⟨l, 0, none⟩)] u1 fun y w' => y = .returned (.int .i64 c) ∧ ∃ FE' FP', PX w w' g l p 60 FE' FL FP' (mkW W e s1) (LS1 60) most L' (t + 3 + 1) 0 ∧ Chg (FE1 ++ FP) u1 w' ∧ Grw u1.heap.size (FE1 ++ FP) (FE' ++ FP')) := fun c L' h => addK HX2.out (by omega) (by omega) (by omega) e hok hinR (HS.out.okFe (by omega)) (Known.new _ _ _) c L' h
      clear hok hinR
      have hJU : Hid (∀ {FE2 FP2 : List Nat} {u2 : World}, Chg (FE1 ++ FP) u1 u2 → Grw u1.heap.size (FE1 ++ FP) (FE2 ++ FP2) → Dj3 w.heap.size (pxF FE2 FL FP2) (obl v8) [] [] ∧ Erw u2 v8 L ∧ Blk u2 b 32 (nc e) ∧ b ∉ pxF FE2 FL FP2) := fun hC hG => ⟨HJ1.out.gF (grwEP hG) H82.out.lt (by simp) (by simp), H82.out.chg hC (fun z hz hm => (HJ1.out.a z hz).1 (subEP z hm)), hbe.chg hC (fun hm => HB1.out (subEP _ hm)), fun hm => by
        rcases grwEP (FL := FL) hG b hm with q | q
        · exact HB1.out q
        · have := hbe.lt; omega⟩
      obtain ⟨a8, c8, e8, -⟩ := H82.out.sl
      obtain ⟨m, hm⟩ : ∃ m, L.length = m := ⟨_, rfl⟩
      rw [hm] at e8 hst hlm
      have HM := Lib.hid hm
      clear hm
      rcases hst with ⟨hr, hv⟩ | ⟨hr, hq, hv⟩ | ⟨hr, hq, hv⟩
      · -- room
        have d1 : decide ((m : Int) < (most : Int)) = true := by simp; omega
        have HA := Lib.hid (HADD.out _ _ hv)
        clear HADD hv
        go_wp2_with fail
        refine HA.out.mono ?_
        rintro y u2 ⟨rfl, FE2, FP2, hX, hC, hG⟩
        obtain ⟨hJ3, h83, hb3, hbn⟩ := hJU.out hC hG
        have HX3 := Lib.hid hX
        have HJ3 := Lib.hid hJ3
        have H83 := Lib.hid h83
        have HB3 := Lib.hid hb3
        clear HA hX hC hG hJ3 h83 hb3 hbn hJU HX2 HJ1 H82 HB1 hbe y0 y1 y2 y3
        subst e8
        have y0 := HB3.out.at (i := 0) rfl
        have y1 := HB3.out.at (i := 1) rfl
        have y2 := HB3.out.at (i := 2) rfl
        have y3 := HB3.out.at (i := 3) rfl
        have cB := fun ob => (Chg.refl [] u2).alloc ob
        have H84 := fun ob => H83.out.chg (cB ob) (by simp)
        go_wp2_with (at_builtin; refine app_env rfl (.tmp 61) (.tmp 63) rfl rfl (H84 _) u2.heap.size 1 e rfl (Blk.new u2 (nc e) 32) (by rw [HM.out]; omega) ?_)
        intro g8 c8' u3 h85 c85 hat8
        have hat8' : g8 ∈ obl (.slice a8 m c8) ∨ u2.heap.size ≤ g8 := hat8.imp (fun q => by simp [obl, q]) (fun q => by omega)
        have cT : Chg (obl (.slice a8 m c8)) u2 u3 := ((cB _).mono (by simp)).trans c85
        have hsz2 : w.heap.size ≤ u2.heap.size := HX3.out.e.c.size
        have HX4 := Lib.hid (HX3.out.away cT (fun z hz => ⟨(HJ3.out.a z hz).1, HJ3.out.lo.1 z hz⟩))
        have HJ4 := Lib.hid (HJ3.out.gA hat8' hsz2 (fun z hz => (HX3.out.ltF z hz).2) (by simp) (by simp))
        obtain ⟨L3, hL3⟩ : ∃ L3, L ++ [e] = L3 := ⟨_, rfl⟩
        rw [hL3] at h85 HX4
        obtain ⟨m3, hm3e⟩ : ∃ m3, m + 1 = m3 := ⟨_, rfl⟩
        have hl3 : L3.length = m3 := by rw [← hL3, List.length_append, HM.out, ← hm3e]; rfl
        have h86 : Erw u3 (.slice (some ⟨g8, 0, none⟩) m3 c8') L3 := by rw [← hm3e, ← HM.out]; exact h85
        have H86 := Lib.hid h86
        have HS3 : Hid (SubM (feF z) (i + 1) L3) := by show SubM _ _ _; rw [← hL3, ← HE.out]; exact HS.out.snoc (fun x hx => hx)
        have hl3m : L3.length ≤ most := by omega
        have HL3M := Lib.hid hl3m
        have HJ4' : Hid (Dj3 w.heap.size (pxF FE2 FL FP2) (obl (.slice (some ⟨g8, 0, none⟩) m3 c8')) [] []) := HJ4.out
        clear H84 cB c85 hat8 hat8' h85 h86 cT HX3 HJ3 H83 HB3 HJ4 y0 y1 y2 y3 hL3
        rw [HM.out]
        (try rw [hm3e])
        clear hm3e
        have hm3 : m3 ≤ 8 := by omega
        have HM3 : Hid (L3.length = m3) := hl3
        go_wp2_with fail
        refine (pAll HX4.out.p HM3.out (by omega)).mono ?_
        rintro y u9 ⟨v14, rfl, ho, c9⟩
        obtain ⟨a14, c14, rfl, -, hN14, -⟩ := own_nsl ho
        have HX9 := Lib.hid (HX4.out.to c9)
        have H89 := Lib.hid (H86.out.chg c9 (by simp))
        have HN14 := Lib.hid hN14
        have HJ9 := HJ4'
        obtain ⟨a8n, c8n, e8n, -⟩ := H89.out.sl
        rw [HM3.out] at e8n
        injection e8n with q81 q82 q83
        subst q81 q83
        have hm0 : ((m3 : Int) != (m3 : Int)) = false := by simp
        have hml : ((L3.length : Nat) : Int) = (m3 : Int) := by rw [HM3.out]
        clear ho c9 hN14 HX4 H86 HJ4'
        go_wp2_with fail
        refine (pLen HX9.out.p (m3 : Int) hml).mono ?_
        rintro y uL ⟨rfl, rfl⟩
        go_wp2_with fail
        go_loopw [133] (fun i wr => ∃ (j : Nat), j ≤ m3 ∧ i = .int .i64 j ∧ Hid (Chg [] u9 wr)) (fun i _ => m3 - (intOf i).toNat)
        case atStart => exact ⟨0, by omega, rfl, Chg.refl _ _⟩
        case round =>
          obtain ⟨j, hj, rfl, HC⟩ := hrel
          by_cases hjm : j < m3
          · have j1 : (j : Int) < (m3 : Int) := by omega
            have j2 : (j : Int) < 8 := by omega
            have j0 : (0 : Int) ≤ (j : Int) := by omega
            obtain ⟨s14, e14, hr14⟩ := nsl_at (HN14.out.chg HC.out (by simp)) (k := j) (by rw [HM3.out]; exact hjm)
            obtain ⟨s8, e8, hr8⟩ := nsl_at ((H89.out.nsl).1.chg HC.out (by simp)) (k := j) (by rw [HM3.out]; exact hjm)
            obtain ⟨x0, x1, x2, x3⟩ := Nrow.at hr14 (show j < _ by rw [HM3.out]; exact hjm)
            obtain ⟨z0, z1, z2, z3⟩ := Nrow.at hr8 (show j < _ by rw [HM3.out]; exact hjm)
            clear hr14 hr8
            cases e14
            cases e8
            generalize L3.getD j Env.zero = x at *
            go_upto_region 35 with (fail)
            go_quiet (fail)
            have HC2 := Lib.hid (HC.out.trans ((Chg.refl [] wr).drewN nq))
            clear HC x0 x1 x2 x3 z0 z1 z2 z3
            generalize wr.drewN nq = wq at *
            go_wp2_with fail
            go_roundw
            case rel => exact ⟨j + 1, by omega, by go_num, HC2⟩
            case measure => simp [intOf]; omega
          · have hj2 : j = m3 := by omega
            subst hj2
            have HXe := Lib.hid (HX9.out.to HC.out)
            have H8e := Lib.hid (H89.out.chg HC.out (by simp))
            clear HX9 H89 HN14 HC hjm hj
            go_wp2_with fail
            go_roundw
            case rel => exact ⟨_, i + 1, FE2, FP2, _, L3, _, rfl, by omega, by omega, by go_num, by omega, by omega, HXe, HW1, HS3, H8e, HJ9⟩
            case measure => simp [intOf]; omega
      · -- full, and no more than the least
        have d1 : decide ((m : Int) < (most : Int)) = false := by simp; omega
        have d1b : decide (m < most) = false := by simp; omega
        have HA := Lib.hid (HADD.out _ _ hv)
        have HQ := Lib.hid hq
        have hm0p : 0 < m := by have := HMO.out.1; omega
        have HMM := Lib.hid hr
        clear HADD hv hq hr
        go_wp2_with fail
        refine HA.out.mono ?_
        rintro y u2 ⟨rfl, FE2, FP2, hX, hC, hG⟩
        obtain ⟨hJ3, h83, hb3, hbn⟩ := hJU.out hC hG
        have HX3 := Lib.hid hX
        have HJ3 := Lib.hid hJ3
        have H83 := Lib.hid h83
        have HB3 := Lib.hid hb3
        clear HA hX hC hG hJ3 h83 hb3 hbn hJU HX2 HJ1 H82 HB1 hbe y0 y1 y2 y3
        subst e8
        have y2 := HB3.out.at (i := 2) rfl
        go_wp2_with fail
        go_loopw [12, 67] (fun vk vj wr => ∃ (j : Nat), j ≤ m ∧ vj = .int .i64 j ∧ vk = .int .i64 ((kx L j : Nat) : Int) ∧ Hid (Chg [] u2 wr)) (fun _ i _ => m - (intOf i).toNat)
        case atStart => exact ⟨0, by omega, rfl, rfl, Chg.refl _ _⟩
        case round =>
          obtain ⟨j, hj, rfl, rfl, HC⟩ := hrel
          have hkj := kx_le L j
          by_cases hjm : j < m
          · have hkx := kx_succ L j
            have j1 : (j : Int) < (m : Int) := by omega
            have j2 : (j : Int) < 8 := by omega
            have j0 : (0 : Int) ≤ (j : Int) := by omega
            obtain ⟨s8, e8s, hr8⟩ := nsl_at ((H83.out.nsl).1.chg HC.out (by simp)) (k := j) (by rw [HM.out]; exact hjm)
            obtain ⟨x0, x1, x2, x3⟩ := Nrow.at hr8 (show j < _ by rw [HM.out]; exact hjm)
            obtain ⟨z0, z1, z2, z3⟩ := Nrow.at hr8 (show kx L j < _ by rw [HM.out]; omega)
            subst e8s
            have k0 : (0 : Int) ≤ ((kx L j : Nat) : Int) := by omega
            have k1 : ((kx L j : Nat) : Int) < (m : Int) := by omega
            have HKX := Lib.hid hkx
            clear hr8 hkx
            generalize hkk : kx L j = kk at *
            generalize L.getD j Env.zero = xj at *
            generalize L.getD kk Env.zero = xk at *
            by_cases hle : xj.fee ≤ xk.fee
            · have dl : decide (xj.fee ≤ xk.fee) = true := by simpa using hle
              have hn : kx L (j + 1) = j := by rw [HKX.out, if_pos hle]
              have HN := Lib.hid hn
              clear hle hn
              go_upto_region 22 with (fail)
              go_quiet (fail)
              have HC2 := Lib.hid (HC.out.trans ((Chg.refl [] wr).drewN nq))
              clear HC x0 x1 x2 x3 z0 z1 z2 z3
              generalize wr.drewN nq = wq at *
              go_wp2_with fail
              go_roundw
              case rel => exact ⟨j + 1, by omega, by go_num, by rw [HN.out], HC2⟩
              case measure => simp [intOf]; omega
            · have dl : decide (xj.fee ≤ xk.fee) = false := by simpa using hle
              have hn : kx L (j + 1) = kk := by rw [HKX.out, if_neg hle]
              have HN := Lib.hid hn
              clear hle hn
              go_upto_region 22 with (fail)
              go_quiet (fail)
              have HC2 := Lib.hid (HC.out.trans ((Chg.refl [] wr).drewN nq))
              clear HC x0 x1 x2 x3 z0 z1 z2 z3
              generalize wr.drewN nq = wq at *
              go_wp2_with fail
              go_roundw
              case rel => exact ⟨j + 1, by omega, by go_num, by rw [HN.out], HC2⟩
              case measure => simp [intOf]; omega
          have hjm2 : m = j := by omega
          subst hjm2
          clear hjm hj hkj
          have hkm : kx L m < m := kx_lt hm0p
          obtain ⟨s8, e8s, hr8⟩ := nsl_at ((H83.out.nsl).1.chg HC.out (by simp)) (k := kx L m) (by rw [HM.out]; exact hkm)
          obtain ⟨x0, x1, x2, x3⟩ := Nrow.at hr8 (show kx L m < _ by rw [HM.out]; exact hkm)
          subst e8s
          have y2 := (HB3.out.chg HC.out (by simp)).at (i := 2) rfl
          have k0 : (0 : Int) ≤ ((kx L m : Nat) : Int) := by omega
          have k1 : ((kx L m : Nat) : Int) < (m : Int) := by omega
          have k2 : ((kx L m : Nat) : Int) < 8 := by omega
          clear hr8
          have hle : decide ((L.getD (kx L m) Env.zero).fee < e.fee) = false := by rw [decide_eq_false_iff_not]; have h1 := HQ.out; omega
          obtain ⟨lx, hlx⟩ : ∃ x, L.getD (kx L m) Env.zero = x := ⟨_, rfl⟩
          rw [hlx] at hle x0 x1 x2 x3
          clear hlx
          go_upto_region 25 with (fail)
          go_quiet (fail)
          have cW : Chg [] wr (wr.drewN nq) := (Chg.refl [] wr).drewN nq
          have HX4 := Lib.hid (HX3.out.to (HC.out.trans cW))
          have H84 := Lib.hid (H83.out.chg (HC.out.trans cW) (by simp))
          clear HC x0 x1 x2 x3 y2 cW H83 HX3
          generalize wr.drewN nq = wq at *
          obtain ⟨L3, hL3⟩ : ∃ L3, L = L3 := ⟨_, rfl⟩
          have HS3 : Hid (SubM (feF z) (i + 1) L3) := by show SubM _ _ _; rw [← hL3]; exact HS.out.up
          rw [hL3] at HX4 H84
          obtain ⟨m3, hm3e⟩ : ∃ m3, m3 = m := ⟨_, rfl⟩
          subst hm3e
          have hl3 : L3.length = m3 := by rw [← hL3, HM.out]
          have HL3M : Hid (L3.length ≤ most) := by show _ ≤ _; omega
          clear hL3
          have hm3 : m3 ≤ 8 := by omega
          have HM3 : Hid (L3.length = m3) := hl3
          go_wp2_with fail
          refine (pAll HX4.out.p HM3.out (by omega)).mono ?_
          rintro y u9 ⟨v14, rfl, ho, c9⟩
          obtain ⟨a14, c14, rfl, -, hN14, -⟩ := own_nsl ho
          have HX9 := Lib.hid (HX4.out.to c9)
          have H89 := Lib.hid (H84.out.chg c9 (by simp))
          have HN14 := Lib.hid hN14
          have HJ9 := HJ3
          obtain ⟨a8n, c8n, e8n, -⟩ := H89.out.sl
          rw [HM3.out] at e8n
          injection e8n with q81 q82 q83
          subst q81 q83
          have hm0 : ((m3 : Int) != (m3 : Int)) = false := by simp
          have hml : ((L3.length : Nat) : Int) = (m3 : Int) := by rw [HM3.out]
          clear ho c9 hN14 HX4 H84
          go_wp2_with fail
          refine (pLen HX9.out.p (m3 : Int) hml).mono ?_
          rintro y uL ⟨rfl, rfl⟩
          go_wp2_with fail
          go_loopw [133] (fun i wr => ∃ (j : Nat), j ≤ m3 ∧ i = .int .i64 j ∧ Hid (Chg [] u9 wr)) (fun i _ => m3 - (intOf i).toNat)
          case atStart => exact ⟨0, by omega, rfl, Chg.refl _ _⟩
          case round =>
            obtain ⟨j, hj, rfl, HC⟩ := hrel
            by_cases hjm : j < m3
            · have j1 : (j : Int) < (m3 : Int) := by omega
              have j2 : (j : Int) < 8 := by omega
              have j0 : (0 : Int) ≤ (j : Int) := by omega
              obtain ⟨s14, e14, hr14⟩ := nsl_at (HN14.out.chg HC.out (by simp)) (k := j) (by rw [HM3.out]; exact hjm)
              obtain ⟨s8, e8, hr8⟩ := nsl_at ((H89.out.nsl).1.chg HC.out (by simp)) (k := j) (by rw [HM3.out]; exact hjm)
              obtain ⟨x0, x1, x2, x3⟩ := Nrow.at hr14 (show j < _ by rw [HM3.out]; exact hjm)
              obtain ⟨z0, z1, z2, z3⟩ := Nrow.at hr8 (show j < _ by rw [HM3.out]; exact hjm)
              clear hr14 hr8
              cases e14
              cases e8
              generalize L3.getD j Env.zero = x at *
              go_upto_region 35 with (fail)
              go_quiet (fail)
              have HC2 := Lib.hid (HC.out.trans ((Chg.refl [] wr).drewN nq))
              clear HC x0 x1 x2 x3 z0 z1 z2 z3
              generalize wr.drewN nq = wq at *
              go_wp2_with fail
              go_roundw
              case rel => exact ⟨j + 1, by omega, by go_num, HC2⟩
              case measure => simp [intOf]; omega
            · have hj2 : j = m3 := by omega
              subst hj2
              have HXe := Lib.hid (HX9.out.to HC.out)
              have H8e := Lib.hid (H89.out.chg HC.out (by simp))
              clear HX9 H89 HN14 HC hjm hj
              go_wp2_with fail
              go_roundw
              case rel => exact ⟨_, i + 1, FE2, FP2, _, L3, _, rfl, by omega, by omega, by go_num, by omega, by omega, HXe, HW1, HS3, H8e, HJ9⟩
              case measure => simp [intOf]; omega
      · -- full, and more than the least
        have d1 : decide ((m : Int) < (most : Int)) = false := by simp; omega
        have d1b : decide (m < most) = false := by simp; omega
        have HA := Lib.hid (HADD.out _ _ hv)
        have HQ := Lib.hid hq
        have hm0p : 0 < m := by have := HMO.out.1; omega
        have HMM := Lib.hid hr
        clear HADD hv hq hr
        go_wp2_with fail
        refine HA.out.mono ?_
        rintro y u2 ⟨rfl, FE2, FP2, hX, hC, hG⟩
        obtain ⟨hJ3, h83, hb3, hbn⟩ := hJU.out hC hG
        have HX3 := Lib.hid hX
        have HJ3 := Lib.hid hJ3
        have H83 := Lib.hid h83
        have HB3 := Lib.hid hb3
        clear HA hX hC hG hJ3 h83 hb3 hbn hJU HX2 HJ1 H82 HB1 hbe y0 y1 y2 y3
        subst e8
        have y2 := HB3.out.at (i := 2) rfl
        go_wp2_with fail
        go_loopw [12, 67] (fun vk vj wr => ∃ (j : Nat), j ≤ m ∧ vj = .int .i64 j ∧ vk = .int .i64 ((kx L j : Nat) : Int) ∧ Hid (Chg [] u2 wr)) (fun _ i _ => m - (intOf i).toNat)
        case atStart => exact ⟨0, by omega, rfl, rfl, Chg.refl _ _⟩
        case round =>
          obtain ⟨j, hj, rfl, rfl, HC⟩ := hrel
          have hkj := kx_le L j
          by_cases hjm : j < m
          · have hkx := kx_succ L j
            have j1 : (j : Int) < (m : Int) := by omega
            have j2 : (j : Int) < 8 := by omega
            have j0 : (0 : Int) ≤ (j : Int) := by omega
            obtain ⟨s8, e8s, hr8⟩ := nsl_at ((H83.out.nsl).1.chg HC.out (by simp)) (k := j) (by rw [HM.out]; exact hjm)
            obtain ⟨x0, x1, x2, x3⟩ := Nrow.at hr8 (show j < _ by rw [HM.out]; exact hjm)
            obtain ⟨z0, z1, z2, z3⟩ := Nrow.at hr8 (show kx L j < _ by rw [HM.out]; omega)
            subst e8s
            have k0 : (0 : Int) ≤ ((kx L j : Nat) : Int) := by omega
            have k1 : ((kx L j : Nat) : Int) < (m : Int) := by omega
            have HKX := Lib.hid hkx
            clear hr8 hkx
            generalize hkk : kx L j = kk at *
            generalize L.getD j Env.zero = xj at *
            generalize L.getD kk Env.zero = xk at *
            by_cases hle : xj.fee ≤ xk.fee
            · have dl : decide (xj.fee ≤ xk.fee) = true := by simpa using hle
              have hn : kx L (j + 1) = j := by rw [HKX.out, if_pos hle]
              have HN := Lib.hid hn
              clear hle hn
              go_upto_region 22 with (fail)
              go_quiet (fail)
              have HC2 := Lib.hid (HC.out.trans ((Chg.refl [] wr).drewN nq))
              clear HC x0 x1 x2 x3 z0 z1 z2 z3
              generalize wr.drewN nq = wq at *
              go_wp2_with fail
              go_roundw
              case rel => exact ⟨j + 1, by omega, by go_num, by rw [HN.out], HC2⟩
              case measure => simp [intOf]; omega
            · have dl : decide (xj.fee ≤ xk.fee) = false := by simpa using hle
              have hn : kx L (j + 1) = kk := by rw [HKX.out, if_neg hle]
              have HN := Lib.hid hn
              clear hle hn
              go_upto_region 22 with (fail)
              go_quiet (fail)
              have HC2 := Lib.hid (HC.out.trans ((Chg.refl [] wr).drewN nq))
              clear HC x0 x1 x2 x3 z0 z1 z2 z3
              generalize wr.drewN nq = wq at *
              go_wp2_with fail
              go_roundw
              case rel => exact ⟨j + 1, by omega, by go_num, by rw [HN.out], HC2⟩
              case measure => simp [intOf]; omega
          have hjm2 : m = j := by omega
          subst hjm2
          clear hjm hj hkj
          have hkm : kx L m < m := kx_lt hm0p
          obtain ⟨s8, e8s, hr8⟩ := nsl_at ((H83.out.nsl).1.chg HC.out (by simp)) (k := kx L m) (by rw [HM.out]; exact hkm)
          obtain ⟨x0, x1, x2, x3⟩ := Nrow.at hr8 (show kx L m < _ by rw [HM.out]; exact hkm)
          subst e8s
          have y2 := (HB3.out.chg HC.out (by simp)).at (i := 2) rfl
          have k0 : (0 : Int) ≤ ((kx L m : Nat) : Int) := by omega
          have k1 : ((kx L m : Nat) : Int) < (m : Int) := by omega
          have k2 : ((kx L m : Nat) : Int) < 8 := by omega
          clear hr8
          have hle : decide ((L.getD (kx L m) Env.zero).fee < e.fee) = true := by rw [decide_eq_true_eq]; have h1 := HQ.out; omega
          obtain ⟨lx, hlx⟩ : ∃ x, L.getD (kx L m) Env.zero = x := ⟨_, rfl⟩
          rw [hlx] at hle x0 x1 x2 x3
          clear hlx
          go_upto_region 25 with (fail)
          go_quiet (fail)
          have cW : Chg [] wr (wr.drewN nq) := (Chg.refl [] wr).drewN nq
          have HX4 := Lib.hid (HX3.out.to (HC.out.trans cW))
          have H84 := Lib.hid (H83.out.chg (HC.out.trans cW) (by simp))
          have HB4 := Lib.hid (HB3.out.chg (HC.out.trans cW) (by simp))
          clear HC x0 x1 x2 x3 y2 cW H83 HX3
          generalize wr.drewN nq = wq at *
          obtain ⟨g8, e8g, hcap, -⟩ := H84.out.cap hm0p
          cases e8g
          have wk9 : IntKind.i64.wrap ((kx L m : Int) + 1) = (kx L m : Int) + 1 := by simp [IntKind.wrap, IntKind.bits, IntKind.signed]; omega
          have hkm : kx L m < m := kx_lt hm0p
          have hL3e : Hid (L.take (kx L L.length) ++ L.drop (kx L L.length + 1) ++ [e] = L.take (kx L m) ++ L.drop (kx L m + 1) ++ [e]) := by show _ = _; rw [HM.out]
          go_upto_region 28 with (fail)
          have hm8 : m ≤ 8 := by omega
          go_cut [8] from 104 to 116 (fun v wx => ∃ (v3 : Value), v3 = v ∧ Erw wx v3 (L.take (kx L m) ++ L.drop (kx L m + 1) ++ [e]) ∧ Chg [] wq wx ∧ (∀ z ∈ obl v3, wq.heap.size ≤ z))
          case first =>
            by_cases hck : c8 = kx L m + 1
            · refine full_regB (n := m) (c8 := c8) (k := kx L m) (by intro c a d v w h; cases d <;> exact h) HB4 H84 HM.out hm0p hm8 hkm hcap wk9 (by omega) (by omega) (by omega) (by omega) (by omega) (by omega) (by omega) (by simp [hck]) (by show _ = _; omega) ?_
              intro v v3 r1 r2 r3
              intros
              go_wp2_with fail
              go_meet
              exact ⟨v3, rfl, r1, r2, r3⟩
            · refine full_regA (n := m) (c8 := c8) (k := kx L m) (by intro c a d v w h; cases d <;> exact h) HB4 H84 HM.out hm0p hm8 hkm hcap wk9 (by omega) (by omega) (by omega) (by omega) (by omega) (by omega) (by omega) hck ?_
              intro v v3 r1 r2 r3
              intros
              go_wp2_with fail
              go_meet
              exact ⟨v3, rfl, r1, r2, r3⟩
          case rest =>
            obtain ⟨v3, rfl, r1, r2, r3⟩ := hcut
            have hszq : w.heap.size ≤ wq.heap.size := HX4.out.e.c.size
            have HX5 := Lib.hid (HX4.out.to r2)
            obtain ⟨L3, hL3⟩ : ∃ L3, L.take (kx L m) ++ L.drop (kx L m + 1) ++ [e] = L3 := ⟨_, rfl⟩
            have HS3 : Hid (SubM (feF z) (i + 1) L3) := by
              show SubM _ _ _
              rw [← hL3, ← HE.out]
              exact HS.out.snoc (fun x hx => (List.mem_append.1 hx).elim List.mem_of_mem_take List.mem_of_mem_drop)
            rw [hL3] at HX5 r1
            have hl3 : L3.length = m := by rw [← hL3, List.length_append, List.length_append, List.length_take, List.length_drop, HM.out]; simp; omega
            obtain ⟨m3, hm3e⟩ : ∃ m3, m = m3 := ⟨_, rfl⟩
            rw [hm3e] at hl3
            have HL3M : Hid (L3.length ≤ most) := by show _ ≤ _; omega
            have HJ5 : Hid (Dj3 w.heap.size (pxF FE2 FL FP2) (obl v3) [] []) := ⟨fun z hz => ⟨fun hm => by have h1 := r3 z hz; have h2 := (HX4.out.ltF z hm).2; omega, by simp, by simp⟩, by simp, by simp, fun z hz => by have h1 := r3 z hz; omega, by simp, by simp⟩
            have H85 := Lib.hid r1
            obtain ⟨a8x, c8x, e8x, -⟩ := H85.out.sl
            rw [hl3] at e8x
            subst e8x
            clear r1 r2 r3 HX4 H84 HB4 hL3 hL3e HJ3
            have hm3 : m3 ≤ 8 := by omega
            have HM3 : Hid (L3.length = m3) := hl3
            go_wp2_with fail
            refine (pAll HX5.out.p HM3.out (by omega)).mono ?_
            rintro y u9 ⟨v14, rfl, ho, c9⟩
            obtain ⟨a14, c14, rfl, -, hN14, -⟩ := own_nsl ho
            have HX9 := Lib.hid (HX5.out.to c9)
            have H89 := Lib.hid (H85.out.chg c9 (by simp))
            have HN14 := Lib.hid hN14
            have HJ9 := HJ5
            obtain ⟨a8n, c8n, e8n, -⟩ := H89.out.sl
            rw [HM3.out] at e8n
            injection e8n with q81 q82 q83
            subst q81 q83
            have hm0 : ((m3 : Int) != (m3 : Int)) = false := by simp
            have hml : ((L3.length : Nat) : Int) = (m3 : Int) := by rw [HM3.out]
            clear ho c9 hN14 HX5 H85
            go_wp2_with fail
            refine (pLen HX9.out.p (m3 : Int) hml).mono ?_
            rintro y uL ⟨rfl, rfl⟩
            go_wp2_with fail
            go_loopw [133] (fun i wr => ∃ (j : Nat), j ≤ m3 ∧ i = .int .i64 j ∧ Hid (Chg [] u9 wr)) (fun i _ => m3 - (intOf i).toNat)
            case atStart => exact ⟨0, by omega, rfl, Chg.refl _ _⟩
            case round =>
              obtain ⟨j, hj, rfl, HC⟩ := hrel
              by_cases hjm : j < m3
              · have j1 : (j : Int) < (m3 : Int) := by omega
                have j2 : (j : Int) < 8 := by omega
                have j0 : (0 : Int) ≤ (j : Int) := by omega
                obtain ⟨s14, e14, hr14⟩ := nsl_at (HN14.out.chg HC.out (by simp)) (k := j) (by rw [HM3.out]; exact hjm)
                obtain ⟨s8, e8, hr8⟩ := nsl_at ((H89.out.nsl).1.chg HC.out (by simp)) (k := j) (by rw [HM3.out]; exact hjm)
                obtain ⟨x0, x1, x2, x3⟩ := Nrow.at hr14 (show j < _ by rw [HM3.out]; exact hjm)
                obtain ⟨z0, z1, z2, z3⟩ := Nrow.at hr8 (show j < _ by rw [HM3.out]; exact hjm)
                clear hr14 hr8
                cases e14
                cases e8
                generalize L3.getD j Env.zero = x at *
                go_upto_region 35 with (fail)
                go_quiet (fail)
                have HC2 := Lib.hid (HC.out.trans ((Chg.refl [] wr).drewN nq))
                clear HC x0 x1 x2 x3 z0 z1 z2 z3
                generalize wr.drewN nq = wq at *
                go_wp2_with fail
                go_roundw
                case rel => exact ⟨j + 1, by omega, by go_num, HC2⟩
                case measure => simp [intOf]; omega
              · have hj2 : j = m3 := by omega
                subst hj2
                have HXe := Lib.hid (HX9.out.to HC.out)
                have H8e := Lib.hid (H89.out.chg HC.out (by simp))
                clear HX9 H89 HN14 HC hjm hj
                go_wp2_with fail
                go_roundw
                case rel => exact ⟨_, i + 1, FE2, FP2, _, L3, _, rfl, by omega, by omega, by go_num, by omega, by omega, HXe, HW1, HS3, H8e, HJ9⟩
                case measure => simp [intOf]; omega
    · have hex : ¬ (i < n1 ∧ i < 50) := hin
      go_upto_region 10 with (fail)
      go_cut [39] from 32 to 39 (fun v wx => v = .bool false ∧ wr = wx)
      case first =>
        rcases Nat.lt_or_ge i n1 with hh | hh
        · have h6 : ¬ i < 50 := fun h7 => hex ⟨hh, h7⟩
          have d6 : decide ((i : Int) < 50) = false := by simp; omega
          go_wp2_with fail
          go_meet
          exact ⟨rfl, rfl⟩
        · have d6 : decide ((i : Int) < (n1 : Int)) = false := by simp; omega
          go_wp2_with fail
          go_meet
          exact ⟨rfl, rfl⟩
      case rest =>
        obtain ⟨rfl, rfl⟩ := hcut
        clear hex hin
        go_wp2_with fail
        refine (awake14 _).mono ?_
        rintro y u9 ⟨rfl, cA⟩
        go_wp2_with fail
        go_ret
        exact ⟨rfl, (HX.out.e.c.trans cA).below⟩
end Go.Proofs.Yteabcpmpcbjicaa
