
import Derived.Test.YteabcpmpcbjicaaAwake14
import Derived.Test.YteabcpmpcbjicaaRow4
import Derived.Test.YteabcpmpcbjicaaShell
namespace Go.Proofs.Yteabcpmpcbjicaa
set_option linter.unusedVariables false
set_option maxRecDepth 100000
open Go Go.Proofs Go.RowKit Go.Maps
attribute [local go_sem ↓] Go.wp_at_zero Go.wp_at_succ

theorem me_in {φ : Nat → Int} {k : Nat} (h : k ≤ 999) : inR (me φ k) = true := by
  unfold inR me
  rw [Bool.and_eq_true, decide_eq_true_eq, decide_eq_true_eq]
  exact ⟨Int.natCast_nonneg _, by show (k : Int) ≤ 999; omega⟩
def gb (gone : Int) (k : Nat) : Bool := decide (bits BinOp.and .i64 (gone / 2 ^ k) 1 = 1)
abbrev φ1 : Nat → Int := fun k => (k : Int) + 1
theorem φ1U {k : Nat} (h : k ≤ 1000) : U (φ1 k) := ⟨by show (0 : Int) ≤ (k : Int) + 1; omega, by show (k : Int) + 1 < _; omega⟩
def okD (i : Nat) : Bool := decide (lNextV 20 (LS1 20) (i : Int) = 0) && decide (aFree 20 (LS1 20).xs (i : Int) 1 = 1000)
theorem okD_all : (List.range 20).all okD = true := by kernel_rfl
theorem okD_at {i : Nat} (h : i < 20) : lNextV 20 (LS1 20) (i : Int) = 0 ∧ aFree 20 (LS1 20).xs (i : Int) 1 = 1000 := by
  have := List.all_eq_true.1 okD_all i (List.mem_range.2 h)
  unfold okD at this
  simpa only [Bool.and_eq_true, decide_eq_true_eq] using this
set_option maxHeartbeats 16000000 in
theorem pooldrops_walk (n0 gone : Int) (w : World) :
    Calls Try.prog 6 #[.int .i64 n0, .int .i64 gone] w fun e w' => e = .returned (.bool true) ∧ Below w.heap.size w w' := by
  obtain ⟨f, hf, hf16⟩ := and15_i64 n0
  have wf : IntKind.i64.wrap ((f : Int) + 1) = ((f + 1 : Nat) : Int) := by simp [IntKind.wrap, IntKind.bits, IntKind.signed]; omega
  obtain ⟨n, hn⟩ : ∃ n, f + 1 = n := ⟨_, rfl⟩
  rw [hn] at wf
  have hn16 : n ≤ 16 := by omega
  clear hn hf16
  go_enter Try.func6, Try.ntmps6
  go_wp2_with fail
  refine (enNew 1 (by omega) (by omega) w).mono ?_
  rintro y w1 ⟨g, FE, rfl, h1⟩
  go_wp2_with fail
  refine (ledNew 20 (by omega) (by omega) w1).mono ?_
  rintro y w2 ⟨l, FL, rfl, h2⟩
  go_wp2_with fail
  refine (pNew w2 g 20 (by omega) (by omega)).mono ?_
  rintro y w3 ⟨rfl, h3, c3⟩
  have HX : Hid (PX w w3 g l w2.heap.size 20 FE FL [w2.heap.size] W0 (LS1 20) 20 [] 0 0) := PX.start h1 h2 h3 c3
  clear h1 h2 h3 c3
  generalize w2.heap.size = p at *
  go_wp2_with fail
  go_loopw [8, 9, 10, 11] (fun v8 v9 v10 v11 wr => ∃ (u8 u9 u10 : Value) (k : Nat) (FE FP : List Nat) (W : WS) (t : Nat), u8 = v8 ∧ u9 = v9 ∧ u10 = v10 ∧ k ≤ n ∧ v11 = .int .i64 k ∧ t ≤ 4 * k ∧ Hid (PX w wr g l p 20 FE FL FP W (LS1 20) 20 (ml φ1 k) t 0) ∧ Hid (DW φ1 W k) ∧ Hid (Erw wr v8 (ml φ1 k)) ∧ Hid (Erw wr v9 (rsD φ1 (gb gone) k)) ∧ Hid (Irw wr v10 (zsD (gb gone) k)) ∧ Hid (Dj3 w.heap.size (pxF FE FL FP) (obl v8) (obl v9) (obl v10))) (fun _ _ _ i _ => n - (intOf i).toNat)
  case atStart =>
    exact ⟨_, _, _, 0, FE, [p], W0, 0, rfl, rfl, rfl, by omega, rfl, by omega, HX, ⟨rfl, rfl, fun k hk => by omega⟩, Erw.nil _, Erw.nil _, Irw.nil _, Dj3.nil _ _⟩
  case round =>
    clear HX
    obtain ⟨v8, v9, v10, k, FE, FP, W, t, rfl, rfl, rfl, hk, rfl, ht, HX, HW, H8, H9, H10, HJ⟩ := hrel
    by_cases hkn : k < n
    · have wk : IntKind.u64.wrap (k : Int) = k := by simp [IntKind.wrap, IntKind.bits, IntKind.signed]; omega
      have wk1 : IntKind.u64.wrap ((k : Int) + 1) = (k : Int) + 1 := by simp [IntKind.wrap, IntKind.bits, IntKind.signed]; omega
      have j3 : (k : Int) < 16 := by omega
      obtain ⟨e, he⟩ : ∃ e, me φ1 k = e := ⟨_, rfl⟩
      have HE : Hid (me φ1 k = e) := he
      have hmk := HW.out.e ((k : Int) + 1) rfl
      rw [he] at hmk
      have HMK := Lib.hid hmk
      clear he hmk
      go_wp2_with fail
      refine (enMake HX.out.e (by omega) k 0 ((k : Int) + 1) (by omega) (by omega) ⟨by decide, by decide⟩ ⟨by omega, by omega⟩ e HMK.out).mono ?_
      rintro y v1 ⟨rfl, FE1, s1, hE, hC, hG⟩
      have HX1 := Lib.hid (HX.out.env hE hC hG)
      have hW1 := HW.out.make s1
      rw [HE.out] at hW1
      have HW1 := Lib.hid hW1
      have HJ1 := Lib.hid (HJ.out.gF (grwE hG) H8.out.lt H9.out.lt H10.out.lt)
      have H81 := Lib.hid (H8.out.chg hC (fun z hz hm => (HJ.out.a z hz).1 (subE z hm)))
      have H91 := Lib.hid (H9.out.chg hC (fun z hz hm => (HJ.out.b z hz).1 (subE z hm)))
      have H101 := Lib.hid (H10.out.chg hC (fun z hz hm => (HJ.out.c z hz) (subE z hm)))
      clear HX HW HJ H8 H9 H10 hE hC hG hW1 HMK
      have hbe : Blk (v1.alloc (.cells #[.int .i64 e.client, .int .u64 e.nonce, .int .u64 e.fee, .int .i64 e.cipher] 32)) v1.heap.size 32 (nc e) := Blk.new v1 (nc e) 32
      have cA : Chg [] v1 (v1.alloc (.cells #[.int .i64 e.client, .int .u64 e.nonce, .int .u64 e.fee, .int .i64 e.cipher] 32)) := (Chg.refl _ _).alloc _
      have HX2 := Lib.hid (HX1.out.to cA)
      have H82 := Lib.hid (H81.out.chg cA (by simp))
      have H92 := Lib.hid (H91.out.chg cA (by simp))
      have H102 := Lib.hid (H101.out.chg cA (by simp))
      have HB1 : Hid (v1.heap.size ∉ pxF FE1 FL FP) := fun hm => by have := (HX1.out.ltF _ hm).2; omega
      have HB2 : Hid (v1.heap.size ∉ obl v8 ++ (obl v9 ++ obl v10)) := fun hm => by have := Dj3.lt3 H81.out H91.out H101.out _ hm; omega
      clear H81 H91 H101 HX1 cA
      go_upto_region 14 with (fail)
      generalize v1.heap.size = b at *
      generalize v1.alloc _ = u1 at *
      have y0 := hbe.at (i := 0) rfl
      have y1 := hbe.at (i := 1) rfl
      have y2 := hbe.at (i := 2) rfl
      have y3 := hbe.at (i := 3) rfl
      have hok : e.Ok := by rw [← HE.out]; exact me_ok (by omega) (φ1U (by omega))
      have hin : inR e = true := by rw [← HE.out]; exact me_in (by omega)
      have hLo : ∀ x ∈ ml φ1 k, x.Ok := fun x hx => by
        obtain ⟨j, hj, rfl⟩ := mem_ml.1 hx
        exact me_ok (by omega) (φ1U (by omega))
      have hkn2 : Known (mkW W e s1) e := Known.new _ _ _
      have hlaw : pAddV 20 (LS1 20) 20 (ml φ1 k) true e = (0, ml φ1 (k + 1)) := by
        obtain ⟨q1, q2⟩ := okD_at (i := k) (by omega)
        rw [← HE.out]
        exact add_law (by omega) q1 q2 (by show (0 : Int) < (k : Int) + 1; omega) (by show (k : Int) + 1 ≤ 1000; omega)
      have HADD := Lib.hid (addK HX2.out (by omega) (by rw [ml_len]; omega) (by omega) e hok hin hLo hkn2 0 _ hlaw)
      have HOK := Lib.hid hok
      clear hok hin hLo hkn2 hlaw
      go_wp2_with fail
      refine HADD.out.mono ?_
      rintro y u2 ⟨rfl, FE2, FP2, hX, hC, hG⟩
      have HX3 := Lib.hid hX
      have HJ3 := Lib.hid (HJ1.out.gF (grwEP hG) H82.out.lt H92.out.lt H102.out.lt)
      have H83 := Lib.hid (H82.out.chg hC (fun z hz hm => (HJ1.out.a z hz).1 (subEP z hm)))
      have H93 := Lib.hid (H92.out.chg hC (fun z hz hm => (HJ1.out.b z hz).1 (subEP z hm)))
      have H103 := Lib.hid (H102.out.chg hC (fun z hz hm => (HJ1.out.c z hz) (subEP z hm)))
      have HBE := Lib.hid (hbe.chg hC (fun hm => HB1.out (subEP _ hm)))
      have HB3 : Hid (b ∉ pxF FE2 FL FP2) := fun hm => by
        rcases grwEP (FL := FL) hG b hm with q | q
        · exact HB1.out q
        · have := hbe.lt; omega
      clear HX2 HJ1 H82 H92 H102 HADD hX hC hG HB1 hbe y0 y1 y2 y3
      have y0 := HBE.out.at (i := 0) rfl
      have y1 := HBE.out.at (i := 1) rfl
      have y2 := HBE.out.at (i := 2) rfl
      have y3 := HBE.out.at (i := 3) rfl
      have cB := fun ob => (Chg.refl [] u2).alloc ob
      have H84 := fun ob => H83.out.chg (cB ob) (by simp)
      go_wp2_with (at_builtin; refine app_env rfl (.tmp 49) (.tmp 51) rfl rfl (H84 _) u2.heap.size 1 e rfl (Blk.new u2 (nc e) 32) (by rw [ml_len]; omega) ?_)
      intro g8 c8 u3 h85 c85 hat8
      have hat8' : g8 ∈ obl v8 ∨ u2.heap.size ≤ g8 := hat8.imp (fun q => by simp [obl, q]) (fun q => by omega)
      have cT : Chg (obl v8) u2 u3 := ((cB _).mono (by simp)).trans c85
      have hsz2 : w.heap.size ≤ u2.heap.size := HX3.out.e.c.size
      have HX4 := Lib.hid (HX3.out.away cT (fun z hz => ⟨(HJ3.out.a z hz).1, HJ3.out.lo.1 z hz⟩))
      have HJ4 := Lib.hid (HJ3.out.gA hat8' hsz2 (fun z hz => (HX3.out.ltF z hz).2) H93.out.lt H103.out.lt)
      have H94 := Lib.hid (H93.out.chg cT (fun z hz hm => (HJ3.out.a z hm).2.1 hz))
      have H104 := Lib.hid (H103.out.chg cT (fun z hz hm => (HJ3.out.a z hm).2.2 hz))
      have HBE4 := Lib.hid (HBE.out.chg cT (fun hm => HB2.out (List.mem_append.2 (.inl hm))))
      have h86 : Erw u3 (.slice (some ⟨g8, 0, none⟩) ((ml φ1 k).length + 1) c8) (ml φ1 (k + 1)) := by
        rw [ml_succ, HE.out]; exact h85
      have H86 := Lib.hid h86
      have hob8 : obl (.slice (some ⟨g8, 0, none⟩) ((ml φ1 k).length + 1) c8) = [g8] := rfl
      rw [← hob8] at HJ4
      clear H84 cB c85 hat8 hat8' h85 h86 cT HX3 HJ3 H83 H93 H103 HBE y0 y1 y2 y3 hob8
      generalize (Value.slice (some ⟨g8, 0, none⟩) ((ml φ1 k).length + 1) c8) = v8n at *
      have y0 := HBE4.out.at (i := 0) rfl
      have y1 := HBE4.out.at (i := 1) rfl
      have y2 := HBE4.out.at (i := 2) rfl
      have y3 := HBE4.out.at (i := 3) rfl
      have hsz3 : w.heap.size ≤ u3.heap.size := HX4.out.e.c.size
      by_cases hbit : gb gone k = true
      · have hb1 : (bits BinOp.and IntKind.i64 (gone / 2 ^ k) 1 == 1) = true := by unfold gb at hbit; simpa using hbit
        have HBIT := Lib.hid hbit
        clear hbit
        go_wp2_with fail
        refine (wDigX HX4.out.e (by omega) e HOK.out (by rw [HW1.out.T, ← HE.out]; exact me_mem.2 (by omega)) ((k : Int) + 1) (by rw [HW1.out.T, ← HE.out]; exact ePos_ml (by omega))).mono ?_
        rintro y u4 ⟨rfl, c4⟩
        have HX5 := Lib.hid (HX4.out.to c4)
        have H87 := Lib.hid (H86.out.chg c4 (by simp))
        have H95 := Lib.hid (H94.out.chg c4 (by simp))
        have H105 := Lib.hid (H104.out.chg c4 (by simp))
        clear HX4 H86 H94 H104 c4 y0 y1 y2 y3 HBE4
        have hsz4 : w.heap.size ≤ u4.heap.size := HX5.out.e.c.size
        have cB := fun ob => (Chg.refl [] u4).alloc ob
        have H106 := fun ob => H105.out.chg (cB ob) (by simp)
        go_wp2_with (at_builtin; refine app_int rfl (.tmp 59) (.tmp 63) rfl rfl (H106 _) u4.heap.size 1 ((k : Int) + 1) rfl (Blk.new u4 [.int .i64 ((k : Int) + 1)] 3) (by have := zsD_len (gb gone) k; omega) ?_)
        intro g10 c10 u5 h107 c107 hat10
        have hat10' : g10 ∈ obl v10 ∨ u4.heap.size ≤ g10 := hat10.imp (fun q => by simp [obl, q]) (fun q => by omega)
        have cT : Chg (obl v10) u4 u5 := ((cB _).mono (by simp)).trans c107
        have HX6 := Lib.hid (HX5.out.away cT (fun z hz => ⟨HJ4.out.c z hz, HJ4.out.lo.2.2 z hz⟩))
        have HJ6 := Lib.hid (HJ4.out.gC hat10' hsz4 (fun z hz => (HX5.out.ltF z hz).2) H87.out.lt H95.out.lt)
        have H88 := Lib.hid (H87.out.chg cT (fun z hz hm => (HJ4.out.a z hz).2.2 hm))
        have H96 := Lib.hid (H95.out.chg cT (fun z hz hm => (HJ4.out.b z hz).2 hm))
        have h108 : Irw u5 (.slice (some ⟨g10, 0, none⟩) ((zsD (gb gone) k).length + 1) c10) (zsD (gb gone) (k + 1)) := by
          rw [zsD_succ, if_pos HBIT.out]; exact h107
        have h97 : Erw u5 v9 (rsD φ1 (gb gone) (k + 1)) := by rw [rsD_succ, if_pos HBIT.out]; exact H96.out
        have H108 := Lib.hid h108
        have H97 := Lib.hid h97
        clear H106 cB c107 hat10 hat10' h107 h108 h97 cT HX5 HJ4 H87 H95 H105 H96
        go_wp2_with fail
        go_roundw
        case rel => exact ⟨_, _, _, k + 1, FE2, FP2, _, _, rfl, rfl, rfl, by omega, by go_num, by omega, HX6, HW1, H88, H97, H108, HJ6⟩
        case measure => simp [intOf]; omega
      · have hb1 : (bits BinOp.and IntKind.i64 (gone / 2 ^ k) 1 == 1) = false := by unfold gb at hbit; simpa using hbit
        have HBIT := Lib.hid hbit
        clear hbit
        have cB := fun ob => (Chg.refl [] u3).alloc ob
        have H95 := fun ob => H94.out.chg (cB ob) (by simp)
        go_wp2_with (at_builtin; refine app_env rfl (.tmp 65) (.tmp 67) rfl rfl (H95 _) u3.heap.size 1 e rfl (Blk.new u3 (nc e) 32) (by have := rds_len φ1 (gb gone) k; omega) ?_)
        intro g9 c9 u5 h97 c97 hat9
        have hat9' : g9 ∈ obl v9 ∨ u3.heap.size ≤ g9 := hat9.imp (fun q => by simp [obl, q]) (fun q => by omega)
        have cT : Chg (obl v9) u3 u5 := ((cB _).mono (by simp)).trans c97
        have HX6 := Lib.hid (HX4.out.away cT (fun z hz => ⟨(HJ4.out.b z hz).1, HJ4.out.lo.2.1 z hz⟩))
        have HJ6 := Lib.hid (HJ4.out.gB hat9' hsz3 (fun z hz => (HX4.out.ltF z hz).2) H86.out.lt H104.out.lt)
        have H88 := Lib.hid (H86.out.chg cT (fun z hz hm => (HJ4.out.a z hz).2.1 hm))
        have H106 := Lib.hid (H104.out.chg cT (fun z hz hm => (HJ4.out.b z hm).2 hz))
        have h98 : Erw u5 (.slice (some ⟨g9, 0, none⟩) ((rsD φ1 (gb gone) k).length + 1) c9) (rsD φ1 (gb gone) (k + 1)) := by
          rw [rsD_succ, if_neg HBIT.out, HE.out]; exact h97
        have h108 : Irw u5 v10 (zsD (gb gone) (k + 1)) := by rw [zsD_succ, if_neg HBIT.out]; exact H106.out
        have H98 := Lib.hid h98
        have H108 := Lib.hid h108
        clear H95 cB c97 hat9 hat9' h97 h98 h108 cT HX4 HJ4 H86 H94 H104 H106 HBE4 y0 y1 y2 y3
        go_wp2_with fail
        go_roundw
        case rel => exact ⟨_, _, _, k + 1, FE2, FP2, _, _, rfl, rfl, rfl, by omega, by go_num, by omega, HX6, HW1, H88, H98, H108, HJ6⟩
        case measure => simp [intOf]; omega
    · have hkn0 : k = n := by omega
      subst hkn0
      clear hkn
      obtain ⟨a10, c10, e10, hI10, hb10⟩ := H10.out.sl
      subst e10
      obtain ⟨m, hm⟩ : ∃ m, (rsD φ1 (gb gone) k).length = m := ⟨_, rfl⟩
      have hmk : m ≤ 16 := by have := rds_len φ1 (gb gone) k; omega
      have HM := Lib.hid hm
      clear hm
      have okT : ∀ j, j < k → (me φ1 j).Ok ∧ me φ1 j ∈ W.T := fun j hj => ⟨me_ok (by omega) (φ1U (by omega)), by rw [HW.out.T]; exact me_mem.2 hj⟩
      have HOT := Lib.hid okT
      have HD1 := Lib.hid (pDrop HX.out (by omega) (by rw [ml_len]; omega) (fun x hx => by
        obtain ⟨j, hj, rfl⟩ := mem_ml.1 hx
        exact okT j hj) a10 (zsD (gb gone) k) _ c10 rfl (by have := zsD_len (gb gone) k; omega) hI10 (fun o ho hm => HJ.out.c _ (hb10 o ho) (subP _ hm)) (rsD φ1 (gb gone) k) (by rw [HW.out.T]; exact drop_law _ _ _))
      clear okT hI10 hb10
      go_wp2_with fail
      refine HD1.out.mono ?_
      rintro y u1 ⟨rfl, FP1, hX, hC, hG⟩
      have HX1 := Lib.hid hX
      have HJ1 := Lib.hid (HJ.out.gF (grwP hG) H8.out.lt H9.out.lt H10.out.lt)
      have H81 := Lib.hid (H8.out.chg hC (fun z hz hm => (HJ.out.a z hz).1 (subP z hm)))
      have H91 := Lib.hid (H9.out.chg hC (fun z hz hm => (HJ.out.b z hz).1 (subP z hm)))
      have H101 := Lib.hid (H10.out.chg hC (fun z hz hm => (HJ.out.c z hz) (subP z hm)))
      clear HX HJ H8 H9 H10 HD1 hX hC hG
      have cA : Chg [] u1 (u1.alloc (.cells #[.int .i64 (-1), .int .i64 1099511627776] 3)) := (Chg.refl _ _).alloc _
      have H82 := Lib.hid (H81.out.chg cA (by simp))
      have H92 := Lib.hid (H91.out.chg cA (by simp))
      have H102 := Lib.hid (H101.out.chg cA (by simp))
      have HD2 := Lib.hid (pDrop (HX1.out.to cA) (by omega) (by rw [HM.out]; omega) (fun x hx => by
        obtain ⟨j, hj, -, rfl⟩ := mem_rsD.1 hx
        exact HOT.out j hj) (some ⟨u1.heap.size, 0, none⟩) [-1, 1099511627776] 2 2 rfl (by omega) (.inr ⟨_, rfl, (Blk.new u1 [.int .i64 (-1), .int .i64 1099511627776] 3).beg⟩) (fun o ho hm => by
          injection ho with ho
          subst ho
          have h9 := HX1.out.p.lt _ hm
          exact Nat.lt_irrefl _ h9) (rsD φ1 (gb gone) k) (by rw [HW.out.T]; exact drop_none (by omega)))
      clear H81 H91 H101 HX1 cA
      go_wp2_with fail
      refine HD2.out.mono ?_
      rintro y u2 ⟨rfl, FP2, hX, hC, hG⟩
      have HX2 := Lib.hid hX
      have HJ2 := Lib.hid (HJ1.out.gF (grwP hG) H82.out.lt H92.out.lt H102.out.lt)
      have H83 := Lib.hid (H82.out.chg hC (fun z hz hm => (HJ1.out.a z hz).1 (subP z hm)))
      have H93 := Lib.hid (H92.out.chg hC (fun z hz hm => (HJ1.out.b z hz).1 (subP z hm)))
      clear HJ1 H82 H92 H102 HD2 hX hC hG
      go_wp2_with fail
      refine (pAll HX2.out.p HM.out (by omega)).mono ?_
      rintro y u3 ⟨v13, rfl, ho, c3⟩
      obtain ⟨a13, c13, rfl, -, hN13, -⟩ := own_nsl ho
      obtain ⟨a9, c9, e9, hN9⟩ := H93.out.sl
      rw [HM.out] at e9
      subst e9
      obtain ⟨a8, c8, e8, -⟩ := H83.out.sl
      rw [ml_len] at e8
      subst e8
      have HX3 := Lib.hid (HX2.out.to c3)
      have H84 := Lib.hid (H83.out.chg c3 (by simp))
      have HN9 := Lib.hid (hN9.chg c3 (by simp))
      have HN13 := Lib.hid hN13
      have HA8 : Hid (∀ z ∈ obl (.slice a8 k c8), z ∉ pxF FE FL FP2) := fun z hz => (HJ2.out.a z hz).1
      clear ho c3 hN13 hN9 HX2 H83 H93 HJ2
      go_wp2_with fail
      go_loopw [84] (fun i wr => ∃ (j : Nat), j ≤ m ∧ i = .int .i64 j ∧ Hid (Chg [] u3 wr)) (fun i _ => m - (intOf i).toNat)
      case atStart => exact ⟨0, by omega, rfl, Chg.refl _ _⟩
      case round =>
        obtain ⟨j, hj, rfl, HC⟩ := hrel
        by_cases hjm : j < m
        · have j1 : (j : Int) < (m : Int) := by omega
          have j2 : (j : Int) < 16 := by omega
          obtain ⟨s13, e13, hr13⟩ := nsl_at (HN13.out.chg HC.out (by simp)) (k := j) (by rw [HM.out]; exact hjm)
          obtain ⟨s9, e9, hr9⟩ := nsl_at (HN9.out.chg HC.out (by simp)) (k := j) (by rw [HM.out]; exact hjm)
          obtain ⟨x0, x1, x2, x3⟩ := Nrow.at hr13 (show j < _ by rw [HM.out]; exact hjm)
          obtain ⟨z0, z1, z2, z3⟩ := Nrow.at hr9 (show j < _ by rw [HM.out]; exact hjm)
          clear hr13 hr9
          subst e13 e9
          generalize (rsD φ1 (gb gone) k).getD j Env.zero = x at *
          go_upto_region 28 with (fail)
          go_quiet (fail)
          have HC2 := Lib.hid (HC.out.trans ((Chg.refl [] wr).drewN nq))
          clear HC x0 x1 x2 x3 z0 z1 z2 z3
          generalize wr.drewN nq = wq at *
          go_wp2_with fail
          go_roundw
          case rel => exact ⟨j + 1, by omega, by go_num, HC2⟩
          case measure => simp [intOf]; omega
        · have hj2 : j = m := by omega
          subst hj2
          have HX4 := Lib.hid (HX3.out.to HC.out)
          have H85 := Lib.hid (H84.out.chg HC.out (by simp))
          have ht0 : Hid (t ≤ 4 * k) := ht
          clear HX3 H84 HN9 HN13 HC hjm hj
          go_wp2_with fail
          go_loopw [99] (fun i wr => ∃ (j : Nat) (FE FP : List Nat) (t : Nat), j ≤ k ∧ i = .int .i64 j ∧ t ≤ 4 * k + j ∧ Hid (PX w wr g l p 20 FE FL FP W (LS1 20) 20 (rsD φ1 (gb gone) k ++ dsD φ1 (gb gone) j) t 0) ∧ Hid (Erw wr (.slice a8 k c8) (ml φ1 k)) ∧ Hid (∀ z ∈ obl (.slice a8 k c8), z ∉ pxF FE FL FP)) (fun i _ => k - (intOf i).toNat)
          case atStart => exact ⟨0, FE, FP2, t, by omega, rfl, by have := ht0.out; omega, by show PX _ _ _ _ _ _ _ _ _ _ _ _ (_ ++ []) _ _; rw [List.append_nil]; exact HX4.out, H85, HA8⟩
          case round =>
            clear HX4 H85 HA8
            obtain ⟨j, FE, FP, t, hj, rfl, ht, HX, H8, HA⟩ := hrel
            by_cases hjk : j < k
            · have j1 : (j : Int) < (k : Int) := by omega
              have j2 : (j : Int) < 16 := by omega
              have wk : IntKind.u64.wrap (j : Int) = j := by simp [IntKind.wrap, IntKind.bits, IntKind.signed]; omega
              obtain ⟨s8, e8, hr8⟩ := nsl_at (H8.out.nsl).1 (k := j) (by rw [ml_len]; exact hjk)
              have hob8 : obl (.slice (some ⟨s8, 0, none⟩) k c8) = [s8] := rfl
              subst e8
              obtain ⟨x0, x1, x2, x3⟩ := Nrow.at hr8 (show j < _ by rw [ml_len]; exact hjk)
              obtain ⟨e, he⟩ : ∃ e, (ml φ1 k).getD j Env.zero = e := ⟨_, rfl⟩
              have HE : Hid (me φ1 j = e) := by show _ = _; rw [← he, ml_get hjk]
              rw [he] at x0 x1 x2 x3
              clear he hr8 hob8
              have hbe : Blk (wr.alloc (.cells #[.int .i64 e.client, .int .u64 e.nonce, .int .u64 e.fee, .int .i64 e.cipher] 32)) wr.heap.size 32 (nc e) := Blk.new wr (nc e) 32
              have cA : Chg [] wr (wr.alloc (.cells #[.int .i64 e.client, .int .u64 e.nonce, .int .u64 e.fee, .int .i64 e.cipher] 32)) := (Chg.refl _ _).alloc _
              have HX1 := Lib.hid (HX.out.to cA)
              have H81 := Lib.hid (H8.out.chg cA (by simp))
              go_upto_region 34 with (fail)
              clear HX H8 cA x0 x1 x2 x3
              generalize wr.heap.size = b at *
              generalize wr.alloc _ = u4 at *
              have y0 := hbe.at (i := 0) rfl
              have y1 := hbe.at (i := 1) rfl
              have y2 := hbe.at (i := 2) rfl
              have y3 := hbe.at (i := 3) rfl
              have hlaw : pAddV 20 (LS1 20) 20 (rsD φ1 (gb gone) k ++ dsD φ1 (gb gone) j) true e = (if gb gone j = true then 0 else 10, rsD φ1 (gb gone) k ++ dsD φ1 (gb gone) (j + 1)) := by
                obtain ⟨q1, q2⟩ := okD_at (i := j) (by omega)
                rw [← HE.out]
                exact again_law hjk (by omega) q1 q2 (by show (0 : Int) < (j : Int) + 1; omega) (by show (j : Int) + 1 ≤ 1000; omega)
              have hok : e.Ok := by rw [← HE.out]; exact (HOT.out j hjk).1
              have hin : inR e = true := by rw [← HE.out]; exact me_in (by omega)
              have hkn : Known W e := by rw [← HE.out]; exact HW.out.kn j hjk
              have hLo : ∀ x ∈ rsD φ1 (gb gone) k ++ dsD φ1 (gb gone) j, x.Ok := fun x hx => by
                rcases List.mem_append.1 hx with q | q
                · obtain ⟨i, hi, -, rfl⟩ := mem_rsD.1 q
                  exact (HOT.out i hi).1
                · obtain ⟨i, hi, -, rfl⟩ := mem_dsD.1 q
                  exact (HOT.out i (by omega)).1
              have hlen : (rsD φ1 (gb gone) k ++ dsD φ1 (gb gone) j).length ≤ 1000 := by
                have q1 := rds_len φ1 (gb gone) k
                have q2 := rds_len φ1 (gb gone) j
                rw [List.length_append]; omega
              have HADD := Lib.hid (addK HX1.out (by omega) hlen (by omega) e hok hin hLo hkn _ _ hlaw)
              clear hok hin hLo hkn hlaw hlen
              by_cases hbit : gb gone j = true
              · have hb1 : (bits BinOp.and IntKind.i64 (gone / 2 ^ j) 1 == 0) = false := by
                  unfold gb at hbit
                  simp only [decide_eq_true_eq] at hbit
                  rw [hbit]; rfl
                rw [if_pos hbit] at HADD
                clear hbit
                go_wp2_with fail
                refine HADD.out.mono ?_
                rintro y u5 ⟨rfl, FE5, FP5, hX, hC, hG⟩
                have HX5 := Lib.hid hX
                have H85 := Lib.hid (H81.out.chg hC (fun z hz hm => HA.out z hz (subEP z hm)))
                have HA5 : Hid (∀ z ∈ obl (.slice (some ⟨s8, 0, none⟩) k c8), z ∉ pxF FE5 FL FP5) := fun z hz hm => (grwEP hG z hm).elim (HA.out z hz) (fun q => by have := H81.out.lt z hz; omega)
                clear hX hC hG HADD HX1 H81 HA y0 y1 y2 y3 hbe
                go_wp2_with fail
                go_roundw
                case rel => exact ⟨j + 1, FE5, FP5, _, by omega, by go_num, by omega, HX5, H85, HA5⟩
                case measure => simp [intOf]; omega
              · have hb1 : (bits BinOp.and IntKind.i64 (gone / 2 ^ j) 1 == 0) = true := by
                  unfold gb at hbit
                  simp only [decide_eq_true_eq] at hbit
                  obtain ⟨q, q1, q2⟩ := and1_i64 (gone / 2 ^ j)
                  rcases (by omega : q = 0 ∨ q = 1) with rfl | rfl
                  · rw [q1]; rfl
                  · exact absurd q1 hbit
                rw [if_neg hbit] at HADD
                clear hbit
                go_wp2_with fail
                refine HADD.out.mono ?_
                rintro y u5 ⟨rfl, FE5, FP5, hX, hC, hG⟩
                have HX5 := Lib.hid hX
                have H85 := Lib.hid (H81.out.chg hC (fun z hz hm => HA.out z hz (subEP z hm)))
                have HA5 : Hid (∀ z ∈ obl (.slice (some ⟨s8, 0, none⟩) k c8), z ∉ pxF FE5 FL FP5) := fun z hz hm => (grwEP hG z hm).elim (HA.out z hz) (fun q => by have := H81.out.lt z hz; omega)
                clear hX hC hG HADD HX1 H81 HA y0 y1 y2 y3 hbe
                go_wp2_with fail
                go_roundw
                case rel => exact ⟨j + 1, FE5, FP5, _, by omega, by go_num, by omega, HX5, H85, HA5⟩
                case measure => simp [intOf]; omega
            · have hj2 : j = k := by omega
              subst hj2
              have hlen : (((rsD φ1 (gb gone) j ++ dsD φ1 (gb gone) j).length : Nat) : Int) = (j : Int) := by rw [List.length_append, rds_len]
              clear hjk hj
              go_wp2_with fail
              refine (pLen HX.out.p (j : Int) hlen).mono ?_
              rintro y uL ⟨rfl, rfl⟩
              go_wp2_with fail
              refine (awake14 _).mono ?_
              rintro y u9 ⟨rfl, cA⟩
              go_wp2_with fail
              go_ret
              exact ⟨rfl, (HX.out.e.c.trans cA).below⟩
end Go.Proofs.Yteabcpmpcbjicaa
