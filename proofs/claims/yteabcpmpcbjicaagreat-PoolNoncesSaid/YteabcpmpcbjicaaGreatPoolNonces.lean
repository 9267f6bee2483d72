
import Derived.Test.YteabcpmpcbjicaaGreatPlawN
import Derived.Test.YteabcpmpcbjicaaGreatShell
namespace Go.Proofs.YteabcpmpcbjicaaGreat
set_option linter.unusedVariables false
set_option maxRecDepth 100000
open Go Go.Proofs Go.RowKit Go.Maps
attribute [local go_sem ↓] Go.wp_at_zero Go.wp_at_succ

set_option maxHeartbeats 8000000 in
theorem poolnonces_walk (d0 off : Int) (w : World) :
    Calls Tryz.prog 5 #[.int .i64 d0, .int .i64 off] w fun e w' => e = .returned (.bool true) ∧ Below w.heap.size w w' := by
  obtain ⟨d, hd, hd32⟩ : ∃ f : Nat, bits BinOp.and .i64 d0 31 = f ∧ f < 32 := low_i64 d0 5 (by omega)
  obtain ⟨o, ho, ho64⟩ := and63_i64 off
  obtain ⟨pp, hp⟩ : ∃ p : Int, (o : Int) - 20 = p := ⟨_, rfl⟩
  have wo : IntKind.i64.wrap ((o : Int) - 20) = pp := by rw [← hp]; simp [IntKind.wrap, IntKind.bits, IntKind.signed]; omega
  obtain ⟨V, hV⟩ : ∃ V : Int, (d : Int) + pp = V := ⟨_, rfl⟩
  have ws : IntKind.i64.wrap ((d : Int) + pp) = V := by rw [hV]; simp [IntKind.wrap, IntKind.bits, IntKind.signed]; omega
  have HV : Hid (V < 200 ∧ -200 < V) := ⟨by omega, by omega⟩
  have wd : IntKind.u64.wrap (d : Int) = d := by simp [IntKind.wrap, IntKind.bits, IntKind.signed]; omega
  have wd5 : IntKind.u64.wrap ((d : Int) + 15) = (d : Int) + 15 := by simp [IntKind.wrap, IntKind.bits, IntKind.signed]; omega
  have HD := Lib.hid hd32
  clear hd32 ho64 hp hV
  go_enter Tryz.func5, Tryz.ntmps5
  go_wp2_with fail
  refine (enNew 1 (by omega) (by omega) w).mono ?_
  rintro y w1 ⟨g, FE, rfl, h1⟩
  have H1 := Lib.hid h1
  clear h1
  go_wp2_with fail
  refine (ledNew 1 (by omega) (by omega) w1).mono ?_
  rintro y w2 ⟨l, FL0, rfl, h2⟩
  have H2 := Lib.hid h2
  clear h2
  go_wp2_with fail
  go_loopw [7] (fun i wr => ∃ (k : Nat) (F : List Nat), k ≤ d ∧ i = .int .i64 k ∧ Hid (LedX w1 wr l 1 F (StN k) k)) (fun i _ => d - (intOf i).toNat)
  case atStart => exact ⟨0, FL0, by omega, rfl, H2⟩
  case round =>
    clear H2
    obtain ⟨k, FL, hk, rfl, HL⟩ := hrel
    by_cases hkd : k < d
    · have k32 : k < 32 := by have := HD.out; omega
      have wk : IntKind.u64.wrap (k : Int) = k := by simp [IntKind.wrap, IntKind.bits, IntKind.signed]; omega
      have j3 : (k : Int) < 32 := by omega
      have hcd := Lib.hid (okN_at k32).2.2
      go_wp2_with fail
      refine (lxDo HL.out (by omega) (entD k) (entD_ok k32) (StN (k + 1)) (lDo 1 (StN k) (entD k)).2 rfl).mono ?_
      rintro y v1 ⟨a1, d1, F1, rfl, -, k1, -, -⟩
      have HK1 := Lib.hid k1
      clear k1 HL
      have hc := hcd.out
      clear hcd
      generalize (lDo 1 (StN k) (entD k)).2 = r1 at *
      have hcb : (r1.code != 0) = false := by rw [hc]; rfl
      clear hc
      have cA := fun ob => (Chg.refl [] v1).alloc ob
      have HK2 := fun ob => HK1.out.to (cA ob)
      clear cA
      go_wp2_with fail
      go_roundw
      case rel => exact ⟨k + 1, F1, by omega, by go_num, HK2 _⟩
      case measure => simp [intOf]; omega
    · have hkd2 : k = d := by omega
      subst hkd2
      clear hkd hk
      have hk32 : k < 32 := HD.out
      go_wp2_with fail
      refine (pNew wr g 5 (by omega) (by omega)).mono ?_
      rintro y w3 ⟨rfl, h3, c3⟩
      have HX : Hid (PX w w3 g l wr.heap.size 1 FE FL [wr.heap.size] W0 (StN k) 5 [] 0 k) := PX.start H1.out HL.out h3 c3
      clear H1 HL h3 c3
      generalize wr.heap.size = p at *
      by_cases hV0 : 0 ≤ V
      · obtain ⟨nn, rfl⟩ : ∃ nn : Nat, V = nn := ⟨V.toNat, by omega⟩
        have hn2 : nn < 200 := by have := HV.out.1; omega
        have wu : IntKind.u64.wrap (nn : Int) = nn := by simp [IntKind.wrap, IntKind.bits, IntKind.signed]; omega
        clear hV0 HV
        by_cases hlt : (nn : Int) < k
        · have hlaw := nonce_no HD.out (n := nn) (.inl hlt) 1
          have t1 : decide ((nn : Int) ≥ (k : Int)) = false := by simp; omega
          have t2 : decide ((k : Int) ≤ (nn : Int)) = false := by simp; omega
          have t2b : decide (k ≤ nn) = false := by simp; omega
          clear hlt
          have hok : (⟨0, nn, 1, 1⟩ : Env).Ok := ⟨(⟨by decide, by decide⟩ : I 0), ⟨by dsimp only; omega, by dsimp only; omega⟩, (⟨by decide, by decide⟩ : U 1), (⟨by decide, by decide⟩ : I 1)⟩
          go_wp2_with fail
          refine (enMake HX.out.e (by omega) 0 nn 1 (by omega) (by omega) ⟨by omega, by omega⟩ ⟨by decide, by decide⟩ ⟨0, nn, 1, 1⟩ rfl).mono ?_
          rintro y v1 ⟨rfl, FE1, s1, hE, hC, hG⟩
          have HX1 := Lib.hid (HX.out.env hE hC hG)
          clear hE hC hG
          have HADD := Lib.hid (addK HX1.out (by omega) (by simp) (by omega) ⟨0, nn, 1, 1⟩ hok rfl (by simp) (Known.new _ _ _) _ _ hlaw)
          clear hok hlaw HX
          go_wp2_with fail
          refine HADD.out.mono ?_
          rintro y v2 ⟨rfl, FE2, FP2, hX, -, -⟩
          have HX2 := Lib.hid hX
          clear HX1 HADD hX
          go_wp2_with fail
          refine (awake14 _).mono ?_
          rintro y u9 ⟨rfl, cA⟩
          go_wp2_with fail
          go_ret
          exact ⟨rfl, (HX2.out.e.c.trans cA).below⟩
        · have t1 : decide ((nn : Int) ≥ (k : Int)) = true := by simp; omega
          have t2 : decide ((k : Int) ≤ (nn : Int)) = true := by simp; omega
          have t2b : decide (k ≤ nn) = true := by simp; omega
          by_cases hgt : 15 < (nn : Int) - k
          · have hlaw := nonce_no HD.out (n := nn) (.inr hgt) 1
            have t3 : decide ((nn : Int) ≤ (k : Int) + 15) = false := by simp; omega
            have t3b : decide (nn ≤ k + 15) = false := by simp; omega
            clear hlt hgt
            have hok : (⟨0, nn, 1, 1⟩ : Env).Ok := ⟨(⟨by decide, by decide⟩ : I 0), ⟨by dsimp only; omega, by dsimp only; omega⟩, (⟨by decide, by decide⟩ : U 1), (⟨by decide, by decide⟩ : I 1)⟩
            go_wp2_with fail
            refine (enMake HX.out.e (by omega) 0 nn 1 (by omega) (by omega) ⟨by omega, by omega⟩ ⟨by decide, by decide⟩ ⟨0, nn, 1, 1⟩ rfl).mono ?_
            rintro y v1 ⟨rfl, FE1, s1, hE, hC, hG⟩
            have HX1 := Lib.hid (HX.out.env hE hC hG)
            clear hE hC hG
            have HADD := Lib.hid (addK HX1.out (by omega) (by simp) (by omega) ⟨0, nn, 1, 1⟩ hok rfl (by simp) (Known.new _ _ _) _ _ hlaw)
            clear hok hlaw HX
            go_wp2_with fail
            refine HADD.out.mono ?_
            rintro y v2 ⟨rfl, FE2, FP2, hX, -, -⟩
            have HX2 := Lib.hid hX
            clear HX1 HADD hX
            go_wp2_with fail
            refine (awake14 _).mono ?_
            rintro y u9 ⟨rfl, cA⟩
            go_wp2_with fail
            go_ret
            exact ⟨rfl, (HX2.out.e.c.trans cA).below⟩
          · have hlaw := nonce_yes HD.out (n := nn) (by omega) 1
            have t3 : decide ((nn : Int) ≤ (k : Int) + 15) = true := by simp; omega
            have t3b : decide (nn ≤ k + 15) = true := by simp; omega
            clear hlt hgt
            have hok : (⟨0, nn, 1, 1⟩ : Env).Ok := ⟨(⟨by decide, by decide⟩ : I 0), ⟨by dsimp only; omega, by dsimp only; omega⟩, (⟨by decide, by decide⟩ : U 1), (⟨by decide, by decide⟩ : I 1)⟩
            go_wp2_with fail
            refine (enMake HX.out.e (by omega) 0 nn 1 (by omega) (by omega) ⟨by omega, by omega⟩ ⟨by decide, by decide⟩ ⟨0, nn, 1, 1⟩ rfl).mono ?_
            rintro y v1 ⟨rfl, FE1, s1, hE, hC, hG⟩
            have HX1 := Lib.hid (HX.out.env hE hC hG)
            clear hE hC hG
            have HADD := Lib.hid (addK HX1.out (by omega) (by simp) (by omega) ⟨0, nn, 1, 1⟩ hok rfl (by simp) (Known.new _ _ _) _ _ hlaw)
            clear hok hlaw HX
            go_wp2_with fail
            refine HADD.out.mono ?_
            rintro y v2 ⟨rfl, FE2, FP2, hX, -, -⟩
            have HX2 := Lib.hid hX
            clear HX1 HADD hX
            go_wp2_with fail
            refine (awake14 _).mono ?_
            rintro y u9 ⟨rfl, cA⟩
            go_wp2_with fail
            go_ret
            exact ⟨rfl, (HX2.out.e.c.trans cA).below⟩
      · have hVn : V < 0 := by omega
        have d0 : decide (0 ≤ V) = false := by simp; omega
        have d0b : decide (V < 0) = true := by simp; omega
        clear hV0
        by_cases hlt : (0 : Int) < k
        · have hlaw := nonce_no HD.out (n := 0) (.inl hlt) 1
          have t1 : decide ((0 : Int) ≥ (k : Int)) = false := by simp; omega
          have t2 : decide ((k : Int) ≤ (0 : Int)) = false := by simp; omega
          have t2b : decide (k ≤ 0) = false := by simp; omega
          have t2c : (k == 0) = false := by simp; omega
          have t2d : decide (k = 0) = false := by simp; omega
          clear hlt
          have hok : (⟨0, 0, 1, 1⟩ : Env).Ok := ⟨(⟨by decide, by decide⟩ : I 0), ⟨by dsimp only; omega, by dsimp only; omega⟩, (⟨by decide, by decide⟩ : U 1), (⟨by decide, by decide⟩ : I 1)⟩
          go_wp2_with fail
          refine (enMake HX.out.e (by omega) 0 0 1 (by omega) (by omega) ⟨by omega, by omega⟩ ⟨by decide, by decide⟩ ⟨0, 0, 1, 1⟩ rfl).mono ?_
          rintro y v1 ⟨rfl, FE1, s1, hE, hC, hG⟩
          have HX1 := Lib.hid (HX.out.env hE hC hG)
          clear hE hC hG
          have HADD := Lib.hid (addK HX1.out (by omega) (by simp) (by omega) ⟨0, 0, 1, 1⟩ hok rfl (by simp) (Known.new _ _ _) _ _ hlaw)
          clear hok hlaw HX
          go_wp2_with fail
          refine HADD.out.mono ?_
          rintro y v2 ⟨rfl, FE2, FP2, hX, -, -⟩
          have HX2 := Lib.hid hX
          clear HX1 HADD hX
          go_wp2_with fail
          refine (awake14 _).mono ?_
          rintro y u9 ⟨rfl, cA⟩
          go_wp2_with fail
          go_ret
          exact ⟨rfl, (HX2.out.e.c.trans cA).below⟩
        · have hk0 : k = 0 := by omega
          subst hk0
          have ws0 : IntKind.i64.wrap pp = V := by rw [← ws]; congr 1; omega
          have ws1 : wrap64 pp = V := by rw [← ws0]; exact (IntWalk.i64_left pp).symm
          have ws2 : IntKind.i64.wrap (0 + pp) = V := by rw [← ws]; congr 1
          have hlaw := nonce_yes HD.out (n := 0) (by omega) 1
          clear hlt
          have hok : (⟨0, 0, 1, 1⟩ : Env).Ok := ⟨(⟨by decide, by decide⟩ : I 0), ⟨by dsimp only; omega, by dsimp only; omega⟩, (⟨by decide, by decide⟩ : U 1), (⟨by decide, by decide⟩ : I 1)⟩
          go_wp2_with fail
          refine (enMake HX.out.e (by omega) 0 0 1 (by omega) (by omega) ⟨by omega, by omega⟩ ⟨by decide, by decide⟩ ⟨0, 0, 1, 1⟩ rfl).mono ?_
          rintro y v1 ⟨rfl, FE1, s1, hE, hC, hG⟩
          have HX1 := Lib.hid (HX.out.env hE hC hG)
          clear hE hC hG
          have HADD := Lib.hid (addK HX1.out (by omega) (by simp) (by omega) ⟨0, 0, 1, 1⟩ hok rfl (by simp) (Known.new _ _ _) _ _ hlaw)
          clear hok hlaw HX
          go_wp2_with fail
          refine HADD.out.mono ?_
          rintro y v2 ⟨rfl, FE2, FP2, hX, -, -⟩
          have HX2 := Lib.hid hX
          clear HX1 HADD hX
          go_wp2_with fail
          refine (awake14 _).mono ?_
          rintro y u9 ⟨rfl, cA⟩
          go_wp2_with fail
          go_ret
          exact ⟨rfl, (HX2.out.e.c.trans cA).below⟩
end Go.Proofs.YteabcpmpcbjicaaGreat
