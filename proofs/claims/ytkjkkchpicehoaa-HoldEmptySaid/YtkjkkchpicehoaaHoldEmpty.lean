import Derived.Test.YtkjkkchpicehoaaHold4
namespace Go.Proofs.Ytkjkkchpicehoaa
set_option linter.unusedVariables false
open Go Go.Proofs Go.RowKit Go.Maps

set_option maxHeartbeats 4000000 in
set_option maxRecDepth 100000 in
theorem empty_core (who fee h r : Int) (X1 X2 : List Int) (F1 F2 F3 : Int → Int) (w : World) (hw : I who) (hf : U fee) (hh : U h)
    (e0 : Hid (aPutE 2 [0, 0, 0, 0] 1 1 h = 0 ∧ aPut 2 [0, 0, 0, 0] 1 1 h = [0, 0, 0, h]))
    (e1 : Hid (hHold 2 [0, 0, 0, h] (fun _ => 0) who fee = r ∧ hHoldX 2 [0, 0, 0, h] (fun _ => 0) who fee = X1 ∧ hHoldF 2 [0, 0, 0, h] (fun _ => 0) who fee = F1)) (e2 : Hid (F1 who = r))
    (e3 : Hid (sV F1 0 who 0 = 0 ∧ sX 2 X1 F1 0 who 0 = X2 ∧ sF 2 X1 F1 0 who 0 = F2 ∧ sGot F1 0 who 0 = 0)) (e4 : Hid (fV F2 0 who = 0 ∧ fF F2 0 who = F3 ∧ fGot F2 0 who = 0)) (e5 : Hid (F3 who = 0 ∧ aFree 2 X2 1 1 = h))
    (hcase : (who == 1) = false ∧ r = 0 ∨ (who == 1) = true ∧ fee ≤ h ∧ r = fee ∨ (who == 1) = true ∧ ¬ fee ≤ h ∧ r = h) :
    Calls Try.prog 13 #[.int .i64 who, .int .u64 fee, .int .u64 h] w fun e w' => e = .returned (.bool true) ∧ Below w.heap.size w w' := by
  rcases hcase with ⟨k1, rfl⟩ | ⟨k1, k2, rfl⟩ | ⟨k1, k2, rfl⟩
  all_goals
    go_enter Try.func13, Try.ntmps13
    go_wp2_with fail
    refine (new_is 2 2 [0, 0, 0, 0] _ (by decide) (by decide)).mono ?_
    rintro e w1 ⟨b, s, rfl, h1, c1, g1, g2⟩
    go_wp2_with fail
    refine (put_is h1 1 1 _ 0 _ hh e0.out.1 e0.out.2).mono ?_
    rintro e w2 ⟨rfl, h2, c2⟩
    have c2 := c1.trans' c2 (by simpa using g1)
    clear c1
    go_wp2_with fail
    refine (feeNew_any h2).mono ?_
    rintro e w3 ⟨fb, mb, rfl, h3, c3, g3, g4⟩
    have z2 := c2.size
    have c3 := c2.trans c3
    have hs : ∀ x ∈ [fb, mb, s], x ∈ ([] : List Nat) ∨ w.heap.size ≤ x := by simp; omega
    clear c2
    go_wp2_with fail
    refine (hold_is h3 who _ _ X1 F1 hw hf (by decide) e1.out.1 e1.out.2.1 e1.out.2.2).mono ?_
    rintro e w4 ⟨rfl, h4, c4⟩
    have c4 := c3.trans' c4 hs
    clear c3 h3
    go_wp2_with fail
    refine (held_is h4 who _ hw e2.out).mono ?_
    rintro e w' ⟨rfl, rfl⟩
    go_wp2_with fail
    refine (settle_is h4 who 0 0 0 X2 F2 hw ⟨by omega, by omega⟩ (by decide) e3.out.1 e3.out.2.1 e3.out.2.2.1 e3.out.2.2.2).mono ?_
    rintro e w5 ⟨rfl, h5, c5⟩
    have c5 := c4.trans' c5 hs
    clear c4 h4
    go_wp2_with fail
    refine (forfeit_is h5 who 0 0 F3 hw (by decide) e4.out.1 e4.out.2.1 e4.out.2.2).mono ?_
    rintro e w6 ⟨rfl, h6, c6⟩
    have c6 := c5.trans' c6 hs
    clear c5 h5
    go_wp2_with fail
    refine (held_is h6 who 0 hw e5.out.1).mono ?_
    rintro e w' ⟨rfl, rfl⟩
    go_wp2_with fail
    refine (got_any h6).mono ?_
    rintro e w' ⟨rfl, rfl⟩
    go_wp2_with fail
    refine (free_is h6.acc 1 1 _ e5.out.2).mono ?_
    rintro e w' ⟨rfl, rfl⟩
    go_wp2_with fail
    refine (awake7 _).mono ?_
    rintro e w' ⟨rfl, hw'⟩
    go_wp2_with fail
    go_ret
    exact ⟨rfl, c6.below.trans (hw'.mono c6.size)⟩

theorem empty_walk (who fee h : Int) (w : World) (hw : I who) (hf : U fee) (hh : U h) :
    Calls Try.prog 13 #[.int .i64 who, .int .u64 fee, .int .u64 h] w fun e w' => e = .returned (.bool true) ∧ Below w.heap.size w w' := by
  obtain ⟨h0, h1⟩ := hh
  obtain ⟨f0, f1⟩ := hf
  have p0 : cAddB 0 h = true := by unfold cAddB; simp; omega
  have p1 : cAddN 0 h = h := by unfold cAddN; rw [if_pos (by omega)]; omega
  have er1 : aErr 2 1 1 = 0 := by decide
  have er0 : aErr 2 0 1 = 0 := by decide
  have g0 : aGet [0, 0, 0, 0] 1 1 = 0 := rfl
  have g1 : aGet [0, 0, 0, h] 1 1 = h := rfl
  have g2 : aGet [0, 0, 0, h] 0 1 = 0 := rfl
  have E0 : aPutE 2 [0, 0, 0, 0] 1 1 h = 0 := by unfold aPutE; rw [if_pos er1, g0, if_pos p0]
  have E1 : aPut 2 [0, 0, 0, 0] 1 1 h = [0, 0, 0, h] := by unfold aPut; rw [if_pos E0, g0, p1]; rfl
  by_cases k1 : who = 1
  · subst k1
    obtain ⟨v, hv⟩ : ∃ v, v = min fee h := ⟨_, rfl⟩
    have v1 : 0 ≤ v ∧ v ≤ h := by omega
    have fr : aFree 2 [0, 0, 0, h] 1 1 = h := by unfold aFree; rw [if_pos er1, g1]
    have hVe : hV 2 [0, 0, 0, h] 1 fee = v := by unfold hV; rw [fr, hv]
    have q0 : cAddB 0 v = true := by unfold cAddB; simp; omega
    have q1 : cAddN 0 v = v := by unfold cAddN; rw [if_pos (by omega)]; omega
    have q2 : cSubB h v = true := by unfold cSubB; simp; omega
    have q3 : cSubN h v = h - v := by unfold cSubN; rw [if_pos (by omega)]
    have t0 : aTakeE 2 [0, 0, 0, h] 1 1 v = 0 := by unfold aTakeE; rw [if_pos er1, g1, if_pos q2]
    have t1 : aTake 2 [0, 0, 0, h] 1 1 v = [0, 0, 0, h - v] := by unfold aTake; rw [if_pos t0, g1, q3]; rfl
    have ho : hOk 2 [0, 0, 0, h] (fun _ => 0) 1 fee = true := by unfold hOk; rw [hVe, q0, t0]; rfl
    have m0 : min 0 v = 0 := by omega
    have s0 : cAddB 0 0 = true := by decide
    have s1 : cAddN 0 0 = 0 := by decide
    have F1 : ∀ x, upd (fun _ => 0) 1 v 1 = x ↔ v = x := fun x => by rw [upd_same]
    have sb : sBack (upd (fun _ => 0) 1 v) 0 1 0 = v := by unfold sBack sV; rw [upd_same, m0, if_pos s0]; omega
    have pe : cAddB (h - v) v = true := by unfold cAddB; simp; omega
    have pn : cAddN (h - v) v = h := by unfold cAddN; rw [if_pos (by omega)]; omega
    have g3 : aGet [0, 0, 0, h - v] 1 1 = h - v := rfl
    have P0 : aPutE 2 [0, 0, 0, h - v] 1 1 v = 0 := by unfold aPutE; rw [if_pos er1, g3, if_pos pe]
    have P1 : aPut 2 [0, 0, 0, h - v] 1 1 v = [0, 0, 0, h] := by unfold aPut; rw [if_pos P0, g3, pn]; rfl
    refine empty_core 1 fee h v [0, 0, 0, h - v] [0, 0, 0, h] (upd (fun _ => 0) 1 v) (upd (upd (upd (fun _ => 0) 1 v) 1 v) 1 0) (upd (upd (upd (upd (fun _ => 0) 1 v) 1 v) 1 0) 1 0) w hw ⟨f0, f1⟩ ⟨h0, h1⟩ ⟨E0, E1⟩
      ⟨by unfold hHold; rw [if_pos ho, hVe], by unfold hHoldX; rw [if_pos ho, hVe, t1], by unfold hHoldF; rw [if_pos ho, hVe, q1]⟩ (upd_same _ _ _)
      ⟨by unfold sV; rw [upd_same, m0, if_pos s0], by unfold sX; rw [sb, P1], by unfold sF; rw [sb, if_pos P0], by unfold sGot; rw [upd_same, m0, if_pos s0, s1]⟩
      ⟨by unfold fV; rw [upd_same, if_pos s0], by unfold fF; rw [upd_same, if_pos s0], by unfold fGot; rw [upd_same, if_pos s0, s1]⟩ ⟨upd_same _ _ _, by unfold aFree; rw [if_pos er1, g1]⟩ ?_
    by_cases hle : fee ≤ h
    · exact .inr (.inl ⟨rfl, hle, by omega⟩)
    · exact .inr (.inr ⟨rfl, hle, by omega⟩)
  · have m0 : min 0 (0 : Int) = 0 := by omega
    have s0 : cAddB 0 0 = true := by decide
    have s1 : cAddN 0 0 = 0 := by decide
    have fr : aFree 2 [0, 0, 0, h] 1 1 = h := by unfold aFree; rw [if_pos er1, g1]
    have fz : aFree 2 [0, 0, 0, h] who 1 = 0 := by
      unfold aFree
      by_cases hz : who = 0
      · subst hz; rw [if_pos er0, g2]
      · rw [if_neg]
        unfold aErr; rw [if_neg (by unfold aHas; simp; omega)]; decide
    have hVe : hV 2 [0, 0, 0, h] who fee = 0 := by unfold hV; rw [fz]; omega
    by_cases hz : who = 0
    · subst hz
      have t0 : aTakeE 2 [0, 0, 0, h] 0 1 0 = 0 := by unfold aTakeE; rw [if_pos er0, g2]; rfl
      have t1 : aTake 2 [0, 0, 0, h] 0 1 0 = [0, 0, 0, h] := by unfold aTake; rw [if_pos t0, g2]; rfl
      have ho : hOk 2 [0, 0, 0, h] (fun _ => 0) 0 fee = true := by unfold hOk; rw [hVe, t0]; decide
      have sb : sBack (upd (fun _ => 0) 0 0) 0 0 0 = 0 := by decide
      have P0 : aPutE 2 [0, 0, 0, h] 0 1 0 = 0 := by unfold aPutE; rw [if_pos er0, g2]; rfl
      have P1 : aPut 2 [0, 0, 0, h] 0 1 0 = [0, 0, 0, h] := by unfold aPut; rw [if_pos P0, g2]; rfl
      exact empty_core 0 fee h 0 [0, 0, 0, h] [0, 0, 0, h] (upd (fun _ => 0) 0 0) (upd (upd (upd (fun _ => 0) 0 0) 0 0) 0 0) (upd (upd (upd (upd (fun _ => 0) 0 0) 0 0) 0 0) 0 0) w hw ⟨f0, f1⟩ ⟨h0, h1⟩ ⟨E0, E1⟩
        ⟨by unfold hHold; rw [if_pos ho, hVe], by unfold hHoldX; rw [if_pos ho, hVe, t1], by unfold hHoldF; rw [if_pos ho, hVe, s1]⟩ (upd_same _ _ _)
        ⟨by decide, by unfold sX; rw [sb, P1], by unfold sF; rw [sb, if_pos P0], by decide⟩ ⟨by decide, by unfold fF; rw [upd_same, if_pos s0], by decide⟩ ⟨upd_same _ _ _, fr⟩ (.inl ⟨rfl, rfl⟩)
    · have er : aErr 2 who 1 = 2 := by unfold aErr; rw [if_neg (by unfold aHas; simp; omega)]
      have t0 : aTakeE 2 [0, 0, 0, h] who 1 0 = 2 := by unfold aTakeE; rw [er]; rfl
      have ho : hOk 2 [0, 0, 0, h] (fun _ => 0) who fee = false := by unfold hOk; rw [hVe, t0]; rfl
      have hn : ¬ (false = true) := by decide
      have sb : sBack (fun _ => 0) 0 who 0 = 0 := rfl
      have P0 : aPutE 2 [0, 0, 0, h] who 1 0 = 2 := by unfold aPutE; rw [er]; rfl
      have P1 : aPut 2 [0, 0, 0, h] who 1 0 = [0, 0, 0, h] := by unfold aPut; rw [P0]; rfl
      have h2 : ¬ ((2 : Int) = 0) := by decide
      refine empty_core who fee h 0 [0, 0, 0, h] [0, 0, 0, h] (fun _ => 0) (upd (fun _ => 0) who 0) (upd (upd (fun _ => 0) who 0) who 0) w hw ⟨f0, f1⟩ ⟨h0, h1⟩ ⟨E0, E1⟩
        ⟨by unfold hHold; rw [ho]; rfl, by unfold hHoldX; rw [ho]; rfl, by unfold hHoldF; rw [ho]; rfl⟩ rfl
        ⟨rfl, by unfold sX; rw [sb, P1], by unfold sF; rw [sb, P0, if_neg h2], rfl⟩ ⟨by unfold fV; rw [upd_same, if_pos s0], by unfold fF; rw [upd_same, if_pos s0], by unfold fGot; rw [upd_same, if_pos s0, s1]⟩ ⟨upd_same _ _ _, fr⟩ (.inl ⟨by simpa using k1, rfl⟩)
end Go.Proofs.Ytkjkkchpicehoaa
