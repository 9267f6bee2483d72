
import Derived.Test.YteabcpmpcbjicaaGreatSortWA
import Derived.Test.YteabcpmpcbjicaaGreatSortA
namespace Go.Proofs.YteabcpmpcbjicaaGreat
set_option linter.unusedVariables false
open Go Go.Proofs Go.RowKit
attribute [local go_sem ↓] Go.wp_at_zero Go.wp_at_succ

/-- symMerge of what is shorter than k. -/
def SymSaid (n cap g b K : Nat) (up : Bool) (k : Nat) : Prop := ∀ (w : World) (l : List Ord) (a m c : Nat), c - a < k → a < m → m < c → c ≤ n → n = l.length → Srow w g b K up l → SrtI up l a m → SrtI up l m c →
    Calls Tryz.prog 202 #[.slice (some ⟨g, 0, none⟩) n cap, .int .i64 a, .int .i64 m, .int .i64 c, fcmp b] w fun e w' => e = .returned (.tuple #[]) ∧ ∃ l', Srow w' g b K up l' ∧ Mix l l' a c ∧ SrtI up l' a c ∧ Chg [g] w w'

theorem rot_id1 (s e p : Nat) : rot s s e p = p := by
  unfold rot
  repeat' split
  all_goals omega
theorem rot_id2 (s m p : Nat) : rot s m m p = p := by
  unfold rot
  repeat' split
  all_goals omega
theorem three_ways (x y z : Nat) : (x < y ∧ y < z) ∨ ¬ x < y ∨ (x < y ∧ ¬ y < z) := by omega

set_option maxRecDepth 100000 in
set_option maxHeartbeats 40000000 in
/-- slices.symMergeCmpFunc: the general way. -/
theorem symC1 {w : World} {g b K n cap : Nat} {up : Bool} {l : List Ord} {k : Nat} (IH : Hid (SymSaid n cap g b K up k)) (h : Srow w g b K up l) (hn : n = l.length) (hnc : n ≤ cap) (hcm : cap ≤ 9223372036854775807) (hm : n < 1000000000000) {a m c mid : Nat} (hk : c - a ≤ k) (hma : a + 1 < m) (hmc : m + 1 < c) (hcn : c ≤ n) (hmid : mid = (a + c) / 2) (hcase : mid < m) (hS1 : SrtI up l a m) (hS2 : SrtI up l m c) :
    Calls Tryz.prog 202 #[.slice (some ⟨g, 0, none⟩) n cap, .int .i64 a, .int .i64 m, .int .i64 c, fcmp b] w fun e w' => e = .returned (.tuple #[]) ∧ ∃ l', Srow w' g b K up l' ∧ Mix l l' a c ∧ SrtI up l' a c ∧ Chg [g] w w' := by
  have HN := Lib.hid hn
  have HMID := Lib.hid hmid
  have ht : ((m : Int) - (a : Int) == 1) = false := beq_eq_false_iff_ne.2 (by omega)
  have ht2 : ((c : Int) - (m : Int) == 1) = false := beq_eq_false_iff_ne.2 (by omega)
  have em : ((a : Int) + (c : Int)) / 2 = (mid : Int) := by omega
  have mid1 : a < mid := by omega
  have mid2 : mid < c := by omega
  have mid3 : 2 * mid ≤ a + c := by omega
  have mid4 : a + c ≤ 2 * mid + 1 := by omega
  obtain ⟨p, hp⟩ : ∃ p, p = mid + m - 1 := ⟨_, rfl⟩
  have ep : (mid : Int) + (m : Int) - 1 = (p : Int) := by omega
  have HP := Lib.hid hp
  have p1 : p + 1 = mid + m := by omega
  have P1 := Lib.hid p1
  have p2 : p + 1 ≤ mid + m := by omega
  have p3 : mid + m ≤ p + 1 := by omega
  obtain ⟨s0, hs0⟩ : ∃ s0, s0 = mid + m - c := ⟨_, rfl⟩
  have es : (mid : Int) + (m : Int) - (c : Int) = (s0 : Int) := by omega
  have s1 : s0 + c ≤ mid + m := by omega
  have s2 : mid + m ≤ s0 + c := by omega
  have HS0 := Lib.hid hs0
  clear hs0
  clear hn hmid hp p1
  go_enter Tryz.func202, Tryz.ntmps202
  go_wp2_with fail
  go_loopw [20, 21] (fun u v wr => ∃ (i j : Nat), u = .int .i64 i ∧ v = .int .i64 j ∧ Srch s0 mid i j (fun h => !ahead up (gO l (p - h)) (gO l h)) ∧ Srow wr g b K up l ∧ Chg [g] w wr) (fun u v _ => (intOf v).toNat - (intOf u).toNat)
  case atStart => exact ⟨s0, mid, by first | rfl | go_num, rfl, Srch.start (by omega), h, Chg.refl _ _⟩
  case round =>
    clear h
    obtain ⟨i, j, rfl, rfl, hF, hR, hC⟩ := hrel
    have f1 := hF.lo
    have f2 := hF.mid
    have f3 := hF.hi
    by_cases hlt : i < j
    · obtain ⟨h, hh⟩ : ∃ h, h = (i + j) / 2 := ⟨_, rfl⟩
      have e1 : ((i : Int) + (j : Int)) / 2 = (h : Int) := by omega
      have h1 : i ≤ h := by omega
      have h2 : h < j := by omega
      have h3 : (0 : Int) ≤ (h : Int) := by omega
      have h4 : (h : Int) < (n : Int) := by omega
      have h5 : (0 : Int) ≤ ((p - h : Nat) : Int) := by omega
      have h6 : ((p - h : Nat) : Int) < (n : Int) := by omega
      have hw : IntKind.i64.wrap ((p : Int) - (h : Int)) = ((p - h : Nat) : Int) := by rw [IntWalk.i64_in _ (by omega)]; omega
      clear hh
      obtain ⟨x0, x1, x2, x3, x4⟩ := Orow.at hR.row (k := p - h) (by rw [← HN.out]; omega)
      obtain ⟨y0, y1, y2, y3, y4⟩ := Orow.at hR.row (k := h) (by rw [← HN.out]; omega)
      cases ha : ahead up (gO l (p - h)) (gO l h)
      · have hF2 := hF.up (h := h) h1 h2 (by rw [ha]; rfl)
        have HA := Lib.hid ha
        clear ha
        unfold gO at HA
        generalize l.getD (p - h) Ord.zero = x at *
        generalize l.getD h Ord.zero = y at *
        go_wp2_with fail
        go_still_tail 11, (by kernel_rfl)
        change wpList _ _ _ _ _ wr.drew
        have hR2 := hR.drew
        have hC2 := hC.drew
        clear hR hC x0 x1 x2 x3 x4 y0 y1 y2 y3 y4
        generalize wr.drew = w2 at *
        go_wp2_with fail
        refine (ask_no hR2.dir HA.out).mono ?_
        rintro e w3 ⟨r, rfl, r1, r2, c3⟩
        have rd : decide (r < 0) = false := by simp; omega
        have hR3 := hR2.chg c3
        have hC3 := hC2.trans (c3.mono (by simp))
        clear hR2 hC2 c3
        go_wp2_with fail
        go_roundw
        case rel => exact ⟨h + 1, j, by go_num, rfl, hF2, hR3, hC3⟩
        case measure => simp [intOf]; omega
      · have hF2 := hF.down (h := h) h1 h2 (by rw [ha]; rfl)
        have HA := Lib.hid ha
        clear ha
        unfold gO at HA
        generalize l.getD (p - h) Ord.zero = x at *
        generalize l.getD h Ord.zero = y at *
        go_wp2_with fail
        go_still_tail 11, (by kernel_rfl)
        change wpList _ _ _ _ _ wr.drew
        have hR2 := hR.drew
        have hC2 := hC.drew
        clear hR hC x0 x1 x2 x3 x4 y0 y1 y2 y3 y4
        generalize wr.drew = w2 at *
        go_wp2_with fail
        refine (ask_yes hR2.dir HA.out).mono ?_
        rintro e w3 ⟨r, rfl, r1, r2, c3⟩
        have rd : decide (r < 0) = true := by simp; omega
        have hR3 := hR2.chg c3
        have hC3 := hC2.trans (c3.mono (by simp))
        clear hR2 hC2 c3
        go_wp2_with fail
        go_roundw
        case rel => exact ⟨i, h, rfl, rfl, hF2, hR3, hC3⟩
        case measure => simp [intOf]; omega
    · obtain rfl : i = j := by omega
      obtain ⟨s, hs⟩ : ∃ s, s = i := ⟨_, rfl⟩
      subst hs
      obtain ⟨e, he⟩ : ∃ e, e = mid + m - s := ⟨_, rfl⟩
      have ee : (mid : Int) + (m : Int) - (s : Int) = (e : Int) := by omega
      have hfin : ∀ l', Turn (rot s m e) l l' → Mix l l' a c ∧ (SrtI up l' a s ∧ SrtI up l' s mid ∧ SrtI up l' mid e ∧ SrtI up l' e c ∧ ∀ p q, a ≤ p → p < mid → mid ≤ q → q < c → ahead up (gO l' q) (gO l' p) = false) := fun l' t => by
        subst he
        refine ⟨(t.mix (by omega) (by omega)).wide (by omega) (by omega), mergeC hS1 hS2 (by omega) (by omega) HMID.out (.inl ⟨hcase, HS0.out, rfl⟩) ?_ t⟩
        have e0 : mid + m - 1 = p := HP.out.symm
        rw [e0]
        exact hF
      have b1 : s + e ≤ mid + m := by omega
      have b2 : mid + m ≤ s + e := by omega
      have b3 : s ≤ m := by omega
      have b4 : m ≤ e := by omega
      have b5 : e ≤ c := by omega
      have b6 : a ≤ s := by omega
      have HF := Lib.hid hfin
      have D0 := three_ways s m e
      have D1 := three_ways a s mid
      have D2 := three_ways mid e c
      clear hfin he hF
      clear mid3 mid4
      rcases D0 with ⟨a1, a2⟩ | a1 | ⟨a1, a2⟩
      · go_wp2_with fail
        refine (rotate hR HN.out hnc hcm hm a1 a2 (by omega)).mono ?_
        rintro e7 w4 ⟨rfl, l1, hR1, hT, hC0⟩
        have M0 := Lib.hid (HF.out l1 hT).1
        have HH := Lib.hid (HF.out l1 hT).2
        have HL : Hid (n = l1.length) := by show _ = _; rw [hT.perm.length_eq]; exact HN.out
        have hC1 := hC.trans hC0
        clear hR hC hC0 hT HF
        rcases D1 with ⟨b1, b2⟩ | b1 | ⟨b1, b2⟩
        · go_wp2_with fail
          refine (IH.out _ l1 a s mid (by omega) b1 b2 (by omega) HL.out hR1 HH.out.1 HH.out.2.1).mono ?_
          rintro e8 w5 ⟨rfl, l2, hR2, m1, s1, hC5⟩
          have M1 := Lib.hid m1
          have S1 := Lib.hid s1
          have hC2 := hC1.trans hC5
          clear hR1 hC1 hC5 m1 s1
          rcases D2 with ⟨d1, d2⟩ | d1 | ⟨d1, d2⟩
          · go_wp2_with fail
            refine (IH.out _ l2 mid e c (by omega) d1 d2 hcn (by rw [M1.out.len]; exact HL.out) hR2 (HH.out.2.2.1.keep M1.out (.inr (Nat.le_refl _))) (HH.out.2.2.2.1.keep M1.out (.inr (by omega)))).mono ?_
            rintro e9 w6 ⟨rfl, l3, hR3, M2, S2, hC3⟩
            have fin := merge_end (by omega) (by omega) HH.out.2.2.2.2 M1.out S1.out M2 S2
            have hC4 := hC2.trans hC3
            clear hR2 hC2 hC3 M2 S2
            go_wp2_with fail
            go_end0
            exact ⟨rfl, l3, hR3, M0.out.trans fin.1, fin.2, hC4⟩
          · have fin := merge_end (by omega) (by omega) HH.out.2.2.2.2 M1.out S1.out (Mix.refl l2 mid c) ((HH.out.2.2.2.1.keep M1.out (.inr (by omega))).sub (by omega) (Nat.le_refl _))
            go_wp2_with fail
            go_end0
            exact ⟨rfl, l2, hR2, M0.out.trans fin.1, fin.2, hC2⟩
          · have fin := merge_end (by omega) (by omega) HH.out.2.2.2.2 M1.out S1.out (Mix.refl l2 mid c) ((HH.out.2.2.1.keep M1.out (.inr (Nat.le_refl _))).sub (Nat.le_refl _) (by omega))
            go_wp2_with fail
            go_end0
            exact ⟨rfl, l2, hR2, M0.out.trans fin.1, fin.2, hC2⟩
        · have M1 : Hid (Mix l1 l1 a mid) := Mix.refl _ _ _
          have S1 : Hid (SrtI up l1 a mid) := HH.out.2.1.sub (by omega) (Nat.le_refl _)
          obtain ⟨l2, hl2⟩ : ∃ l2, l2 = l1 := ⟨_, rfl⟩
          have hR2 := hR1
          rw [← hl2] at hR2
          have hC2 := hC1
          replace M1 : Hid (Mix l1 l2 a mid) := by rw [hl2]; exact M1
          replace S1 : Hid (SrtI up l2 a mid) := by rw [hl2]; exact S1
          clear hR1 hC1 hl2
          rcases D2 with ⟨d1, d2⟩ | d1 | ⟨d1, d2⟩
          · go_wp2_with fail
            refine (IH.out _ l2 mid e c (by omega) d1 d2 hcn (by rw [M1.out.len]; exact HL.out) hR2 (HH.out.2.2.1.keep M1.out (.inr (Nat.le_refl _))) (HH.out.2.2.2.1.keep M1.out (.inr (by omega)))).mono ?_
            rintro e9 w6 ⟨rfl, l3, hR3, M2, S2, hC3⟩
            have fin := merge_end (by omega) (by omega) HH.out.2.2.2.2 M1.out S1.out M2 S2
            have hC4 := hC2.trans hC3
            clear hR2 hC2 hC3 M2 S2
            go_wp2_with fail
            go_end0
            exact ⟨rfl, l3, hR3, M0.out.trans fin.1, fin.2, hC4⟩
          · have fin := merge_end (by omega) (by omega) HH.out.2.2.2.2 M1.out S1.out (Mix.refl l2 mid c) ((HH.out.2.2.2.1.keep M1.out (.inr (by omega))).sub (by omega) (Nat.le_refl _))
            go_wp2_with fail
            go_end0
            exact ⟨rfl, l2, hR2, M0.out.trans fin.1, fin.2, hC2⟩
          · have fin := merge_end (by omega) (by omega) HH.out.2.2.2.2 M1.out S1.out (Mix.refl l2 mid c) ((HH.out.2.2.1.keep M1.out (.inr (Nat.le_refl _))).sub (Nat.le_refl _) (by omega))
            go_wp2_with fail
            go_end0
            exact ⟨rfl, l2, hR2, M0.out.trans fin.1, fin.2, hC2⟩
        · have M1 : Hid (Mix l1 l1 a mid) := Mix.refl _ _ _
          have S1 : Hid (SrtI up l1 a mid) := HH.out.1.sub (Nat.le_refl _) (by omega)
          obtain ⟨l2, hl2⟩ : ∃ l2, l2 = l1 := ⟨_, rfl⟩
          have hR2 := hR1
          rw [← hl2] at hR2
          have hC2 := hC1
          replace M1 : Hid (Mix l1 l2 a mid) := by rw [hl2]; exact M1
          replace S1 : Hid (SrtI up l2 a mid) := by rw [hl2]; exact S1
          clear hR1 hC1 hl2
          rcases D2 with ⟨d1, d2⟩ | d1 | ⟨d1, d2⟩
          · go_wp2_with fail
            refine (IH.out _ l2 mid e c (by omega) d1 d2 hcn (by rw [M1.out.len]; exact HL.out) hR2 (HH.out.2.2.1.keep M1.out (.inr (Nat.le_refl _))) (HH.out.2.2.2.1.keep M1.out (.inr (by omega)))).mono ?_
            rintro e9 w6 ⟨rfl, l3, hR3, M2, S2, hC3⟩
            have fin := merge_end (by omega) (by omega) HH.out.2.2.2.2 M1.out S1.out M2 S2
            have hC4 := hC2.trans hC3
            clear hR2 hC2 hC3 M2 S2
            go_wp2_with fail
            go_end0
            exact ⟨rfl, l3, hR3, M0.out.trans fin.1, fin.2, hC4⟩
          · have fin := merge_end (by omega) (by omega) HH.out.2.2.2.2 M1.out S1.out (Mix.refl l2 mid c) ((HH.out.2.2.2.1.keep M1.out (.inr (by omega))).sub (by omega) (Nat.le_refl _))
            go_wp2_with fail
            go_end0
            exact ⟨rfl, l2, hR2, M0.out.trans fin.1, fin.2, hC2⟩
          · have fin := merge_end (by omega) (by omega) HH.out.2.2.2.2 M1.out S1.out (Mix.refl l2 mid c) ((HH.out.2.2.1.keep M1.out (.inr (Nat.le_refl _))).sub (Nat.le_refl _) (by omega))
            go_wp2_with fail
            go_end0
            exact ⟨rfl, l2, hR2, M0.out.trans fin.1, fin.2, hC2⟩
      · have hT : Turn (rot s m e) l l := Turn.start l (fun p => by rw [show m = s by omega]; exact rot_id1 s e p)
        obtain ⟨l1, hl1⟩ : ∃ l1, l1 = l := ⟨_, rfl⟩
        have M0 : Hid (Mix l l1 a c) := by rw [hl1]; exact (HF.out l hT).1
        have HH := Lib.hid (HF.out l hT).2
        rw [← hl1] at HH hR
        have HL : Hid (n = l1.length) := by rw [hl1]; exact HN.out
        have hR1 := hR
        have hC1 := hC
        clear hR hC hT HF hl1
        rcases D1 with ⟨b1, b2⟩ | b1 | ⟨b1, b2⟩
        · go_wp2_with fail
          refine (IH.out _ l1 a s mid (by omega) b1 b2 (by omega) HL.out hR1 HH.out.1 HH.out.2.1).mono ?_
          rintro e8 w5 ⟨rfl, l2, hR2, m1, s1, hC5⟩
          have M1 := Lib.hid m1
          have S1 := Lib.hid s1
          have hC2 := hC1.trans hC5
          clear hR1 hC1 hC5 m1 s1
          rcases D2 with ⟨d1, d2⟩ | d1 | ⟨d1, d2⟩
          · go_wp2_with fail
            refine (IH.out _ l2 mid e c (by omega) d1 d2 hcn (by rw [M1.out.len]; exact HL.out) hR2 (HH.out.2.2.1.keep M1.out (.inr (Nat.le_refl _))) (HH.out.2.2.2.1.keep M1.out (.inr (by omega)))).mono ?_
            rintro e9 w6 ⟨rfl, l3, hR3, M2, S2, hC3⟩
            have fin := merge_end (by omega) (by omega) HH.out.2.2.2.2 M1.out S1.out M2 S2
            have hC4 := hC2.trans hC3
            clear hR2 hC2 hC3 M2 S2
            go_wp2_with fail
            go_end0
            exact ⟨rfl, l3, hR3, M0.out.trans fin.1, fin.2, hC4⟩
          · have fin := merge_end (by omega) (by omega) HH.out.2.2.2.2 M1.out S1.out (Mix.refl l2 mid c) ((HH.out.2.2.2.1.keep M1.out (.inr (by omega))).sub (by omega) (Nat.le_refl _))
            go_wp2_with fail
            go_end0
            exact ⟨rfl, l2, hR2, M0.out.trans fin.1, fin.2, hC2⟩
          · have fin := merge_end (by omega) (by omega) HH.out.2.2.2.2 M1.out S1.out (Mix.refl l2 mid c) ((HH.out.2.2.1.keep M1.out (.inr (Nat.le_refl _))).sub (Nat.le_refl _) (by omega))
            go_wp2_with fail
            go_end0
            exact ⟨rfl, l2, hR2, M0.out.trans fin.1, fin.2, hC2⟩
        · have M1 : Hid (Mix l1 l1 a mid) := Mix.refl _ _ _
          have S1 : Hid (SrtI up l1 a mid) := HH.out.2.1.sub (by omega) (Nat.le_refl _)
          obtain ⟨l2, hl2⟩ : ∃ l2, l2 = l1 := ⟨_, rfl⟩
          have hR2 := hR1
          rw [← hl2] at hR2
          have hC2 := hC1
          replace M1 : Hid (Mix l1 l2 a mid) := by rw [hl2]; exact M1
          replace S1 : Hid (SrtI up l2 a mid) := by rw [hl2]; exact S1
          clear hR1 hC1 hl2
          rcases D2 with ⟨d1, d2⟩ | d1 | ⟨d1, d2⟩
          · go_wp2_with fail
            refine (IH.out _ l2 mid e c (by omega) d1 d2 hcn (by rw [M1.out.len]; exact HL.out) hR2 (HH.out.2.2.1.keep M1.out (.inr (Nat.le_refl _))) (HH.out.2.2.2.1.keep M1.out (.inr (by omega)))).mono ?_
            rintro e9 w6 ⟨rfl, l3, hR3, M2, S2, hC3⟩
            have fin := merge_end (by omega) (by omega) HH.out.2.2.2.2 M1.out S1.out M2 S2
            have hC4 := hC2.trans hC3
            clear hR2 hC2 hC3 M2 S2
            go_wp2_with fail
            go_end0
            exact ⟨rfl, l3, hR3, M0.out.trans fin.1, fin.2, hC4⟩
          · have fin := merge_end (by omega) (by omega) HH.out.2.2.2.2 M1.out S1.out (Mix.refl l2 mid c) ((HH.out.2.2.2.1.keep M1.out (.inr (by omega))).sub (by omega) (Nat.le_refl _))
            go_wp2_with fail
            go_end0
            exact ⟨rfl, l2, hR2, M0.out.trans fin.1, fin.2, hC2⟩
          · have fin := merge_end (by omega) (by omega) HH.out.2.2.2.2 M1.out S1.out (Mix.refl l2 mid c) ((HH.out.2.2.1.keep M1.out (.inr (Nat.le_refl _))).sub (Nat.le_refl _) (by omega))
            go_wp2_with fail
            go_end0
            exact ⟨rfl, l2, hR2, M0.out.trans fin.1, fin.2, hC2⟩
        · have M1 : Hid (Mix l1 l1 a mid) := Mix.refl _ _ _
          have S1 : Hid (SrtI up l1 a mid) := HH.out.1.sub (Nat.le_refl _) (by omega)
          obtain ⟨l2, hl2⟩ : ∃ l2, l2 = l1 := ⟨_, rfl⟩
          have hR2 := hR1
          rw [← hl2] at hR2
          have hC2 := hC1
          replace M1 : Hid (Mix l1 l2 a mid) := by rw [hl2]; exact M1
          replace S1 : Hid (SrtI up l2 a mid) := by rw [hl2]; exact S1
          clear hR1 hC1 hl2
          rcases D2 with ⟨d1, d2⟩ | d1 | ⟨d1, d2⟩
          · go_wp2_with fail
            refine (IH.out _ l2 mid e c (by omega) d1 d2 hcn (by rw [M1.out.len]; exact HL.out) hR2 (HH.out.2.2.1.keep M1.out (.inr (Nat.le_refl _))) (HH.out.2.2.2.1.keep M1.out (.inr (by omega)))).mono ?_
            rintro e9 w6 ⟨rfl, l3, hR3, M2, S2, hC3⟩
            have fin := merge_end (by omega) (by omega) HH.out.2.2.2.2 M1.out S1.out M2 S2
            have hC4 := hC2.trans hC3
            clear hR2 hC2 hC3 M2 S2
            go_wp2_with fail
            go_end0
            exact ⟨rfl, l3, hR3, M0.out.trans fin.1, fin.2, hC4⟩
          · have fin := merge_end (by omega) (by omega) HH.out.2.2.2.2 M1.out S1.out (Mix.refl l2 mid c) ((HH.out.2.2.2.1.keep M1.out (.inr (by omega))).sub (by omega) (Nat.le_refl _))
            go_wp2_with fail
            go_end0
            exact ⟨rfl, l2, hR2, M0.out.trans fin.1, fin.2, hC2⟩
          · have fin := merge_end (by omega) (by omega) HH.out.2.2.2.2 M1.out S1.out (Mix.refl l2 mid c) ((HH.out.2.2.1.keep M1.out (.inr (Nat.le_refl _))).sub (Nat.le_refl _) (by omega))
            go_wp2_with fail
            go_end0
            exact ⟨rfl, l2, hR2, M0.out.trans fin.1, fin.2, hC2⟩
      · have hT : Turn (rot s m e) l l := Turn.start l (fun p => by rw [show e = m by omega]; exact rot_id2 s m p)
        obtain ⟨l1, hl1⟩ : ∃ l1, l1 = l := ⟨_, rfl⟩
        have M0 : Hid (Mix l l1 a c) := by rw [hl1]; exact (HF.out l hT).1
        have HH := Lib.hid (HF.out l hT).2
        rw [← hl1] at HH hR
        have HL : Hid (n = l1.length) := by rw [hl1]; exact HN.out
        have hR1 := hR
        have hC1 := hC
        clear hR hC hT HF hl1
        rcases D1 with ⟨b1, b2⟩ | b1 | ⟨b1, b2⟩
        · go_wp2_with fail
          refine (IH.out _ l1 a s mid (by omega) b1 b2 (by omega) HL.out hR1 HH.out.1 HH.out.2.1).mono ?_
          rintro e8 w5 ⟨rfl, l2, hR2, m1, s1, hC5⟩
          have M1 := Lib.hid m1
          have S1 := Lib.hid s1
          have hC2 := hC1.trans hC5
          clear hR1 hC1 hC5 m1 s1
          rcases D2 with ⟨d1, d2⟩ | d1 | ⟨d1, d2⟩
          · go_wp2_with fail
            refine (IH.out _ l2 mid e c (by omega) d1 d2 hcn (by rw [M1.out.len]; exact HL.out) hR2 (HH.out.2.2.1.keep M1.out (.inr (Nat.le_refl _))) (HH.out.2.2.2.1.keep M1.out (.inr (by omega)))).mono ?_
            rintro e9 w6 ⟨rfl, l3, hR3, M2, S2, hC3⟩
            have fin := merge_end (by omega) (by omega) HH.out.2.2.2.2 M1.out S1.out M2 S2
            have hC4 := hC2.trans hC3
            clear hR2 hC2 hC3 M2 S2
            go_wp2_with fail
            go_end0
            exact ⟨rfl, l3, hR3, M0.out.trans fin.1, fin.2, hC4⟩
          · have fin := merge_end (by omega) (by omega) HH.out.2.2.2.2 M1.out S1.out (Mix.refl l2 mid c) ((HH.out.2.2.2.1.keep M1.out (.inr (by omega))).sub (by omega) (Nat.le_refl _))
            go_wp2_with fail
            go_end0
            exact ⟨rfl, l2, hR2, M0.out.trans fin.1, fin.2, hC2⟩
          · have fin := merge_end (by omega) (by omega) HH.out.2.2.2.2 M1.out S1.out (Mix.refl l2 mid c) ((HH.out.2.2.1.keep M1.out (.inr (Nat.le_refl _))).sub (Nat.le_refl _) (by omega))
            go_wp2_with fail
            go_end0
            exact ⟨rfl, l2, hR2, M0.out.trans fin.1, fin.2, hC2⟩
        · have M1 : Hid (Mix l1 l1 a mid) := Mix.refl _ _ _
          have S1 : Hid (SrtI up l1 a mid) := HH.out.2.1.sub (by omega) (Nat.le_refl _)
          obtain ⟨l2, hl2⟩ : ∃ l2, l2 = l1 := ⟨_, rfl⟩
          have hR2 := hR1
          rw [← hl2] at hR2
          have hC2 := hC1
          replace M1 : Hid (Mix l1 l2 a mid) := by rw [hl2]; exact M1
          replace S1 : Hid (SrtI up l2 a mid) := by rw [hl2]; exact S1
          clear hR1 hC1 hl2
          rcases D2 with ⟨d1, d2⟩ | d1 | ⟨d1, d2⟩
          · go_wp2_with fail
            refine (IH.out _ l2 mid e c (by omega) d1 d2 hcn (by rw [M1.out.len]; exact HL.out) hR2 (HH.out.2.2.1.keep M1.out (.inr (Nat.le_refl _))) (HH.out.2.2.2.1.keep M1.out (.inr (by omega)))).mono ?_
            rintro e9 w6 ⟨rfl, l3, hR3, M2, S2, hC3⟩
            have fin := merge_end (by omega) (by omega) HH.out.2.2.2.2 M1.out S1.out M2 S2
            have hC4 := hC2.trans hC3
            clear hR2 hC2 hC3 M2 S2
            go_wp2_with fail
            go_end0
            exact ⟨rfl, l3, hR3, M0.out.trans fin.1, fin.2, hC4⟩
          · have fin := merge_end (by omega) (by omega) HH.out.2.2.2.2 M1.out S1.out (Mix.refl l2 mid c) ((HH.out.2.2.2.1.keep M1.out (.inr (by omega))).sub (by omega) (Nat.le_refl _))
            go_wp2_with fail
            go_end0
            exact ⟨rfl, l2, hR2, M0.out.trans fin.1, fin.2, hC2⟩
          · have fin := merge_end (by omega) (by omega) HH.out.2.2.2.2 M1.out S1.out (Mix.refl l2 mid c) ((HH.out.2.2.1.keep M1.out (.inr (Nat.le_refl _))).sub (Nat.le_refl _) (by omega))
            go_wp2_with fail
            go_end0
            exact ⟨rfl, l2, hR2, M0.out.trans fin.1, fin.2, hC2⟩
        · have M1 : Hid (Mix l1 l1 a mid) := Mix.refl _ _ _
          have S1 : Hid (SrtI up l1 a mid) := HH.out.1.sub (Nat.le_refl _) (by omega)
          obtain ⟨l2, hl2⟩ : ∃ l2, l2 = l1 := ⟨_, rfl⟩
          have hR2 := hR1
          rw [← hl2] at hR2
          have hC2 := hC1
          replace M1 : Hid (Mix l1 l2 a mid) := by rw [hl2]; exact M1
          replace S1 : Hid (SrtI up l2 a mid) := by rw [hl2]; exact S1
          clear hR1 hC1 hl2
          rcases D2 with ⟨d1, d2⟩ | d1 | ⟨d1, d2⟩
          · go_wp2_with fail
            refine (IH.out _ l2 mid e c (by omega) d1 d2 hcn (by rw [M1.out.len]; exact HL.out) hR2 (HH.out.2.2.1.keep M1.out (.inr (Nat.le_refl _))) (HH.out.2.2.2.1.keep M1.out (.inr (by omega)))).mono ?_
            rintro e9 w6 ⟨rfl, l3, hR3, M2, S2, hC3⟩
            have fin := merge_end (by omega) (by omega) HH.out.2.2.2.2 M1.out S1.out M2 S2
            have hC4 := hC2.trans hC3
            clear hR2 hC2 hC3 M2 S2
            go_wp2_with fail
            go_end0
            exact ⟨rfl, l3, hR3, M0.out.trans fin.1, fin.2, hC4⟩
          · have fin := merge_end (by omega) (by omega) HH.out.2.2.2.2 M1.out S1.out (Mix.refl l2 mid c) ((HH.out.2.2.2.1.keep M1.out (.inr (by omega))).sub (by omega) (Nat.le_refl _))
            go_wp2_with fail
            go_end0
            exact ⟨rfl, l2, hR2, M0.out.trans fin.1, fin.2, hC2⟩
          · have fin := merge_end (by omega) (by omega) HH.out.2.2.2.2 M1.out S1.out (Mix.refl l2 mid c) ((HH.out.2.2.1.keep M1.out (.inr (Nat.le_refl _))).sub (Nat.le_refl _) (by omega))
            go_wp2_with fail
            go_end0
            exact ⟨rfl, l2, hR2, M0.out.trans fin.1, fin.2, hC2⟩
end Go.Proofs.YteabcpmpcbjicaaGreat

namespace Go.Proofs.YteabcpmpcbjicaaGreat
set_option linter.unusedVariables false
open Go Go.Proofs Go.RowKit
attribute [local go_sem ↓] Go.wp_at_zero Go.wp_at_succ


set_option maxRecDepth 100000 in
set_option maxHeartbeats 40000000 in
/-- slices.symMergeCmpFunc: the general way. -/
theorem symC2 {w : World} {g b K n cap : Nat} {up : Bool} {l : List Ord} {k : Nat} (IH : Hid (SymSaid n cap g b K up k)) (h : Srow w g b K up l) (hn : n = l.length) (hnc : n ≤ cap) (hcm : cap ≤ 9223372036854775807) (hm : n < 1000000000000) {a m c mid : Nat} (hk : c - a ≤ k) (hma : a + 1 < m) (hmc : m + 1 < c) (hcn : c ≤ n) (hmid : mid = (a + c) / 2) (hcase : m ≤ mid) (hS1 : SrtI up l a m) (hS2 : SrtI up l m c) :
    Calls Tryz.prog 202 #[.slice (some ⟨g, 0, none⟩) n cap, .int .i64 a, .int .i64 m, .int .i64 c, fcmp b] w fun e w' => e = .returned (.tuple #[]) ∧ ∃ l', Srow w' g b K up l' ∧ Mix l l' a c ∧ SrtI up l' a c ∧ Chg [g] w w' := by
  have HN := Lib.hid hn
  have HMID := Lib.hid hmid
  have ht : ((m : Int) - (a : Int) == 1) = false := beq_eq_false_iff_ne.2 (by omega)
  have ht2 : ((c : Int) - (m : Int) == 1) = false := beq_eq_false_iff_ne.2 (by omega)
  have em : ((a : Int) + (c : Int)) / 2 = (mid : Int) := by omega
  have mid1 : a < mid := by omega
  have mid2 : mid < c := by omega
  have mid3 : 2 * mid ≤ a + c := by omega
  have mid4 : a + c ≤ 2 * mid + 1 := by omega
  obtain ⟨p, hp⟩ : ∃ p, p = mid + m - 1 := ⟨_, rfl⟩
  have ep : (mid : Int) + (m : Int) - 1 = (p : Int) := by omega
  have HP := Lib.hid hp
  have p1 : p + 1 = mid + m := by omega
  have P1 := Lib.hid p1
  have p2 : p + 1 ≤ mid + m := by omega
  have p3 : mid + m ≤ p + 1 := by omega
  have hdd : decide (mid < m) = false := by simp; omega
  clear hn hmid hp p1
  go_enter Tryz.func202, Tryz.ntmps202
  go_wp2_with fail
  go_loopw [20, 21] (fun u v wr => ∃ (i j : Nat), u = .int .i64 i ∧ v = .int .i64 j ∧ Srch a m i j (fun h => !ahead up (gO l (p - h)) (gO l h)) ∧ Srow wr g b K up l ∧ Chg [g] w wr) (fun u v _ => (intOf v).toNat - (intOf u).toNat)
  case atStart => exact ⟨a, m, by first | rfl | go_num, rfl, Srch.start (by omega), h, Chg.refl _ _⟩
  case round =>
    clear h
    obtain ⟨i, j, rfl, rfl, hF, hR, hC⟩ := hrel
    have f1 := hF.lo
    have f2 := hF.mid
    have f3 := hF.hi
    by_cases hlt : i < j
    · obtain ⟨h, hh⟩ : ∃ h, h = (i + j) / 2 := ⟨_, rfl⟩
      have e1 : ((i : Int) + (j : Int)) / 2 = (h : Int) := by omega
      have h1 : i ≤ h := by omega
      have h2 : h < j := by omega
      have h3 : (0 : Int) ≤ (h : Int) := by omega
      have h4 : (h : Int) < (n : Int) := by omega
      have h5 : (0 : Int) ≤ ((p - h : Nat) : Int) := by omega
      have h6 : ((p - h : Nat) : Int) < (n : Int) := by omega
      have hw : IntKind.i64.wrap ((p : Int) - (h : Int)) = ((p - h : Nat) : Int) := by rw [IntWalk.i64_in _ (by omega)]; omega
      clear hh
      obtain ⟨x0, x1, x2, x3, x4⟩ := Orow.at hR.row (k := p - h) (by rw [← HN.out]; omega)
      obtain ⟨y0, y1, y2, y3, y4⟩ := Orow.at hR.row (k := h) (by rw [← HN.out]; omega)
      cases ha : ahead up (gO l (p - h)) (gO l h)
      · have hF2 := hF.up (h := h) h1 h2 (by rw [ha]; rfl)
        have HA := Lib.hid ha
        clear ha
        unfold gO at HA
        generalize l.getD (p - h) Ord.zero = x at *
        generalize l.getD h Ord.zero = y at *
        go_wp2_with fail
        go_still_tail 11, (by kernel_rfl)
        change wpList _ _ _ _ _ wr.drew
        have hR2 := hR.drew
        have hC2 := hC.drew
        clear hR hC x0 x1 x2 x3 x4 y0 y1 y2 y3 y4
        generalize wr.drew = w2 at *
        go_wp2_with fail
        refine (ask_no hR2.dir HA.out).mono ?_
        rintro e w3 ⟨r, rfl, r1, r2, c3⟩
        have rd : decide (r < 0) = false := by simp; omega
        have hR3 := hR2.chg c3
        have hC3 := hC2.trans (c3.mono (by simp))
        clear hR2 hC2 c3
        go_wp2_with fail
        go_roundw
        case rel => exact ⟨h + 1, j, by go_num, rfl, hF2, hR3, hC3⟩
        case measure => simp [intOf]; omega
      · have hF2 := hF.down (h := h) h1 h2 (by rw [ha]; rfl)
        have HA := Lib.hid ha
        clear ha
        unfold gO at HA
        generalize l.getD (p - h) Ord.zero = x at *
        generalize l.getD h Ord.zero = y at *
        go_wp2_with fail
        go_still_tail 11, (by kernel_rfl)
        change wpList _ _ _ _ _ wr.drew
        have hR2 := hR.drew
        have hC2 := hC.drew
        clear hR hC x0 x1 x2 x3 x4 y0 y1 y2 y3 y4
        generalize wr.drew = w2 at *
        go_wp2_with fail
        refine (ask_yes hR2.dir HA.out).mono ?_
        rintro e w3 ⟨r, rfl, r1, r2, c3⟩
        have rd : decide (r < 0) = true := by simp; omega
        have hR3 := hR2.chg c3
        have hC3 := hC2.trans (c3.mono (by simp))
        clear hR2 hC2 c3
        go_wp2_with fail
        go_roundw
        case rel => exact ⟨i, h, rfl, rfl, hF2, hR3, hC3⟩
        case measure => simp [intOf]; omega
    · obtain rfl : i = j := by omega
      obtain ⟨s, hs⟩ : ∃ s, s = i := ⟨_, rfl⟩
      subst hs
      obtain ⟨e, he⟩ : ∃ e, e = mid + m - s := ⟨_, rfl⟩
      have ee : (mid : Int) + (m : Int) - (s : Int) = (e : Int) := by omega
      have hfin : ∀ l', Turn (rot s m e) l l' → Mix l l' a c ∧ (SrtI up l' a s ∧ SrtI up l' s mid ∧ SrtI up l' mid e ∧ SrtI up l' e c ∧ ∀ p q, a ≤ p → p < mid → mid ≤ q → q < c → ahead up (gO l' q) (gO l' p) = false) := fun l' t => by
        subst he
        refine ⟨(t.mix (by omega) (by omega)).wide (by omega) (by omega), mergeC hS1 hS2 (by omega) (by omega) HMID.out (.inr ⟨hcase, rfl, rfl⟩) ?_ t⟩
        have e0 : mid + m - 1 = p := HP.out.symm
        rw [e0]
        exact hF
      have b1 : s + e ≤ mid + m := by omega
      have b2 : mid + m ≤ s + e := by omega
      have b3 : s ≤ m := by omega
      have b4 : m ≤ e := by omega
      have b5 : e ≤ c := by omega
      have b6 : a ≤ s := by omega
      have HF := Lib.hid hfin
      have D0 := three_ways s m e
      have D1 := three_ways a s mid
      have D2 := three_ways mid e c
      clear hfin he hF
      clear mid3 mid4
      rcases D0 with ⟨a1, a2⟩ | a1 | ⟨a1, a2⟩
      · go_wp2_with fail
        refine (rotate hR HN.out hnc hcm hm a1 a2 (by omega)).mono ?_
        rintro e7 w4 ⟨rfl, l1, hR1, hT, hC0⟩
        have M0 := Lib.hid (HF.out l1 hT).1
        have HH := Lib.hid (HF.out l1 hT).2
        have HL : Hid (n = l1.length) := by show _ = _; rw [hT.perm.length_eq]; exact HN.out
        have hC1 := hC.trans hC0
        clear hR hC hC0 hT HF
        rcases D1 with ⟨b1, b2⟩ | b1 | ⟨b1, b2⟩
        · go_wp2_with fail
          refine (IH.out _ l1 a s mid (by omega) b1 b2 (by omega) HL.out hR1 HH.out.1 HH.out.2.1).mono ?_
          rintro e8 w5 ⟨rfl, l2, hR2, m1, s1, hC5⟩
          have M1 := Lib.hid m1
          have S1 := Lib.hid s1
          have hC2 := hC1.trans hC5
          clear hR1 hC1 hC5 m1 s1
          rcases D2 with ⟨d1, d2⟩ | d1 | ⟨d1, d2⟩
          · go_wp2_with fail
            refine (IH.out _ l2 mid e c (by omega) d1 d2 hcn (by rw [M1.out.len]; exact HL.out) hR2 (HH.out.2.2.1.keep M1.out (.inr (Nat.le_refl _))) (HH.out.2.2.2.1.keep M1.out (.inr (by omega)))).mono ?_
            rintro e9 w6 ⟨rfl, l3, hR3, M2, S2, hC3⟩
            have fin := merge_end (by omega) (by omega) HH.out.2.2.2.2 M1.out S1.out M2 S2
            have hC4 := hC2.trans hC3
            clear hR2 hC2 hC3 M2 S2
            go_wp2_with fail
            go_end0
            exact ⟨rfl, l3, hR3, M0.out.trans fin.1, fin.2, hC4⟩
          · have fin := merge_end (by omega) (by omega) HH.out.2.2.2.2 M1.out S1.out (Mix.refl l2 mid c) ((HH.out.2.2.2.1.keep M1.out (.inr (by omega))).sub (by omega) (Nat.le_refl _))
            go_wp2_with fail
            go_end0
            exact ⟨rfl, l2, hR2, M0.out.trans fin.1, fin.2, hC2⟩
          · have fin := merge_end (by omega) (by omega) HH.out.2.2.2.2 M1.out S1.out (Mix.refl l2 mid c) ((HH.out.2.2.1.keep M1.out (.inr (Nat.le_refl _))).sub (Nat.le_refl _) (by omega))
            go_wp2_with fail
            go_end0
            exact ⟨rfl, l2, hR2, M0.out.trans fin.1, fin.2, hC2⟩
        · have M1 : Hid (Mix l1 l1 a mid) := Mix.refl _ _ _
          have S1 : Hid (SrtI up l1 a mid) := HH.out.2.1.sub (by omega) (Nat.le_refl _)
          obtain ⟨l2, hl2⟩ : ∃ l2, l2 = l1 := ⟨_, rfl⟩
          have hR2 := hR1
          rw [← hl2] at hR2
          have hC2 := hC1
          replace M1 : Hid (Mix l1 l2 a mid) := by rw [hl2]; exact M1
          replace S1 : Hid (SrtI up l2 a mid) := by rw [hl2]; exact S1
          clear hR1 hC1 hl2
          rcases D2 with ⟨d1, d2⟩ | d1 | ⟨d1, d2⟩
          · go_wp2_with fail
            refine (IH.out _ l2 mid e c (by omega) d1 d2 hcn (by rw [M1.out.len]; exact HL.out) hR2 (HH.out.2.2.1.keep M1.out (.inr (Nat.le_refl _))) (HH.out.2.2.2.1.keep M1.out (.inr (by omega)))).mono ?_
            rintro e9 w6 ⟨rfl, l3, hR3, M2, S2, hC3⟩
            have fin := merge_end (by omega) (by omega) HH.out.2.2.2.2 M1.out S1.out M2 S2
            have hC4 := hC2.trans hC3
            clear hR2 hC2 hC3 M2 S2
            go_wp2_with fail
            go_end0
            exact ⟨rfl, l3, hR3, M0.out.trans fin.1, fin.2, hC4⟩
          · have fin := merge_end (by omega) (by omega) HH.out.2.2.2.2 M1.out S1.out (Mix.refl l2 mid c) ((HH.out.2.2.2.1.keep M1.out (.inr (by omega))).sub (by omega) (Nat.le_refl _))
            go_wp2_with fail
            go_end0
            exact ⟨rfl, l2, hR2, M0.out.trans fin.1, fin.2, hC2⟩
          · have fin := merge_end (by omega) (by omega) HH.out.2.2.2.2 M1.out S1.out (Mix.refl l2 mid c) ((HH.out.2.2.1.keep M1.out (.inr (Nat.le_refl _))).sub (Nat.le_refl _) (by omega))
            go_wp2_with fail
            go_end0
            exact ⟨rfl, l2, hR2, M0.out.trans fin.1, fin.2, hC2⟩
        · have M1 : Hid (Mix l1 l1 a mid) := Mix.refl _ _ _
          have S1 : Hid (SrtI up l1 a mid) := HH.out.1.sub (Nat.le_refl _) (by omega)
          obtain ⟨l2, hl2⟩ : ∃ l2, l2 = l1 := ⟨_, rfl⟩
          have hR2 := hR1
          rw [← hl2] at hR2
          have hC2 := hC1
          replace M1 : Hid (Mix l1 l2 a mid) := by rw [hl2]; exact M1
          replace S1 : Hid (SrtI up l2 a mid) := by rw [hl2]; exact S1
          clear hR1 hC1 hl2
          rcases D2 with ⟨d1, d2⟩ | d1 | ⟨d1, d2⟩
          · go_wp2_with fail
            refine (IH.out _ l2 mid e c (by omega) d1 d2 hcn (by rw [M1.out.len]; exact HL.out) hR2 (HH.out.2.2.1.keep M1.out (.inr (Nat.le_refl _))) (HH.out.2.2.2.1.keep M1.out (.inr (by omega)))).mono ?_
            rintro e9 w6 ⟨rfl, l3, hR3, M2, S2, hC3⟩
            have fin := merge_end (by omega) (by omega) HH.out.2.2.2.2 M1.out S1.out M2 S2
            have hC4 := hC2.trans hC3
            clear hR2 hC2 hC3 M2 S2
            go_wp2_with fail
            go_end0
            exact ⟨rfl, l3, hR3, M0.out.trans fin.1, fin.2, hC4⟩
          · have fin := merge_end (by omega) (by omega) HH.out.2.2.2.2 M1.out S1.out (Mix.refl l2 mid c) ((HH.out.2.2.2.1.keep M1.out (.inr (by omega))).sub (by omega) (Nat.le_refl _))
            go_wp2_with fail
            go_end0
            exact ⟨rfl, l2, hR2, M0.out.trans fin.1, fin.2, hC2⟩
          · have fin := merge_end (by omega) (by omega) HH.out.2.2.2.2 M1.out S1.out (Mix.refl l2 mid c) ((HH.out.2.2.1.keep M1.out (.inr (Nat.le_refl _))).sub (Nat.le_refl _) (by omega))
            go_wp2_with fail
            go_end0
            exact ⟨rfl, l2, hR2, M0.out.trans fin.1, fin.2, hC2⟩
      · have hT : Turn (rot s m e) l l := Turn.start l (fun p => by rw [show m = s by omega]; exact rot_id1 s e p)
        obtain ⟨l1, hl1⟩ : ∃ l1, l1 = l := ⟨_, rfl⟩
        have M0 : Hid (Mix l l1 a c) := by rw [hl1]; exact (HF.out l hT).1
        have HH := Lib.hid (HF.out l hT).2
        rw [← hl1] at HH hR
        have HL : Hid (n = l1.length) := by rw [hl1]; exact HN.out
        have hR1 := hR
        have hC1 := hC
        clear hR hC hT HF hl1
        rcases D1 with ⟨b1, b2⟩ | b1 | ⟨b1, b2⟩
        · go_wp2_with fail
          refine (IH.out _ l1 a s mid (by omega) b1 b2 (by omega) HL.out hR1 HH.out.1 HH.out.2.1).mono ?_
          rintro e8 w5 ⟨rfl, l2, hR2, m1, s1, hC5⟩
          have M1 := Lib.hid m1
          have S1 := Lib.hid s1
          have hC2 := hC1.trans hC5
          clear hR1 hC1 hC5 m1 s1
          rcases D2 with ⟨d1, d2⟩ | d1 | ⟨d1, d2⟩
          · go_wp2_with fail
            refine (IH.out _ l2 mid e c (by omega) d1 d2 hcn (by rw [M1.out.len]; exact HL.out) hR2 (HH.out.2.2.1.keep M1.out (.inr (Nat.le_refl _))) (HH.out.2.2.2.1.keep M1.out (.inr (by omega)))).mono ?_
            rintro e9 w6 ⟨rfl, l3, hR3, M2, S2, hC3⟩
            have fin := merge_end (by omega) (by omega) HH.out.2.2.2.2 M1.out S1.out M2 S2
            have hC4 := hC2.trans hC3
            clear hR2 hC2 hC3 M2 S2
            go_wp2_with fail
            go_end0
            exact ⟨rfl, l3, hR3, M0.out.trans fin.1, fin.2, hC4⟩
          · have fin := merge_end (by omega) (by omega) HH.out.2.2.2.2 M1.out S1.out (Mix.refl l2 mid c) ((HH.out.2.2.2.1.keep M1.out (.inr (by omega))).sub (by omega) (Nat.le_refl _))
            go_wp2_with fail
            go_end0
            exact ⟨rfl, l2, hR2, M0.out.trans fin.1, fin.2, hC2⟩
          · have fin := merge_end (by omega) (by omega) HH.out.2.2.2.2 M1.out S1.out (Mix.refl l2 mid c) ((HH.out.2.2.1.keep M1.out (.inr (Nat.le_refl _))).sub (Nat.le_refl _) (by omega))
            go_wp2_with fail
            go_end0
            exact ⟨rfl, l2, hR2, M0.out.trans fin.1, fin.2, hC2⟩
        · have M1 : Hid (Mix l1 l1 a mid) := Mix.refl _ _ _
          have S1 : Hid (SrtI up l1 a mid) := HH.out.2.1.sub (by omega) (Nat.le_refl _)
          obtain ⟨l2, hl2⟩ : ∃ l2, l2 = l1 := ⟨_, rfl⟩
          have hR2 := hR1
          rw [← hl2] at hR2
          have hC2 := hC1
          replace M1 : Hid (Mix l1 l2 a mid) := by rw [hl2]; exact M1
          replace S1 : Hid (SrtI up l2 a mid) := by rw [hl2]; exact S1
          clear hR1 hC1 hl2
          rcases D2 with ⟨d1, d2⟩ | d1 | ⟨d1, d2⟩
          · go_wp2_with fail
            refine (IH.out _ l2 mid e c (by omega) d1 d2 hcn (by rw [M1.out.len]; exact HL.out) hR2 (HH.out.2.2.1.keep M1.out (.inr (Nat.le_refl _))) (HH.out.2.2.2.1.keep M1.out (.inr (by omega)))).mono ?_
            rintro e9 w6 ⟨rfl, l3, hR3, M2, S2, hC3⟩
            have fin := merge_end (by omega) (by omega) HH.out.2.2.2.2 M1.out S1.out M2 S2
            have hC4 := hC2.trans hC3
            clear hR2 hC2 hC3 M2 S2
            go_wp2_with fail
            go_end0
            exact ⟨rfl, l3, hR3, M0.out.trans fin.1, fin.2, hC4⟩
          · have fin := merge_end (by omega) (by omega) HH.out.2.2.2.2 M1.out S1.out (Mix.refl l2 mid c) ((HH.out.2.2.2.1.keep M1.out (.inr (by omega))).sub (by omega) (Nat.le_refl _))
            go_wp2_with fail
            go_end0
            exact ⟨rfl, l2, hR2, M0.out.trans fin.1, fin.2, hC2⟩
          · have fin := merge_end (by omega) (by omega) HH.out.2.2.2.2 M1.out S1.out (Mix.refl l2 mid c) ((HH.out.2.2.1.keep M1.out (.inr (Nat.le_refl _))).sub (Nat.le_refl _) (by omega))
            go_wp2_with fail
            go_end0
            exact ⟨rfl, l2, hR2, M0.out.trans fin.1, fin.2, hC2⟩
        · have M1 : Hid (Mix l1 l1 a mid) := Mix.refl _ _ _
          have S1 : Hid (SrtI up l1 a mid) := HH.out.1.sub (Nat.le_refl _) (by omega)
          obtain ⟨l2, hl2⟩ : ∃ l2, l2 = l1 := ⟨_, rfl⟩
          have hR2 := hR1
          rw [← hl2] at hR2
          have hC2 := hC1
          replace M1 : Hid (Mix l1 l2 a mid) := by rw [hl2]; exact M1
          replace S1 : Hid (SrtI up l2 a mid) := by rw [hl2]; exact S1
          clear hR1 hC1 hl2
          rcases D2 with ⟨d1, d2⟩ | d1 | ⟨d1, d2⟩
          · go_wp2_with fail
            refine (IH.out _ l2 mid e c (by omega) d1 d2 hcn (by rw [M1.out.len]; exact HL.out) hR2 (HH.out.2.2.1.keep M1.out (.inr (Nat.le_refl _))) (HH.out.2.2.2.1.keep M1.out (.inr (by omega)))).mono ?_
            rintro e9 w6 ⟨rfl, l3, hR3, M2, S2, hC3⟩
            have fin := merge_end (by omega) (by omega) HH.out.2.2.2.2 M1.out S1.out M2 S2
            have hC4 := hC2.trans hC3
            clear hR2 hC2 hC3 M2 S2
            go_wp2_with fail
            go_end0
            exact ⟨rfl, l3, hR3, M0.out.trans fin.1, fin.2, hC4⟩
          · have fin := merge_end (by omega) (by omega) HH.out.2.2.2.2 M1.out S1.out (Mix.refl l2 mid c) ((HH.out.2.2.2.1.keep M1.out (.inr (by omega))).sub (by omega) (Nat.le_refl _))
            go_wp2_with fail
            go_end0
            exact ⟨rfl, l2, hR2, M0.out.trans fin.1, fin.2, hC2⟩
          · have fin := merge_end (by omega) (by omega) HH.out.2.2.2.2 M1.out S1.out (Mix.refl l2 mid c) ((HH.out.2.2.1.keep M1.out (.inr (Nat.le_refl _))).sub (Nat.le_refl _) (by omega))
            go_wp2_with fail
            go_end0
            exact ⟨rfl, l2, hR2, M0.out.trans fin.1, fin.2, hC2⟩
      · have hT : Turn (rot s m e) l l := Turn.start l (fun p => by rw [show e = m by omega]; exact rot_id2 s m p)
        obtain ⟨l1, hl1⟩ : ∃ l1, l1 = l := ⟨_, rfl⟩
        have M0 : Hid (Mix l l1 a c) := by rw [hl1]; exact (HF.out l hT).1
        have HH := Lib.hid (HF.out l hT).2
        rw [← hl1] at HH hR
        have HL : Hid (n = l1.length) := by rw [hl1]; exact HN.out
        have hR1 := hR
        have hC1 := hC
        clear hR hC hT HF hl1
        rcases D1 with ⟨b1, b2⟩ | b1 | ⟨b1, b2⟩
        · go_wp2_with fail
          refine (IH.out _ l1 a s mid (by omega) b1 b2 (by omega) HL.out hR1 HH.out.1 HH.out.2.1).mono ?_
          rintro e8 w5 ⟨rfl, l2, hR2, m1, s1, hC5⟩
          have M1 := Lib.hid m1
          have S1 := Lib.hid s1
          have hC2 := hC1.trans hC5
          clear hR1 hC1 hC5 m1 s1
          rcases D2 with ⟨d1, d2⟩ | d1 | ⟨d1, d2⟩
          · go_wp2_with fail
            refine (IH.out _ l2 mid e c (by omega) d1 d2 hcn (by rw [M1.out.len]; exact HL.out) hR2 (HH.out.2.2.1.keep M1.out (.inr (Nat.le_refl _))) (HH.out.2.2.2.1.keep M1.out (.inr (by omega)))).mono ?_
            rintro e9 w6 ⟨rfl, l3, hR3, M2, S2, hC3⟩
            have fin := merge_end (by omega) (by omega) HH.out.2.2.2.2 M1.out S1.out M2 S2
            have hC4 := hC2.trans hC3
            clear hR2 hC2 hC3 M2 S2
            go_wp2_with fail
            go_end0
            exact ⟨rfl, l3, hR3, M0.out.trans fin.1, fin.2, hC4⟩
          · have fin := merge_end (by omega) (by omega) HH.out.2.2.2.2 M1.out S1.out (Mix.refl l2 mid c) ((HH.out.2.2.2.1.keep M1.out (.inr (by omega))).sub (by omega) (Nat.le_refl _))
            go_wp2_with fail
            go_end0
            exact ⟨rfl, l2, hR2, M0.out.trans fin.1, fin.2, hC2⟩
          · have fin := merge_end (by omega) (by omega) HH.out.2.2.2.2 M1.out S1.out (Mix.refl l2 mid c) ((HH.out.2.2.1.keep M1.out (.inr (Nat.le_refl _))).sub (Nat.le_refl _) (by omega))
            go_wp2_with fail
            go_end0
            exact ⟨rfl, l2, hR2, M0.out.trans fin.1, fin.2, hC2⟩
        · have M1 : Hid (Mix l1 l1 a mid) := Mix.refl _ _ _
          have S1 : Hid (SrtI up l1 a mid) := HH.out.2.1.sub (by omega) (Nat.le_refl _)
          obtain ⟨l2, hl2⟩ : ∃ l2, l2 = l1 := ⟨_, rfl⟩
          have hR2 := hR1
          rw [← hl2] at hR2
          have hC2 := hC1
          replace M1 : Hid (Mix l1 l2 a mid) := by rw [hl2]; exact M1
          replace S1 : Hid (SrtI up l2 a mid) := by rw [hl2]; exact S1
          clear hR1 hC1 hl2
          rcases D2 with ⟨d1, d2⟩ | d1 | ⟨d1, d2⟩
          · go_wp2_with fail
            refine (IH.out _ l2 mid e c (by omega) d1 d2 hcn (by rw [M1.out.len]; exact HL.out) hR2 (HH.out.2.2.1.keep M1.out (.inr (Nat.le_refl _))) (HH.out.2.2.2.1.keep M1.out (.inr (by omega)))).mono ?_
            rintro e9 w6 ⟨rfl, l3, hR3, M2, S2, hC3⟩
            have fin := merge_end (by omega) (by omega) HH.out.2.2.2.2 M1.out S1.out M2 S2
            have hC4 := hC2.trans hC3
            clear hR2 hC2 hC3 M2 S2
            go_wp2_with fail
            go_end0
            exact ⟨rfl, l3, hR3, M0.out.trans fin.1, fin.2, hC4⟩
          · have fin := merge_end (by omega) (by omega) HH.out.2.2.2.2 M1.out S1.out (Mix.refl l2 mid c) ((HH.out.2.2.2.1.keep M1.out (.inr (by omega))).sub (by omega) (Nat.le_refl _))
            go_wp2_with fail
            go_end0
            exact ⟨rfl, l2, hR2, M0.out.trans fin.1, fin.2, hC2⟩
          · have fin := merge_end (by omega) (by omega) HH.out.2.2.2.2 M1.out S1.out (Mix.refl l2 mid c) ((HH.out.2.2.1.keep M1.out (.inr (Nat.le_refl _))).sub (Nat.le_refl _) (by omega))
            go_wp2_with fail
            go_end0
            exact ⟨rfl, l2, hR2, M0.out.trans fin.1, fin.2, hC2⟩
        · have M1 : Hid (Mix l1 l1 a mid) := Mix.refl _ _ _
          have S1 : Hid (SrtI up l1 a mid) := HH.out.1.sub (Nat.le_refl _) (by omega)
          obtain ⟨l2, hl2⟩ : ∃ l2, l2 = l1 := ⟨_, rfl⟩
          have hR2 := hR1
          rw [← hl2] at hR2
          have hC2 := hC1
          replace M1 : Hid (Mix l1 l2 a mid) := by rw [hl2]; exact M1
          replace S1 : Hid (SrtI up l2 a mid) := by rw [hl2]; exact S1
          clear hR1 hC1 hl2
          rcases D2 with ⟨d1, d2⟩ | d1 | ⟨d1, d2⟩
          · go_wp2_with fail
            refine (IH.out _ l2 mid e c (by omega) d1 d2 hcn (by rw [M1.out.len]; exact HL.out) hR2 (HH.out.2.2.1.keep M1.out (.inr (Nat.le_refl _))) (HH.out.2.2.2.1.keep M1.out (.inr (by omega)))).mono ?_
            rintro e9 w6 ⟨rfl, l3, hR3, M2, S2, hC3⟩
            have fin := merge_end (by omega) (by omega) HH.out.2.2.2.2 M1.out S1.out M2 S2
            have hC4 := hC2.trans hC3
            clear hR2 hC2 hC3 M2 S2
            go_wp2_with fail
            go_end0
            exact ⟨rfl, l3, hR3, M0.out.trans fin.1, fin.2, hC4⟩
          · have fin := merge_end (by omega) (by omega) HH.out.2.2.2.2 M1.out S1.out (Mix.refl l2 mid c) ((HH.out.2.2.2.1.keep M1.out (.inr (by omega))).sub (by omega) (Nat.le_refl _))
            go_wp2_with fail
            go_end0
            exact ⟨rfl, l2, hR2, M0.out.trans fin.1, fin.2, hC2⟩
          · have fin := merge_end (by omega) (by omega) HH.out.2.2.2.2 M1.out S1.out (Mix.refl l2 mid c) ((HH.out.2.2.1.keep M1.out (.inr (Nat.le_refl _))).sub (Nat.le_refl _) (by omega))
            go_wp2_with fail
            go_end0
            exact ⟨rfl, l2, hR2, M0.out.trans fin.1, fin.2, hC2⟩
end Go.Proofs.YteabcpmpcbjicaaGreat

namespace Go.Proofs.YteabcpmpcbjicaaGreat
set_option linter.unusedVariables false
open Go Go.Proofs Go.RowKit
attribute [local go_sem ↓] Go.wp_at_zero Go.wp_at_succ

/-- slices.symMergeCmpFunc. -/
theorem symMerge {n cap g b K : Nat} {up : Bool} (hnc : n ≤ cap) (hcm : cap ≤ 9223372036854775807) (hm : n < 1000000000000) : ∀ k, SymSaid n cap g b K up k := by
  intro k
  induction k with
  | zero => intro w l a m c h; omega
  | succ k ih =>
    intro w l a m c hk ham hmc hcn hn hR h1 h2
    have IH := Lib.hid ih
    by_cases c1 : m = a + 1
    · exact symA hR hn hnc hcm hm c1 hmc hcn h2
    · by_cases c2 : c = m + 1
      · exact symB hR hn hnc hcm hm (by omega) c2 hcn h1
      · by_cases c3 : (a + c) / 2 < m
        · exact symC1 IH hR hn hnc hcm hm (by omega) (by omega) (by omega) hcn rfl c3 h1 h2
        · exact symC2 IH hR hn hnc hcm hm (by omega) (by omega) (by omega) hcn rfl (by omega) h1 h2

set_option maxRecDepth 100000 in
set_option maxHeartbeats 8000000 in
/-- slices.stableCmpFunc. -/
theorem stable {w : World} {g b K n cap : Nat} {up : Bool} {l : List Ord} (h : Srow w g b K up l) (hn : n = l.length) (hnc : n ≤ cap) (hcm : cap ≤ 9223372036854775807) (hm : n < 1000000000000) :
    Calls Tryz.prog 192 #[.slice (some ⟨g, 0, none⟩) n cap, .int .i64 n, fcmp b] w fun e w' => e = .returned (.tuple #[]) ∧ ∃ l', Srow w' g b K up l' ∧ l'.Perm l ∧ SrtI up l' 0 n ∧ Chg [g] w w' := by
  have HN := Lib.hid hn
  clear hn
  go_enter Tryz.func192, Tryz.ntmps192
  go_wp2_with fail
  go_loopw [7, 8] (fun u v wr => ∃ (q a : Nat) (d : List Ord), u = .int .i64 a ∧ v = .int .i64 ((a : Int) + 20) ∧ a ≤ n ∧ InsB up 20 q a d ∧ Srow wr g b K up d ∧ d.Perm l ∧ Chg [g] w wr) (fun u _ _ => n - (intOf u).toNat)
  case atStart => exact ⟨0, 0, l, rfl, rfl, Nat.zero_le _, InsB.start _ _ _, h, List.Perm.refl _, Chg.refl _ _⟩
  case round =>
    clear h
    obtain ⟨q, a, d, rfl, rfl, ha, hB, hR, hP, hC⟩ := hrel
    have HL : Hid (n = d.length) := by show _ = _; rw [hP.length_eq]; exact HN.out
    by_cases hlt : a + 20 ≤ n
    · obtain ⟨c, hc⟩ : ∃ c, c = a + 20 := ⟨_, rfl⟩
      have ec : (a : Int) + 20 = (c : Int) := by omega
      have c1 : c ≤ a + 20 := by omega
      have c2 : a + 20 ≤ c := by omega
      have HC := Lib.hid hc
      clear hc
      go_wp2_with fail
      refine (insSort hR HL.out hnc hcm hm (lo := a) (hi := c) (by omega) (by omega)).mono ?_
      rintro e w2 ⟨rfl, d2, hR2, hM, hS, hC2⟩
      rw [HC.out] at hM hS
      have hB2 := hB.step hM hS
      rw [← HC.out] at hB2
      have hP2 := hM.perm.trans hP
      have hC3 := hC.trans hC2
      clear hR hB hP hM hS hC hC2 ec
      go_wp2_with fail
      go_roundw
      case rel => exact ⟨q + 1, c, d2, vint (by omega), vint (by omega), by omega, hB2, hR2, hP2, hC3⟩
      case measure => simp [intOf]; omega
    · go_wp2_with fail
      refine (insSort hR HL.out hnc hcm hm (lo := a) (hi := n) (by omega) (Nat.le_refl _)).mono ?_
      rintro e w2 ⟨rfl, d2, hR2, hM, hS, hC2⟩
      have hA := hB.last ha (by omega) hM hS
      have hP2 := hM.perm.trans hP
      have hC3 := hC.trans hC2
      clear hR hB hP hM hS hC hC2 HL
      go_wp2_with fail
      obtain ⟨wo, rfl⟩ : ∃ wo : World, wo = wr := ⟨_, rfl⟩
      go_loopw [6] (fun u wr => ∃ (bs : Nat) (d : List Ord), u = .int .i64 bs ∧ 1 ≤ bs ∧ bs ≤ 2000000000000 ∧ AllB up n bs d ∧ Srow wr g b K up d ∧ d.Perm l ∧ Chg [g] w wr) (fun u _ => n - (intOf u).toNat)
      case atStart => exact ⟨20, d2, rfl, by omega, by omega, hA, hR2, hP2, hC3⟩
      case round =>
        clear hA hR2 hP2 hC3
        obtain ⟨bs, d, rfl, bs1, bs2, hA, hR, hP, hC⟩ := hrel
        by_cases hlt2 : bs < n
        · have hM0 := MrgB.start hA
          go_wp2_with fail
          obtain ⟨wo2, rfl⟩ : ∃ wo2 : World, wo2 = wr := ⟨_, rfl⟩
          go_loopw [7, 8] (fun u v wr => ∃ (q a : Nat) (d : List Ord), u = .int .i64 a ∧ v = .int .i64 ((a : Int) + 2 * (bs : Int)) ∧ a ≤ n ∧ MrgB up n bs q a d ∧ Srow wr g b K up d ∧ d.Perm l ∧ Chg [g] w wr) (fun u _ _ => n - (intOf u).toNat)
          case atStart => exact ⟨0, 0, d, rfl, by simp, Nat.zero_le _, hM0, hR, hP, hC⟩
          case round =>
            clear hA hR hP hC hM0
            obtain ⟨q, a, d, rfl, rfl, ha, hB, hR, hP, hC⟩ := hrel
            have HL : Hid (n = d.length) := by show _ = _; rw [hP.length_eq]; exact HN.out
            obtain ⟨hh1, hh2⟩ := hB.halves
            obtain ⟨x, hx⟩ : ∃ x, x = a + bs := ⟨_, rfl⟩
            obtain ⟨c, hc⟩ : ∃ c, c = a + 2 * bs := ⟨_, rfl⟩
            have ec : (a : Int) + 2 * (bs : Int) = (c : Int) := by omega
            have ex : (a : Int) + (bs : Int) = (x : Int) := by omega
            have c1 : c ≤ a + 2 * bs := by omega
            have c2 : a + 2 * bs ≤ c := by omega
            have x1 : x ≤ a + bs := by omega
            have x2 : a + bs ≤ x := by omega
            have HCX : Hid (c = a + 2 * bs) := hc
            have HX : Hid (x = a + bs) := hx
            rw [← hx] at hh1 hh2
            clear hc hx
            by_cases hlt3 : c ≤ n
            · go_wp2_with fail
              refine (symMerge hnc hcm hm (c - a + 1) _ d a x c (by omega) (by omega) (by omega) hlt3 HL.out hR (by rwa [Nat.min_eq_left (by omega)] at hh1) (by rw [Nat.min_eq_left (by omega)] at hh2; exact hh2.sub (Nat.le_refl _) (by omega))).mono ?_
              rintro e w2 ⟨rfl, d2, hR2, hM, hS, hC2⟩
              rw [HCX.out] at hM hS
              have hB2 := hB.step hM hS
              rw [← HCX.out] at hB2
              have hP2 := hM.perm.trans hP
              have hC3 := hC.trans hC2
              clear hR hB hP hM hS hC hC2 ec ex hh1 hh2
              go_wp2_with fail
              go_roundw
              case rel => exact ⟨q + 1, c, d2, vint (by omega), vint (by omega), by omega, hB2, hR2, hP2, hC3⟩
              case measure => simp [intOf]; omega
            · by_cases hlt4 : x < n
              · go_wp2_with fail
                refine (symMerge hnc hcm hm (n - a + 1) _ d a x n (by omega) (by omega) (by omega) (Nat.le_refl _) HL.out hR (by rwa [Nat.min_eq_left (by omega)] at hh1) (by rwa [Nat.min_eq_right (by omega)] at hh2)).mono ?_
                rintro e w2 ⟨rfl, d2, hR2, hM, hS, hC2⟩
                have hA2 := hB.last ha (by omega) hM hS
                have hP2 := hM.perm.trans hP
                have hC3 := hC.trans hC2
                clear hR hB hP hM hS hC hC2 ec ex hh1 hh2
                go_wp2_with fail
                exact ⟨⟨2 * bs, d2, vint (by omega), by omega, by omega, hA2, hR2, hP2, hC3⟩, by simp [intOf]; omega⟩
              · have hA2 := hB.last ha (by omega) (Mix.refl d a n) (by rwa [Nat.min_eq_right (by omega)] at hh1)
                go_wp2_with fail
                exact ⟨⟨2 * bs, d, vint (by omega), by omega, by omega, hA2, hR, hP, hC⟩, by simp [intOf]; omega⟩
        · go_wp2_with fail
          go_end0
          exact ⟨rfl, d, hR, hP, hA.done (by omega), hC⟩
end Go.Proofs.YteabcpmpcbjicaaGreat
