import Derived.Test.YtofcphfgpnobnaaBookUnxR
import Derived.Deep.DrawnRows
import Derived.Deep.RegionHeld3
import Derived.StillTailTactics
namespace Go.Proofs.Ytofcphfgpnobnaa
set_option linter.unusedVariables false
open Go Go.Proofs Go.RowKit
attribute [local go_sem ↓] Go.wp_at_zero Go.wp_at_succ

set_option maxRecDepth 100000 in
set_option maxHeartbeats 16000000 in
theorem unx_walk9 (a1 : Option Addr) (n1 cap1 : Nat) (w : World) (h1 : SRec [some .i64, some .i64, some .i64, none, none, some .u64, some .u64] w a1 n1 cap1) :
    Calls Try.prog 11 #[.slice a1 n1 cap1] w fun e w' => e = .returned (.bool true) ∧ Below w.heap.size w w' := by
  have n1m : n1 ≤ 9223372036854775807 := by have := h1.1; have := h1.2.1; omega
  have H1 := Lib.hid h1; clear h1
  have hmm := @run_makeMap Try.prog
  go_enter Try.func11, Try.ntmps11
  go_wp2_with fail
  refine (bNewS w w (Chg.refl _ _)).mono ?_
  rintro e w1 ⟨kb, F0, rfl, hB0, _, _⟩
  have hBm := hB0.to ((Chg.refl [] w1).alloc (.map #[] 0))
  have hM0 := MapU.new w1
  have hmF : w1.heap.size ∉ F0 := fun hm => by have := hB0.new _ hm; omega
  have hmz := hB0.c.size
  clear hB0
  go_wp2_with fail
  clear hmm
  generalize w1.heap.size = mb at *
  generalize w1.alloc _ = W0 at *
  go_loopw [5] (fun i wr => ∃ (k : Nat) (F : List Nat) (L M : List Ord) (f : Int → Int), k ≤ n1 ∧ k ≤ 50 ∧ i = .int .i64 k ∧ BkS w wr F kb L M ∧ MapU wr mb k f ∧ mb ∉ F ∧ Hid (Unx k f L M)) (fun i _ => 50 - (intOf i).toNat)
  case atStart => exact ⟨0, F0, [], [], _, by omega, by omega, rfl, hBm, hM0, hmF, Unx.start _⟩
  case round =>
    clear hBm hM0 hmF
    obtain ⟨k, F, L, M, f, hk1, hk2, rfl, hB, hM, hmF, hU⟩ := hrel
    by_cases hlt2 : k < n1 ∧ k < 50
    · obtain ⟨hm1, hm2⟩ := hlt2
      obtain ⟨b1, off, kd, id, cl, by', rs, p, q, rfl, _, _, _, hp, hq, Q⟩ := H1.out.step9 hm1
      obtain ⟨s0, s1, s2, s3, s4, s5, s6⟩ := Q.c wr hB.c.below
      obtain ⟨f1, e1, l1⟩ := and15_u64 p
      obtain ⟨f2, e2, l2⟩ := and15_u64 q
      have d50 : decide ((k : Int) < 50) = true := by simp; omega
      have i1 : (0 : Int) ≤ (k : Int) := by omega
      have i2 : (k : Int) < (n1 : Int) := by omega
      have w1 : IntKind.i64.wrap ((k : Int) + 1) = (k : Int) + 1 := IntWalk.i64_in _ (by omega)
      have HCC : Hid (∀ o, Chg [] wr (wr.drew.alloc o)) := fun o => ((Chg.refl _ _).drew).alloc o
      clear s0 s1 s2 s4 Q hp hq
      cases by'
      · go_upto_region 8 with (fail)
        refine wp_region_held_drew (S := (fun w' => w'.cell? ⟨b1, off + k * 7 + 3, none⟩ = some (.bool false) ∧ w'.cell? ⟨b1, off + k * 7 + 5, none⟩ = some (.int .u64 p) ∧ w'.cell? ⟨b1, off + k * 7 + 6, none⟩ = some (.int .u64 q))) (by kernel_rfl) ⟨s3, s5, s6⟩ (fun _ => ?_)
        refine wpAnyH_take (i := 0) (v := ?_) rfl (by kernel_rfl) (by kernel_rfl) (by kernel_rfl) (fun _ _ _ h => h) (Or.inl ⟨by rfl, ?_⟩) ⟨s3, s5, s6⟩ ?_
        rotate_left
        · (intro w hSw; (try dsimp only at hSw); go_simp; (try (with_reducible rfl)))
        change wpAnyH _ _ _ _ _ _ _ (Act.put _ (some 27) _) _
        simp only [Act.put, List.setIfInBounds_toArray, List.set_cons_succ, List.set_cons_zero]
        refine wpAnyH_take (i := 1) (v := ?_) rfl (by kernel_rfl) (by kernel_rfl) (by kernel_rfl) (fun _ _ _ h => h) (Or.inl ⟨by rfl, ?_⟩) ⟨s3, s5, s6⟩ ?_
        rotate_left
        · (intro w hSw; (try dsimp only at hSw); go_simp; (try (with_reducible rfl)))
        change wpAnyH _ _ _ _ _ _ _ (Act.put _ (some 28) _) _
        simp only [Act.put, List.setIfInBounds_toArray, List.set_cons_succ, List.set_cons_zero]
        refine wpAnyH_take (i := 2) (v := ?_) rfl (by kernel_rfl) (by kernel_rfl) (by kernel_rfl) (fun _ _ _ h => h) (Or.inl ⟨by rfl, ?_⟩) ⟨s3, s5, s6⟩ ?_
        rotate_left
        · (intro w hSw; (try dsimp only at hSw); go_simp; (try (with_reducible rfl)))
        change wpAnyH _ _ _ _ _ _ _ (Act.put _ (some 29) _) _
        simp only [Act.put, List.setIfInBounds_toArray, List.set_cons_succ, List.set_cons_zero]
        refine wpAnyH_take (i := 3) (v := ?_) rfl (by kernel_rfl) (by kernel_rfl) (by kernel_rfl) (fun _ _ _ h => h) (Or.inl ⟨by rfl, ?_⟩) ⟨s3, s5, s6⟩ ?_
        rotate_left
        · (intro w hSw; (try dsimp only at hSw); go_simp; (try (with_reducible rfl)))
        change wpAnyH _ _ _ _ _ _ _ (Act.put _ (some 30) _) _
        simp only [Act.put, List.setIfInBounds_toArray, List.set_cons_succ, List.set_cons_zero]
        refine wpAnyH_take (i := 4) (v := ?_) rfl (by kernel_rfl) (by kernel_rfl) (by kernel_rfl) (fun _ _ _ h => h) (Or.inl ⟨by rfl, ?_⟩) ⟨s3, s5, s6⟩ ?_
        rotate_left
        · (intro w hSw; (try dsimp only at hSw); go_simp; (try (with_reducible rfl)))
        change wpAnyH _ _ _ _ _ _ _ (Act.put _ (some 31) _) _
        simp only [Act.put, List.setIfInBounds_toArray, List.set_cons_succ, List.set_cons_zero]
        refine wpAnyH_take (i := 5) (v := ?_) rfl (by kernel_rfl) (by kernel_rfl) (by kernel_rfl) (fun _ _ _ h => h) (Or.inl ⟨by rfl, ?_⟩) ⟨s3, s5, s6⟩ ?_
        rotate_left
        · (intro w hSw; (try dsimp only at hSw); go_simp; (try (with_reducible rfl)))
        change wpAnyH _ _ _ _ _ _ _ (Act.put _ (some 32) _) _
        simp only [Act.put, List.setIfInBounds_toArray, List.set_cons_succ, List.set_cons_zero]
        refine wpAnyH_take (i := 6) (v := ?_) rfl (by kernel_rfl) (by kernel_rfl) (by kernel_rfl) (fun _ _ _ h => h) (Or.inl ⟨by rfl, ?_⟩) ⟨s3, s5, s6⟩ ?_
        rotate_left
        · (intro w hSw; (try dsimp only at hSw); go_simp; (try (with_reducible rfl)))
        change wpAnyH _ _ _ _ _ _ _ (Act.put _ (some 33) _) _
        simp only [Act.put, List.setIfInBounds_toArray, List.set_cons_succ, List.set_cons_zero]
        refine wpAnyH_take (i := 7) (v := ?_) rfl (by kernel_rfl) (by kernel_rfl) (by kernel_rfl) (fun _ _ _ h => h) (Or.inl ⟨by rfl, ?_⟩) ⟨s3, s5, s6⟩ ?_
        rotate_left
        · (intro w hSw; (try dsimp only at hSw); go_simp; (try (with_reducible rfl)))
        change wpAnyH _ _ _ _ _ _ _ (Act.put _ (some 34) _) _
        simp only [Act.put, List.setIfInBounds_toArray, List.set_cons_succ, List.set_cons_zero]
        refine wpAnyH_take (i := 8) (v := ?_) rfl (by kernel_rfl) (by kernel_rfl) (by kernel_rfl) (fun _ _ _ h => h) (Or.inl ⟨by rfl, ?_⟩) ⟨s3, s5, s6⟩ ?_
        rotate_left
        · (intro w hSw; (try dsimp only at hSw); go_simp; (try (with_reducible rfl)))
        change wpAnyH _ _ _ _ _ _ _ (Act.put _ (some 35) _) _
        simp only [Act.put, List.setIfInBounds_toArray, List.set_cons_succ, List.set_cons_zero]
        refine wpAnyH_take (i := 9) (v := ?_) rfl (by kernel_rfl) (by kernel_rfl) (by kernel_rfl) (fun _ _ _ h => h) (Or.inl ⟨by rfl, ?_⟩) ⟨s3, s5, s6⟩ ?_
        rotate_left
        · (intro w hSw; (try dsimp only at hSw); go_simp; (try (with_reducible rfl)))
        change wpAnyH _ _ _ _ _ _ _ (Act.put _ (some 36) _) _
        simp only [Act.put, List.setIfInBounds_toArray, List.set_cons_succ, List.set_cons_zero]
        refine wpAnyH_take (i := 10) (v := ?_) rfl (by kernel_rfl) (by kernel_rfl) (by kernel_rfl) (fun _ _ _ h => h) (Or.inl ⟨by rfl, ?_⟩) ⟨s3, s5, s6⟩ ?_
        rotate_left
        · (intro w hSw; (try dsimp only at hSw); go_simp; (try (with_reducible rfl)))
        change wpAnyH _ _ _ _ _ _ _ (Act.put _ (some 37) _) _
        simp only [Act.put, List.setIfInBounds_toArray, List.set_cons_succ, List.set_cons_zero]
        refine wpAnyH_take (i := 11) (v := ?_) rfl (by kernel_rfl) (by kernel_rfl) (by kernel_rfl) (fun _ _ _ h => h) (Or.inl ⟨by rfl, ?_⟩) ⟨s3, s5, s6⟩ ?_
        rotate_left
        · (intro w hSw; (try dsimp only at hSw); go_simp; (try (with_reducible rfl)))
        change wpAnyH _ _ _ _ _ _ _ (Act.put _ (some 38) _) _
        simp only [Act.put, List.setIfInBounds_toArray, List.set_cons_succ, List.set_cons_zero]
        refine wpAnyH_take (i := 12) (v := ?_) rfl (by kernel_rfl) (by kernel_rfl) (by kernel_rfl) (fun _ _ _ h => h) (Or.inl ⟨by rfl, ?_⟩) ⟨s3, s5, s6⟩ ?_
        rotate_left
        · (intro w hSw; (try dsimp only at hSw); go_simp; (try (with_reducible rfl)))
        change wpAnyH _ _ _ _ _ _ _ (Act.put _ (some 39) _) _
        simp only [Act.put, List.setIfInBounds_toArray, List.set_cons_succ, List.set_cons_zero]
        refine wpAnyH_take (i := 13) (v := ?_) rfl (by kernel_rfl) (by kernel_rfl) (by kernel_rfl) (fun _ _ _ h => h) (Or.inl ⟨by rfl, ?_⟩) ⟨s3, s5, s6⟩ ?_
        rotate_left
        · (intro w hSw; (try dsimp only at hSw); go_simp; (try (with_reducible rfl)))
        change wpAnyH _ _ _ _ _ _ _ (Act.put _ (some 40) _) _
        simp only [Act.put, List.setIfInBounds_toArray, List.set_cons_succ, List.set_cons_zero]
        refine wpAnyH_take (i := 14) (v := ?_) rfl (by kernel_rfl) (by kernel_rfl) (by kernel_rfl) (fun _ _ _ h => h) (Or.inl ⟨by rfl, ?_⟩) ⟨s3, s5, s6⟩ ?_
        rotate_left
        · (intro w hSw; (try dsimp only at hSw); go_simp; (try (with_reducible rfl)))
        change wpAnyH _ _ _ _ _ _ _ (Act.put _ (some 41) _) _
        simp only [Act.put, List.setIfInBounds_toArray, List.set_cons_succ, List.set_cons_zero]
        refine wpAnyH_take (i := 15) (v := ?_) rfl (by kernel_rfl) (by kernel_rfl) (by kernel_rfl) (fun _ _ _ h => h) (Or.inl ⟨by rfl, ?_⟩) ⟨s3, s5, s6⟩ ?_
        rotate_left
        · (intro w hSw; (try dsimp only at hSw); go_simp; (try (with_reducible rfl)))
        change wpAnyH _ _ _ _ _ _ _ (Act.put _ (some 42) _) _
        simp only [Act.put, List.setIfInBounds_toArray, List.set_cons_succ, List.set_cons_zero]
        refine wpAnyH_take (i := 16) (v := ?_) rfl (by kernel_rfl) (by kernel_rfl) (by kernel_rfl) (fun _ _ _ h => h) (Or.inl ⟨by rfl, ?_⟩) ⟨s3, s5, s6⟩ ?_
        rotate_left
        · (intro w hSw; (try dsimp only at hSw); go_simp; (try (with_reducible rfl)))
        change wpAnyH _ _ _ _ _ _ _ (Act.put _ (some 43) _) _
        simp only [Act.put, List.setIfInBounds_toArray, List.set_cons_succ, List.set_cons_zero]
        refine wpAnyH_take (i := 17) (v := ?_) rfl (by kernel_rfl) (by kernel_rfl) (by kernel_rfl) (fun _ _ _ h => h) (Or.inl ⟨by rfl, ?_⟩) ⟨s3, s5, s6⟩ ?_
        rotate_left
        · (intro w hSw; (try dsimp only at hSw); go_simp; (try (with_reducible rfl)))
        change wpAnyH _ _ _ _ _ _ _ (Act.put _ (some 44) _) _
        simp only [Act.put, List.setIfInBounds_toArray, List.set_cons_succ, List.set_cons_zero]
        refine wpAnyH_take (i := 18) (v := ?_) rfl (by kernel_rfl) (by kernel_rfl) (by kernel_rfl) (fun _ _ _ h => h) (Or.inl ⟨by rfl, ?_⟩) ⟨s3, s5, s6⟩ ?_
        rotate_left
        · (intro w hSw; (try dsimp only at hSw); go_simp; (try (with_reducible rfl)))
        change wpAnyH _ _ _ _ _ _ _ (Act.put _ (some 45) _) _
        simp only [Act.put, List.setIfInBounds_toArray, List.set_cons_succ, List.set_cons_zero]
        refine wpAnyH_take (i := 19) (v := ?_) rfl (by kernel_rfl) (by kernel_rfl) (by kernel_rfl) (fun _ _ _ h => h) (Or.inl ⟨by rfl, ?_⟩) ⟨s3, s5, s6⟩ ?_
        rotate_left
        · (intro w hSw; (try dsimp only at hSw); go_simp; (try (with_reducible rfl)))
        change wpAnyH _ _ _ _ _ _ _ (Act.put _ (some 46) _) _
        simp only [Act.put, List.setIfInBounds_toArray, List.set_cons_succ, List.set_cons_zero]
        refine wpAnyH_take (i := 20) (v := ?_) rfl (by kernel_rfl) (by kernel_rfl) (by kernel_rfl) (fun _ _ _ h => h) (Or.inl ⟨by rfl, ?_⟩) ⟨s3, s5, s6⟩ ?_
        rotate_left
        · (intro w hSw; (try dsimp only at hSw); go_simp; (try (with_reducible rfl)))
        change wpAnyH _ _ _ _ _ _ _ (Act.put _ (some 47) _) _
        simp only [Act.put, List.setIfInBounds_toArray, List.set_cons_succ, List.set_cons_zero]
        refine wpAnyH_ready (rs := [21]) (by kernel_rfl) (by simp) (AllReadyH.cons rfl (fun K hK => ?_) AllReadyH.nil)
        go_simp
        refine hK.out _ _ ⟨(HCC.out _).cell s3 (by simp), (HCC.out _).cell s5 (by simp), (HCC.out _).cell s6 (by simp)⟩ (fun hHeld => ?_)
        clear hK K
        refine wpAnyH_ready (rs := [22]) (by kernel_rfl) (by simp) (AllReadyH.cons rfl (fun K hK => ?_) AllReadyH.nil)
        go_simp
        refine hK.out _ _ ⟨(HCC.out _).cell s3 (by simp), (HCC.out _).cell s5 (by simp), (HCC.out _).cell s6 (by simp)⟩ (fun hHeld => ?_)
        clear hK K
        refine wpAnyH_done (by kernel_rfl) ?_ _
        have hW : Chg [] wr (wr.alloc (.cells #[.int .i64 ((k : Int) + 1), .int .i64 (k : Int), .bool false, .int .u64 (f1 : Int), .int .u64 (f2 : Int)] 28)).drew := ((Chg.refl _ _).alloc _).drew
        have hB1 := hB.to hW
        have hM1 := hM.chg hW (by simp)
        have hbx : Blk (wr.alloc (.cells #[.int .i64 ((k : Int) + 1), .int .i64 (k : Int), .bool false, .int .u64 (f1 : Int), .int .u64 (f2 : Int)] 28)).drew wr.heap.size 28 (oc ⟨(k : Int) + 1, k, false, f1, f2⟩) := Blk.new wr (oc ⟨(k : Int) + 1, k, false, f1, f2⟩) 28
        have hg8 : mb < wr.heap.size := hM.lt
        have hg9 : ∀ x ∈ F, x < wr.heap.size := hB.new
        have hg10 : wr.heap.size < (wr.alloc (.cells #[.int .i64 ((k : Int) + 1), .int .i64 (k : Int), .bool false, .int .u64 (f1 : Int), .int .u64 (f2 : Int)] 28)).drew.heap.size := by simp [World.drew]
        have hwz : w.heap.size ≤ wr.heap.size := hB.c.size
        clear hB hM hW HCC s3 s5 s6
        generalize wr.heap.size = g8 at *
        generalize (wr.alloc _).drew = W at *
        have y0 := hbx.at (i := 0) rfl
        have y1 := hbx.at (i := 1) rfl
        have y2 := hbx.at (i := 2) rfl
        have y3 := hbx.at (i := 3) rfl
        have y4 := hbx.at (i := 4) rfl
        go_wp2_with (at_mapUpdate; refine wpList_putU _ rfl (.tmp 48) (.tmp 50) (.tmp 52) rfl mb k f rfl hM1 (by unfold maxLen; omega) ((k : Int) + 1) (f1 : Int) rfl rfl ⟨by omega, by omega⟩ ⟨by omega, by omega⟩ ?_)
        intro w2 hM2 hc2
        have hB2 := hB1.aside hc2 hmF hmz
        have hb2 := hbx.chg hc2 (by simp; omega)
        clear hB1 hM1 hbx hc2 y0 y1 y2 y3 y4
        have y0 := hb2.at (i := 0) rfl
        have y1 := hb2.at (i := 1) rfl
        have y2 := hb2.at (i := 2) rfl
        have y3 := hb2.at (i := 3) rfl
        have y4 := hb2.at (i := 4) rfl
        obtain ⟨T, lft, hT0⟩ : ∃ T lft, (mres ⟨(k : Int) + 1, k, false, f1, f2⟩ L M).1 = T ∧ (mres ⟨(k : Int) + 1, k, false, f1, f2⟩ L M).2.1 = lft := ⟨_, _, rfl, rfl⟩
        obtain ⟨sL, sM⟩ := hB2.srt
        have hU2 := hU.out.step sL sM (o := ⟨(k : Int) + 1, k, false, f1, f2⟩) rfl (by show (0 : Int) ≤ (f2 : Int) ∧ (f2 : Int) ≤ 15; omega)
        have hfr := hU.out.fr.mch ⟨(k : Int) + 1, k, false, f1, f2⟩
        have htr := hU.out.trades ⟨(k : Int) + 1, k, false, f1, f2⟩
        have hsum : isum (T.map Trd.qty) + lft = (f2 : Int) := by
          have := mch_sum ⟨(k : Int) + 1, k, false, f1, f2⟩ L (f2 : Int)
          rw [← hT0.1, ← hT0.2]
          exact this
        have hlf := mch_left ⟨(k : Int) + 1, k, false, f1, f2⟩ L (fun x hx => by have := hU.out.all x (by simp [hx]); omega) (f2 : Int) (by omega)
        have hTl := (mch_len ⟨(k : Int) + 1, k, false, f1, f2⟩ L (f2 : Int)).1
        have hlen := hU.out.len
        have hlf2 : 0 ≤ lft ∧ lft ≤ (f2 : Int) := by rw [← hT0.2]; exact hlf
        have hTl2 : T.length ≤ k := by
          have : T.length ≤ L.length := by rw [← hT0.1]; exact hTl
          omega
        rw [hT0.2] at hU2
        rw [hT0.1] at htr
        have HT0 : Hid ((mres ⟨(k : Int) + 1, k, false, f1, f2⟩ L M).1 = T ∧ (mres ⟨(k : Int) + 1, k, false, f1, f2⟩ L M).2.1 = lft) := hT0
        have HU2 := Lib.hid hU2
        have HFR := Lib.hid hfr
        have HTR := Lib.hid htr
        have HSUM := Lib.hid hsum
        have hlm : (mL ⟨(k : Int) + 1, k, false, f1, f2⟩ L M).length + (mM ⟨(k : Int) + 1, k, false, f1, f2⟩ L M).length ≤ k := by
          have h9 := (mch_len ⟨(k : Int) + 1, k, false, f1, f2⟩ L (f2 : Int)).2
          have e1 : (mL ⟨(k : Int) + 1, k, false, f1, f2⟩ L M).length = (mch ⟨(k : Int) + 1, k, false, f1, f2⟩ (f2 : Int) L).2.2.length := rfl
          have e2 : (mM ⟨(k : Int) + 1, k, false, f1, f2⟩ L M).length = M.length := rfl
          omega
        obtain ⟨v1, v2⟩ := hlf2
        clear hT0 hU2 hfr htr hsum hlf hTl sL sM hU
        go_wp2_with fail
        refine (bMatch_is hB2 ⟨(k : Int) + 1, k, false, f1, f2⟩ T lft (mL ⟨(k : Int) + 1, k, false, f1, f2⟩ L M) (mM ⟨(k : Int) + 1, k, false, f1, f2⟩ L M) ⟨HT0.out.1, HT0.out.2, rfl, rfl⟩ (ordOk _ _ _ _ _ ⟨by omega, by omega⟩ ⟨by omega, by omega⟩ ⟨by omega, by omega⟩ ⟨by omega, by omega⟩) (by omega) (by omega)).mono ?_
        rintro e w4 ⟨a4, d4, rfl, hTN, hB4, c4⟩
        have hM4 := hM2.chg c4 hmF
        have hg8F : g8 ∉ F := fun hm => by have := hg9 g8 hm; omega
        have hb4 := hb2.chg c4 hg8F
        have hHT := HT0
        clear hB2 hM2 hb2 y0 y1 y2 y3 y4 HT0
        obtain ⟨nT, hnT⟩ : ∃ m, T.length = m := ⟨_, rfl⟩
        rw [hnT] at hTl2 ⊢
        have HN := Lib.hid hnT
        clear hnT
        have hg4 : ∀ x ∈ F, x < w4.heap.size := hB4.new
        clear c4
        go_wp2_with fail
        obtain ⟨wz, hwz4⟩ : ∃ x, x = w4 := ⟨_, rfl⟩
        go_loopw [9, 10] (fun v i wr => ∃ j : Nat, j ≤ nT ∧ i = .int .i64 j ∧ v = .int .u64 (isum ((T.take j).map Trd.qty)) ∧ Chg [] w4 wr ∧ Hid (0 ≤ isum ((T.take j).map Trd.qty) ∧ isum ((T.take j).map Trd.qty) ≤ 15 * j)) (fun _ i _ => nT - (intOf i).toNat)
        case atStart => exact ⟨0, by omega, rfl, rfl, Chg.refl _ _, by simp [Hid, isum]⟩
        case round =>
          obtain ⟨j, hj, rfl, rfl, hch, hbd⟩ := hrel
          by_cases hjt : j < nT
          · have hjl : j < T.length := by rw [HN.out]; exact hjt
            obtain ⟨gt, rfl, _, _, tat⟩ := tr_at hTN hjl
            have htk : isum ((T.take (j + 1)).map Trd.qty) = isum ((T.take j).map Trd.qty) + (T.getD j Trd.zero).qty := by
              rw [List.take_succ_eq_append_getElem hjl, List.map_append, isum_append]
              simp [isum, List.getD, hjl]
            have hok := HTR.out (T.getD j Trd.zero) (by simp [List.getD, hjl])
            generalize T.getD j Trd.zero = t at *
            obtain ⟨q1, q2⟩ := hbd.out
            have HTK := Lib.hid htk
            obtain ⟨S, hS⟩ : ∃ S, isum ((T.take j).map Trd.qty) = S := ⟨_, rfl⟩
            rw [hS] at q1 q2 ⊢
            have HS := Lib.hid hS
            have hbx := hb4.chg hch (by simp)
            have hM5 := hM4.chg hch (by simp)
            have hlk := hM5.drew.look (key := t.maker) ⟨by have := hok.maker; omega, by have := hok.maker; omega⟩
            have hup : upd f ((k : Int) + 1) (f1 : Int) t.maker = t.price := by
              have h1 : upd f ((k : Int) + 1) (f1 : Int) t.maker = f t.maker := if_neg (by have := hok.maker; omega)
              rw [h1]; exact hok.price
            rw [hup] at hlk
            have HLK := Lib.hid hlk
            have t0 := hch.cell tat.c0 (by simp)
            have t1 : wr.cell? ⟨gt, j * 6 + 1, none⟩ = some (.int .i64 ((k : Int) + 1)) := by have := hch.cell tat.c1 (by simp); rw [hok.taker] at this; exact this
            have t4 := hch.cell tat.c4 (by simp)
            have t5 := hch.cell tat.c5 (by simp)
            have tb : wr.cell? ⟨gt, j * 6 + 3, none⟩ = some (.int .i64 (k : Int)) := by have := hch.cell tat.c3 (by simp); rw [(hok.sell rfl).2] at this; exact this
            have y0 := hbx.at (i := 0) rfl
            have y2 := hbx.at (i := 2) rfl
            have y3 := hbx.at (i := 3) rfl
            obtain ⟨r1, r2⟩ := hok.qty
            have hd1 : (t.qty == 0) = false := beq_eq_false_iff_ne.2 (by omega)
            have hd2 : decide (t.price < (f1 : Int)) = false := by
              have := (hok.sell rfl).1
              simp
              exact this
            have j1 : (0 : Int) ≤ (j : Int) := by omega
            have j2 : (j : Int) < (nT : Int) := by omega
            clear hS htk hok hlk hup hjl tat hbx hM5 hwz4
            go_upto_region 16 with (fail)
            refine unx_trade_false (by intro c a d v w h; cases d <;> exact h) t0 t1 t4 t5 y0 y2 y3 tb HLK hd1 hd2 j1 j2 ?_
            intros
            go_wp2_with fail
            go_roundw
            case rel => exact ⟨j + 1, by omega, by go_num, by rw [HTK.out, HS.out], hch.drew, by show _ ∧ _; rw [HTK.out, HS.out]; omega⟩
            case measure => simp [intOf]; omega
          · obtain rfl : j = nT := by omega
            have hsm : isum ((T.take j).map Trd.qty) = isum (T.map Trd.qty) := by rw [List.take_of_length_le (by rw [HN.out]; exact Nat.le_refl _)]
            obtain ⟨S, hS⟩ : ∃ S, isum (T.map Trd.qty) = S := ⟨_, rfl⟩
            have hsl := HSUM.out
            obtain ⟨q1, q2⟩ := hbd.out
            rw [hS] at hsl
            rw [hsm, hS] at q1 q2 ⊢
            have hd : (S + lft != (f2 : Int)) = false := by simp; omega
            have hbx := hb4.chg hch (by simp)
            have hM5 := hM4.chg hch (by simp)
            have hB5 := hB4.to hch
            have y4 := hbx.at (i := 4) rfl
            have fz := hbx.free 4
            clear hsm hS hb4 hM4 hB4 hch hbd
            go_upto_region 21 with (fail)
            have hc6 : Chg [g8] wr (wr.setCell ⟨g8, 4, none⟩ (.int .u64 lft)) := (Chg.refl _ _).setCell _ _ (by simp)
            have hbx6 : Blk (wr.setCell ⟨g8, 4, none⟩ (.int .u64 lft)) g8 28 (oc ⟨(k : Int) + 1, k, false, f1, lft⟩) := hbx.set 4 _
            have hM6 := hM5.chg hc6 (by simp; omega)
            have hB6 := hB5.aside hc6 hg8F (by omega)
            have hz6 : w4.heap.size ≤ w4.heap.size := Nat.le_refl _
            clear hbx hM5 hB5 hc6 y4 fz hd
            generalize wr.setCell _ _ = W6 at *
            have y0 := hbx6.at (i := 0) rfl
            have y1 := hbx6.at (i := 1) rfl
            have y2 := hbx6.at (i := 2) rfl
            have y3 := hbx6.at (i := 3) rfl
            have y4 := hbx6.at (i := 4) rfl
            obtain ⟨hn1, hn2⟩ := HFR.out.new (i := (k : Int) + 1) (by omega)
            have HN1 := Lib.hid hn1
            have HN2 := Lib.hid hn2
            clear hn1 hn2
            go_wp2_with fail
            refine (bRest_is hB6 ⟨(k : Int) + 1, k, false, f1, lft⟩ _ _ rfl (ordOk _ _ _ _ _ ⟨by omega, by omega⟩ ⟨by omega, by omega⟩ ⟨by omega, by omega⟩ ⟨by omega, by omega⟩) HN1.out HN2.out (by omega) (by omega)).mono ?_
            rintro e w7 ⟨rfl, F', hB7, c7, g7⟩
            have hmF' : mb ∉ F' := g7.not hmF (by have := hM6.lt; omega)
            have hM7 := hM6.chg c7 hmF
            have hL7 := HU2.out.len
            obtain ⟨L', hL'⟩ : ∃ x, restL ⟨(k : Int) + 1, k, false, f1, lft⟩ (mL ⟨(k : Int) + 1, k, false, f1, f2⟩ L M) = x := ⟨_, rfl⟩
            obtain ⟨M', hM'⟩ : ∃ x, restM ⟨(k : Int) + 1, k, false, f1, lft⟩ (mM ⟨(k : Int) + 1, k, false, f1, f2⟩ L M) = x := ⟨_, rfl⟩
            have hU7 : Unx (k + 1) (upd f ((k : Int) + 1) (f1 : Int)) L' M' := by rw [← hL', ← hM']; exact HU2.out
            rw [hL', hM'] at hB7
            have HU7 := Lib.hid hU7
            have hl7 := hU7.len
            clear hB6 hM6 hbx6 c7 g7 hL7 hL' hM' hU7 y0 y1 y2 y3 y4
            go_wp2_with fail
            refine (bBids hB7.bk (by omega)).mono ?_
            rintro e w8 ⟨v8, rfl, hX, c8⟩
            obtain ⟨a8, d8, rfl, hX8⟩ := hX.osn
            have hB8 := hB7.to c8
            have hM8 := hM7.chg c8 (by simp)
            clear hB7 hM7 hX c8
            go_wp2_with fail
            refine (bAsks hB8.bk (by omega)).mono ?_
            rintro e w9 ⟨v9, rfl, hY, c9⟩
            obtain ⟨a9, d9, rfl, hY9⟩ := hY.osn
            have hB9 := hB8.to c9
            have hM9 := hM8.chg c9 (by simp)
            have hX9 := hX8.chg0 c9
            clear hB8 hM8 hY c9 hX8
            obtain ⟨nL, hnL⟩ : ∃ m, L'.length = m := ⟨_, rfl⟩
            obtain ⟨nM, hnM⟩ : ∃ m, M'.length = m := ⟨_, rfl⟩
            rw [hnL, hnM]
            have HNL := Lib.hid hnL
            have HNM := Lib.hid hnM
            clear hnL hnM hl7
            go_upto_region 23 with (fail)
            rcases Nat.eq_zero_or_pos nL with h0 | h0
            · subst h0
              go_quiet (fail)
              go_wp2_with fail
              go_roundw
              case rel => exact ⟨k + 1, F', L', M', _, by omega, by omega, by go_num, hB9.to ((Chg.refl _ _).drewN _), hM9.drewN _, hmF', HU7⟩
              case measure => simp [intOf]; omega
            · have e1 : decide (0 < nL) = true := by simp; omega
              have e1' : decide ((0 : Int) < (nL : Int)) = true := by simp; omega
              rcases Nat.eq_zero_or_pos nM with h9 | h9
              · subst h9
                go_quiet (fail)
                go_wp2_with fail
                go_roundw
                case rel => exact ⟨k + 1, F', L', M', _, by omega, by omega, by go_num, hB9.to ((Chg.refl _ _).drewN _), hM9.drewN _, hmF', HU7⟩
                case measure => simp [intOf]; omega
              · have e2 : decide (0 < nM) = true := by simp; omega
                have e2' : decide ((0 : Int) < (nM : Int)) = true := by simp; omega
                have l1 : 0 < L'.length := by rw [HNL.out]; exact h0
                have l2 : 0 < M'.length := by rw [HNM.out]; exact h9
                obtain ⟨ga, rfl, _, xa⟩ := hX9.cells l1
                obtain ⟨gb, rfl, _, xb⟩ := hY9.cells l2
                have hun := HU7.out.un _ (getD_mem l1) _ (getD_mem l2)
                generalize L'.getD 0 Ord.zero = ua at *
                generalize M'.getD 0 Ord.zero = ub at *
                have x3 := xa.c3
                have x4 := xb.c3
                simp only [Nat.zero_mul, Nat.zero_add] at x3 x4
                have i8 : (0 : Int) < (nL : Int) := by omega
                have i9 : (0 : Int) < (nM : Int) := by omega
                have hd3 : decide (ub.price ≤ ua.price) = false := by simp; omega
                clear xa xb hX9 hY9 l1 l2
                go_quiet (fail)
                go_wp2_with fail
                go_roundw
                case rel => exact ⟨k + 1, F', L', M', _, by omega, by omega, by go_num, hB9.to ((Chg.refl _ _).drewN _), hM9.drewN _, hmF', HU7⟩
                case measure => simp [intOf]; omega
      · go_upto_region 8 with (fail)
        refine wp_region_held_drew (S := (fun w' => w'.cell? ⟨b1, off + k * 7 + 3, none⟩ = some (.bool true) ∧ w'.cell? ⟨b1, off + k * 7 + 5, none⟩ = some (.int .u64 p) ∧ w'.cell? ⟨b1, off + k * 7 + 6, none⟩ = some (.int .u64 q))) (by kernel_rfl) ⟨s3, s5, s6⟩ (fun _ => ?_)
        refine wpAnyH_take (i := 0) (v := ?_) rfl (by kernel_rfl) (by kernel_rfl) (by kernel_rfl) (fun _ _ _ h => h) (Or.inl ⟨by rfl, ?_⟩) ⟨s3, s5, s6⟩ ?_
        rotate_left
        · (intro w hSw; (try dsimp only at hSw); go_simp; (try (with_reducible rfl)))
        change wpAnyH _ _ _ _ _ _ _ (Act.put _ (some 27) _) _
        simp only [Act.put, List.setIfInBounds_toArray, List.set_cons_succ, List.set_cons_zero]
        refine wpAnyH_take (i := 1) (v := ?_) rfl (by kernel_rfl) (by kernel_rfl) (by kernel_rfl) (fun _ _ _ h => h) (Or.inl ⟨by rfl, ?_⟩) ⟨s3, s5, s6⟩ ?_
        rotate_left
        · (intro w hSw; (try dsimp only at hSw); go_simp; (try (with_reducible rfl)))
        change wpAnyH _ _ _ _ _ _ _ (Act.put _ (some 28) _) _
        simp only [Act.put, List.setIfInBounds_toArray, List.set_cons_succ, List.set_cons_zero]
        refine wpAnyH_take (i := 2) (v := ?_) rfl (by kernel_rfl) (by kernel_rfl) (by kernel_rfl) (fun _ _ _ h => h) (Or.inl ⟨by rfl, ?_⟩) ⟨s3, s5, s6⟩ ?_
        rotate_left
        · (intro w hSw; (try dsimp only at hSw); go_simp; (try (with_reducible rfl)))
        change wpAnyH _ _ _ _ _ _ _ (Act.put _ (some 29) _) _
        simp only [Act.put, List.setIfInBounds_toArray, List.set_cons_succ, List.set_cons_zero]
        refine wpAnyH_take (i := 3) (v := ?_) rfl (by kernel_rfl) (by kernel_rfl) (by kernel_rfl) (fun _ _ _ h => h) (Or.inl ⟨by rfl, ?_⟩) ⟨s3, s5, s6⟩ ?_
        rotate_left
        · (intro w hSw; (try dsimp only at hSw); go_simp; (try (with_reducible rfl)))
        change wpAnyH _ _ _ _ _ _ _ (Act.put _ (some 30) _) _
        simp only [Act.put, List.setIfInBounds_toArray, List.set_cons_succ, List.set_cons_zero]
        refine wpAnyH_take (i := 4) (v := ?_) rfl (by kernel_rfl) (by kernel_rfl) (by kernel_rfl) (fun _ _ _ h => h) (Or.inl ⟨by rfl, ?_⟩) ⟨s3, s5, s6⟩ ?_
        rotate_left
        · (intro w hSw; (try dsimp only at hSw); go_simp; (try (with_reducible rfl)))
        change wpAnyH _ _ _ _ _ _ _ (Act.put _ (some 31) _) _
        simp only [Act.put, List.setIfInBounds_toArray, List.set_cons_succ, List.set_cons_zero]
        refine wpAnyH_take (i := 5) (v := ?_) rfl (by kernel_rfl) (by kernel_rfl) (by kernel_rfl) (fun _ _ _ h => h) (Or.inl ⟨by rfl, ?_⟩) ⟨s3, s5, s6⟩ ?_
        rotate_left
        · (intro w hSw; (try dsimp only at hSw); go_simp; (try (with_reducible rfl)))
        change wpAnyH _ _ _ _ _ _ _ (Act.put _ (some 32) _) _
        simp only [Act.put, List.setIfInBounds_toArray, List.set_cons_succ, List.set_cons_zero]
        refine wpAnyH_take (i := 6) (v := ?_) rfl (by kernel_rfl) (by kernel_rfl) (by kernel_rfl) (fun _ _ _ h => h) (Or.inl ⟨by rfl, ?_⟩) ⟨s3, s5, s6⟩ ?_
        rotate_left
        · (intro w hSw; (try dsimp only at hSw); go_simp; (try (with_reducible rfl)))
        change wpAnyH _ _ _ _ _ _ _ (Act.put _ (some 33) _) _
        simp only [Act.put, List.setIfInBounds_toArray, List.set_cons_succ, List.set_cons_zero]
        refine wpAnyH_take (i := 7) (v := ?_) rfl (by kernel_rfl) (by kernel_rfl) (by kernel_rfl) (fun _ _ _ h => h) (Or.inl ⟨by rfl, ?_⟩) ⟨s3, s5, s6⟩ ?_
        rotate_left
        · (intro w hSw; (try dsimp only at hSw); go_simp; (try (with_reducible rfl)))
        change wpAnyH _ _ _ _ _ _ _ (Act.put _ (some 34) _) _
        simp only [Act.put, List.setIfInBounds_toArray, List.set_cons_succ, List.set_cons_zero]
        refine wpAnyH_take (i := 8) (v := ?_) rfl (by kernel_rfl) (by kernel_rfl) (by kernel_rfl) (fun _ _ _ h => h) (Or.inl ⟨by rfl, ?_⟩) ⟨s3, s5, s6⟩ ?_
        rotate_left
        · (intro w hSw; (try dsimp only at hSw); go_simp; (try (with_reducible rfl)))
        change wpAnyH _ _ _ _ _ _ _ (Act.put _ (some 35) _) _
        simp only [Act.put, List.setIfInBounds_toArray, List.set_cons_succ, List.set_cons_zero]
        refine wpAnyH_take (i := 9) (v := ?_) rfl (by kernel_rfl) (by kernel_rfl) (by kernel_rfl) (fun _ _ _ h => h) (Or.inl ⟨by rfl, ?_⟩) ⟨s3, s5, s6⟩ ?_
        rotate_left
        · (intro w hSw; (try dsimp only at hSw); go_simp; (try (with_reducible rfl)))
        change wpAnyH _ _ _ _ _ _ _ (Act.put _ (some 36) _) _
        simp only [Act.put, List.setIfInBounds_toArray, List.set_cons_succ, List.set_cons_zero]
        refine wpAnyH_take (i := 10) (v := ?_) rfl (by kernel_rfl) (by kernel_rfl) (by kernel_rfl) (fun _ _ _ h => h) (Or.inl ⟨by rfl, ?_⟩) ⟨s3, s5, s6⟩ ?_
        rotate_left
        · (intro w hSw; (try dsimp only at hSw); go_simp; (try (with_reducible rfl)))
        change wpAnyH _ _ _ _ _ _ _ (Act.put _ (some 37) _) _
        simp only [Act.put, List.setIfInBounds_toArray, List.set_cons_succ, List.set_cons_zero]
        refine wpAnyH_take (i := 11) (v := ?_) rfl (by kernel_rfl) (by kernel_rfl) (by kernel_rfl) (fun _ _ _ h => h) (Or.inl ⟨by rfl, ?_⟩) ⟨s3, s5, s6⟩ ?_
        rotate_left
        · (intro w hSw; (try dsimp only at hSw); go_simp; (try (with_reducible rfl)))
        change wpAnyH _ _ _ _ _ _ _ (Act.put _ (some 38) _) _
        simp only [Act.put, List.setIfInBounds_toArray, List.set_cons_succ, List.set_cons_zero]
        refine wpAnyH_take (i := 12) (v := ?_) rfl (by kernel_rfl) (by kernel_rfl) (by kernel_rfl) (fun _ _ _ h => h) (Or.inl ⟨by rfl, ?_⟩) ⟨s3, s5, s6⟩ ?_
        rotate_left
        · (intro w hSw; (try dsimp only at hSw); go_simp; (try (with_reducible rfl)))
        change wpAnyH _ _ _ _ _ _ _ (Act.put _ (some 39) _) _
        simp only [Act.put, List.setIfInBounds_toArray, List.set_cons_succ, List.set_cons_zero]
        refine wpAnyH_take (i := 13) (v := ?_) rfl (by kernel_rfl) (by kernel_rfl) (by kernel_rfl) (fun _ _ _ h => h) (Or.inl ⟨by rfl, ?_⟩) ⟨s3, s5, s6⟩ ?_
        rotate_left
        · (intro w hSw; (try dsimp only at hSw); go_simp; (try (with_reducible rfl)))
        change wpAnyH _ _ _ _ _ _ _ (Act.put _ (some 40) _) _
        simp only [Act.put, List.setIfInBounds_toArray, List.set_cons_succ, List.set_cons_zero]
        refine wpAnyH_take (i := 14) (v := ?_) rfl (by kernel_rfl) (by kernel_rfl) (by kernel_rfl) (fun _ _ _ h => h) (Or.inl ⟨by rfl, ?_⟩) ⟨s3, s5, s6⟩ ?_
        rotate_left
        · (intro w hSw; (try dsimp only at hSw); go_simp; (try (with_reducible rfl)))
        change wpAnyH _ _ _ _ _ _ _ (Act.put _ (some 41) _) _
        simp only [Act.put, List.setIfInBounds_toArray, List.set_cons_succ, List.set_cons_zero]
        refine wpAnyH_take (i := 15) (v := ?_) rfl (by kernel_rfl) (by kernel_rfl) (by kernel_rfl) (fun _ _ _ h => h) (Or.inl ⟨by rfl, ?_⟩) ⟨s3, s5, s6⟩ ?_
        rotate_left
        · (intro w hSw; (try dsimp only at hSw); go_simp; (try (with_reducible rfl)))
        change wpAnyH _ _ _ _ _ _ _ (Act.put _ (some 42) _) _
        simp only [Act.put, List.setIfInBounds_toArray, List.set_cons_succ, List.set_cons_zero]
        refine wpAnyH_take (i := 16) (v := ?_) rfl (by kernel_rfl) (by kernel_rfl) (by kernel_rfl) (fun _ _ _ h => h) (Or.inl ⟨by rfl, ?_⟩) ⟨s3, s5, s6⟩ ?_
        rotate_left
        · (intro w hSw; (try dsimp only at hSw); go_simp; (try (with_reducible rfl)))
        change wpAnyH _ _ _ _ _ _ _ (Act.put _ (some 43) _) _
        simp only [Act.put, List.setIfInBounds_toArray, List.set_cons_succ, List.set_cons_zero]
        refine wpAnyH_take (i := 17) (v := ?_) rfl (by kernel_rfl) (by kernel_rfl) (by kernel_rfl) (fun _ _ _ h => h) (Or.inl ⟨by rfl, ?_⟩) ⟨s3, s5, s6⟩ ?_
        rotate_left
        · (intro w hSw; (try dsimp only at hSw); go_simp; (try (with_reducible rfl)))
        change wpAnyH _ _ _ _ _ _ _ (Act.put _ (some 44) _) _
        simp only [Act.put, List.setIfInBounds_toArray, List.set_cons_succ, List.set_cons_zero]
        refine wpAnyH_take (i := 18) (v := ?_) rfl (by kernel_rfl) (by kernel_rfl) (by kernel_rfl) (fun _ _ _ h => h) (Or.inl ⟨by rfl, ?_⟩) ⟨s3, s5, s6⟩ ?_
        rotate_left
        · (intro w hSw; (try dsimp only at hSw); go_simp; (try (with_reducible rfl)))
        change wpAnyH _ _ _ _ _ _ _ (Act.put _ (some 45) _) _
        simp only [Act.put, List.setIfInBounds_toArray, List.set_cons_succ, List.set_cons_zero]
        refine wpAnyH_take (i := 19) (v := ?_) rfl (by kernel_rfl) (by kernel_rfl) (by kernel_rfl) (fun _ _ _ h => h) (Or.inl ⟨by rfl, ?_⟩) ⟨s3, s5, s6⟩ ?_
        rotate_left
        · (intro w hSw; (try dsimp only at hSw); go_simp; (try (with_reducible rfl)))
        change wpAnyH _ _ _ _ _ _ _ (Act.put _ (some 46) _) _
        simp only [Act.put, List.setIfInBounds_toArray, List.set_cons_succ, List.set_cons_zero]
        refine wpAnyH_take (i := 20) (v := ?_) rfl (by kernel_rfl) (by kernel_rfl) (by kernel_rfl) (fun _ _ _ h => h) (Or.inl ⟨by rfl, ?_⟩) ⟨s3, s5, s6⟩ ?_
        rotate_left
        · (intro w hSw; (try dsimp only at hSw); go_simp; (try (with_reducible rfl)))
        change wpAnyH _ _ _ _ _ _ _ (Act.put _ (some 47) _) _
        simp only [Act.put, List.setIfInBounds_toArray, List.set_cons_succ, List.set_cons_zero]
        refine wpAnyH_ready (rs := [21]) (by kernel_rfl) (by simp) (AllReadyH.cons rfl (fun K hK => ?_) AllReadyH.nil)
        go_simp
        refine hK.out _ _ ⟨(HCC.out _).cell s3 (by simp), (HCC.out _).cell s5 (by simp), (HCC.out _).cell s6 (by simp)⟩ (fun hHeld => ?_)
        clear hK K
        refine wpAnyH_ready (rs := [22]) (by kernel_rfl) (by simp) (AllReadyH.cons rfl (fun K hK => ?_) AllReadyH.nil)
        go_simp
        refine hK.out _ _ ⟨(HCC.out _).cell s3 (by simp), (HCC.out _).cell s5 (by simp), (HCC.out _).cell s6 (by simp)⟩ (fun hHeld => ?_)
        clear hK K
        refine wpAnyH_done (by kernel_rfl) ?_ _
        have hW : Chg [] wr (wr.alloc (.cells #[.int .i64 ((k : Int) + 1), .int .i64 (k : Int), .bool true, .int .u64 (f1 : Int), .int .u64 (f2 : Int)] 28)).drew := ((Chg.refl _ _).alloc _).drew
        have hB1 := hB.to hW
        have hM1 := hM.chg hW (by simp)
        have hbx : Blk (wr.alloc (.cells #[.int .i64 ((k : Int) + 1), .int .i64 (k : Int), .bool true, .int .u64 (f1 : Int), .int .u64 (f2 : Int)] 28)).drew wr.heap.size 28 (oc ⟨(k : Int) + 1, k, true, f1, f2⟩) := Blk.new wr (oc ⟨(k : Int) + 1, k, true, f1, f2⟩) 28
        have hg8 : mb < wr.heap.size := hM.lt
        have hg9 : ∀ x ∈ F, x < wr.heap.size := hB.new
        have hg10 : wr.heap.size < (wr.alloc (.cells #[.int .i64 ((k : Int) + 1), .int .i64 (k : Int), .bool true, .int .u64 (f1 : Int), .int .u64 (f2 : Int)] 28)).drew.heap.size := by simp [World.drew]
        have hwz : w.heap.size ≤ wr.heap.size := hB.c.size
        clear hB hM hW HCC s3 s5 s6
        generalize wr.heap.size = g8 at *
        generalize (wr.alloc _).drew = W at *
        have y0 := hbx.at (i := 0) rfl
        have y1 := hbx.at (i := 1) rfl
        have y2 := hbx.at (i := 2) rfl
        have y3 := hbx.at (i := 3) rfl
        have y4 := hbx.at (i := 4) rfl
        go_wp2_with (at_mapUpdate; refine wpList_putU _ rfl (.tmp 48) (.tmp 50) (.tmp 52) rfl mb k f rfl hM1 (by unfold maxLen; omega) ((k : Int) + 1) (f1 : Int) rfl rfl ⟨by omega, by omega⟩ ⟨by omega, by omega⟩ ?_)
        intro w2 hM2 hc2
        have hB2 := hB1.aside hc2 hmF hmz
        have hb2 := hbx.chg hc2 (by simp; omega)
        clear hB1 hM1 hbx hc2 y0 y1 y2 y3 y4
        have y0 := hb2.at (i := 0) rfl
        have y1 := hb2.at (i := 1) rfl
        have y2 := hb2.at (i := 2) rfl
        have y3 := hb2.at (i := 3) rfl
        have y4 := hb2.at (i := 4) rfl
        obtain ⟨T, lft, hT0⟩ : ∃ T lft, (mres ⟨(k : Int) + 1, k, true, f1, f2⟩ L M).1 = T ∧ (mres ⟨(k : Int) + 1, k, true, f1, f2⟩ L M).2.1 = lft := ⟨_, _, rfl, rfl⟩
        obtain ⟨sL, sM⟩ := hB2.srt
        have hU2 := hU.out.step sL sM (o := ⟨(k : Int) + 1, k, true, f1, f2⟩) rfl (by show (0 : Int) ≤ (f2 : Int) ∧ (f2 : Int) ≤ 15; omega)
        have hfr := hU.out.fr.mch ⟨(k : Int) + 1, k, true, f1, f2⟩
        have htr := hU.out.trades ⟨(k : Int) + 1, k, true, f1, f2⟩
        have hsum : isum (T.map Trd.qty) + lft = (f2 : Int) := by
          have := mch_sum ⟨(k : Int) + 1, k, true, f1, f2⟩ M (f2 : Int)
          rw [← hT0.1, ← hT0.2]
          exact this
        have hlf := mch_left ⟨(k : Int) + 1, k, true, f1, f2⟩ M (fun x hx => by have := hU.out.all x (by simp [hx]); omega) (f2 : Int) (by omega)
        have hTl := (mch_len ⟨(k : Int) + 1, k, true, f1, f2⟩ M (f2 : Int)).1
        have hlen := hU.out.len
        have hlf2 : 0 ≤ lft ∧ lft ≤ (f2 : Int) := by rw [← hT0.2]; exact hlf
        have hTl2 : T.length ≤ k := by
          have : T.length ≤ M.length := by rw [← hT0.1]; exact hTl
          omega
        rw [hT0.2] at hU2
        rw [hT0.1] at htr
        have HT0 : Hid ((mres ⟨(k : Int) + 1, k, true, f1, f2⟩ L M).1 = T ∧ (mres ⟨(k : Int) + 1, k, true, f1, f2⟩ L M).2.1 = lft) := hT0
        have HU2 := Lib.hid hU2
        have HFR := Lib.hid hfr
        have HTR := Lib.hid htr
        have HSUM := Lib.hid hsum
        have hlm : (mL ⟨(k : Int) + 1, k, true, f1, f2⟩ L M).length + (mM ⟨(k : Int) + 1, k, true, f1, f2⟩ L M).length ≤ k := by
          have h9 := (mch_len ⟨(k : Int) + 1, k, true, f1, f2⟩ M (f2 : Int)).2
          have e1 : (mL ⟨(k : Int) + 1, k, true, f1, f2⟩ L M).length = L.length := rfl
          have e2 : (mM ⟨(k : Int) + 1, k, true, f1, f2⟩ L M).length = (mch ⟨(k : Int) + 1, k, true, f1, f2⟩ (f2 : Int) M).2.2.length := rfl
          omega
        obtain ⟨v1, v2⟩ := hlf2
        clear hT0 hU2 hfr htr hsum hlf hTl sL sM hU
        go_wp2_with fail
        refine (bMatch_is hB2 ⟨(k : Int) + 1, k, true, f1, f2⟩ T lft (mL ⟨(k : Int) + 1, k, true, f1, f2⟩ L M) (mM ⟨(k : Int) + 1, k, true, f1, f2⟩ L M) ⟨HT0.out.1, HT0.out.2, rfl, rfl⟩ (ordOk _ _ _ _ _ ⟨by omega, by omega⟩ ⟨by omega, by omega⟩ ⟨by omega, by omega⟩ ⟨by omega, by omega⟩) (by omega) (by omega)).mono ?_
        rintro e w4 ⟨a4, d4, rfl, hTN, hB4, c4⟩
        have hM4 := hM2.chg c4 hmF
        have hg8F : g8 ∉ F := fun hm => by have := hg9 g8 hm; omega
        have hb4 := hb2.chg c4 hg8F
        have hHT := HT0
        clear hB2 hM2 hb2 y0 y1 y2 y3 y4 HT0
        obtain ⟨nT, hnT⟩ : ∃ m, T.length = m := ⟨_, rfl⟩
        rw [hnT] at hTl2 ⊢
        have HN := Lib.hid hnT
        clear hnT
        have hg4 : ∀ x ∈ F, x < w4.heap.size := hB4.new
        clear c4
        go_wp2_with fail
        obtain ⟨wz, hwz4⟩ : ∃ x, x = w4 := ⟨_, rfl⟩
        go_loopw [9, 10] (fun v i wr => ∃ j : Nat, j ≤ nT ∧ i = .int .i64 j ∧ v = .int .u64 (isum ((T.take j).map Trd.qty)) ∧ Chg [] w4 wr ∧ Hid (0 ≤ isum ((T.take j).map Trd.qty) ∧ isum ((T.take j).map Trd.qty) ≤ 15 * j)) (fun _ i _ => nT - (intOf i).toNat)
        case atStart => exact ⟨0, by omega, rfl, rfl, Chg.refl _ _, by simp [Hid, isum]⟩
        case round =>
          obtain ⟨j, hj, rfl, rfl, hch, hbd⟩ := hrel
          by_cases hjt : j < nT
          · have hjl : j < T.length := by rw [HN.out]; exact hjt
            obtain ⟨gt, rfl, _, _, tat⟩ := tr_at hTN hjl
            have htk : isum ((T.take (j + 1)).map Trd.qty) = isum ((T.take j).map Trd.qty) + (T.getD j Trd.zero).qty := by
              rw [List.take_succ_eq_append_getElem hjl, List.map_append, isum_append]
              simp [isum, List.getD, hjl]
            have hok := HTR.out (T.getD j Trd.zero) (by simp [List.getD, hjl])
            generalize T.getD j Trd.zero = t at *
            obtain ⟨q1, q2⟩ := hbd.out
            have HTK := Lib.hid htk
            obtain ⟨S, hS⟩ : ∃ S, isum ((T.take j).map Trd.qty) = S := ⟨_, rfl⟩
            rw [hS] at q1 q2 ⊢
            have HS := Lib.hid hS
            have hbx := hb4.chg hch (by simp)
            have hM5 := hM4.chg hch (by simp)
            have hlk := hM5.drew.look (key := t.maker) ⟨by have := hok.maker; omega, by have := hok.maker; omega⟩
            have hup : upd f ((k : Int) + 1) (f1 : Int) t.maker = t.price := by
              have h1 : upd f ((k : Int) + 1) (f1 : Int) t.maker = f t.maker := if_neg (by have := hok.maker; omega)
              rw [h1]; exact hok.price
            rw [hup] at hlk
            have HLK := Lib.hid hlk
            have t0 := hch.cell tat.c0 (by simp)
            have t1 : wr.cell? ⟨gt, j * 6 + 1, none⟩ = some (.int .i64 ((k : Int) + 1)) := by have := hch.cell tat.c1 (by simp); rw [hok.taker] at this; exact this
            have t4 := hch.cell tat.c4 (by simp)
            have t5 := hch.cell tat.c5 (by simp)
            have tb : wr.cell? ⟨gt, j * 6 + 2, none⟩ = some (.int .i64 (k : Int)) := by have := hch.cell tat.c2 (by simp); rw [(hok.buy rfl).2] at this; exact this
            have y0 := hbx.at (i := 0) rfl
            have y2 := hbx.at (i := 2) rfl
            have y3 := hbx.at (i := 3) rfl
            obtain ⟨r1, r2⟩ := hok.qty
            have hd1 : (t.qty == 0) = false := beq_eq_false_iff_ne.2 (by omega)
            have hd2 : decide ((f1 : Int) < t.price) = false := by
              have := (hok.buy rfl).1
              simp
              exact this
            have j1 : (0 : Int) ≤ (j : Int) := by omega
            have j2 : (j : Int) < (nT : Int) := by omega
            clear hS htk hok hlk hup hjl tat hbx hM5 hwz4
            go_upto_region 16 with (fail)
            refine unx_trade_true (by intro c a d v w h; cases d <;> exact h) t0 t1 t4 t5 y0 y2 y3 tb HLK hd1 hd2 j1 j2 ?_
            intros
            go_wp2_with fail
            go_roundw
            case rel => exact ⟨j + 1, by omega, by go_num, by rw [HTK.out, HS.out], hch.drew, by show _ ∧ _; rw [HTK.out, HS.out]; omega⟩
            case measure => simp [intOf]; omega
          · obtain rfl : j = nT := by omega
            have hsm : isum ((T.take j).map Trd.qty) = isum (T.map Trd.qty) := by rw [List.take_of_length_le (by rw [HN.out]; exact Nat.le_refl _)]
            obtain ⟨S, hS⟩ : ∃ S, isum (T.map Trd.qty) = S := ⟨_, rfl⟩
            have hsl := HSUM.out
            obtain ⟨q1, q2⟩ := hbd.out
            rw [hS] at hsl
            rw [hsm, hS] at q1 q2 ⊢
            have hd : (S + lft != (f2 : Int)) = false := by simp; omega
            have hbx := hb4.chg hch (by simp)
            have hM5 := hM4.chg hch (by simp)
            have hB5 := hB4.to hch
            have y4 := hbx.at (i := 4) rfl
            have fz := hbx.free 4
            clear hsm hS hb4 hM4 hB4 hch hbd
            go_upto_region 21 with (fail)
            have hc6 : Chg [g8] wr (wr.setCell ⟨g8, 4, none⟩ (.int .u64 lft)) := (Chg.refl _ _).setCell _ _ (by simp)
            have hbx6 : Blk (wr.setCell ⟨g8, 4, none⟩ (.int .u64 lft)) g8 28 (oc ⟨(k : Int) + 1, k, true, f1, lft⟩) := hbx.set 4 _
            have hM6 := hM5.chg hc6 (by simp; omega)
            have hB6 := hB5.aside hc6 hg8F (by omega)
            have hz6 : w4.heap.size ≤ w4.heap.size := Nat.le_refl _
            clear hbx hM5 hB5 hc6 y4 fz hd
            generalize wr.setCell _ _ = W6 at *
            have y0 := hbx6.at (i := 0) rfl
            have y1 := hbx6.at (i := 1) rfl
            have y2 := hbx6.at (i := 2) rfl
            have y3 := hbx6.at (i := 3) rfl
            have y4 := hbx6.at (i := 4) rfl
            obtain ⟨hn1, hn2⟩ := HFR.out.new (i := (k : Int) + 1) (by omega)
            have HN1 := Lib.hid hn1
            have HN2 := Lib.hid hn2
            clear hn1 hn2
            go_wp2_with fail
            refine (bRest_is hB6 ⟨(k : Int) + 1, k, true, f1, lft⟩ _ _ rfl (ordOk _ _ _ _ _ ⟨by omega, by omega⟩ ⟨by omega, by omega⟩ ⟨by omega, by omega⟩ ⟨by omega, by omega⟩) HN1.out HN2.out (by omega) (by omega)).mono ?_
            rintro e w7 ⟨rfl, F', hB7, c7, g7⟩
            have hmF' : mb ∉ F' := g7.not hmF (by have := hM6.lt; omega)
            have hM7 := hM6.chg c7 hmF
            have hL7 := HU2.out.len
            obtain ⟨L', hL'⟩ : ∃ x, restL ⟨(k : Int) + 1, k, true, f1, lft⟩ (mL ⟨(k : Int) + 1, k, true, f1, f2⟩ L M) = x := ⟨_, rfl⟩
            obtain ⟨M', hM'⟩ : ∃ x, restM ⟨(k : Int) + 1, k, true, f1, lft⟩ (mM ⟨(k : Int) + 1, k, true, f1, f2⟩ L M) = x := ⟨_, rfl⟩
            have hU7 : Unx (k + 1) (upd f ((k : Int) + 1) (f1 : Int)) L' M' := by rw [← hL', ← hM']; exact HU2.out
            rw [hL', hM'] at hB7
            have HU7 := Lib.hid hU7
            have hl7 := hU7.len
            clear hB6 hM6 hbx6 c7 g7 hL7 hL' hM' hU7 y0 y1 y2 y3 y4
            go_wp2_with fail
            refine (bBids hB7.bk (by omega)).mono ?_
            rintro e w8 ⟨v8, rfl, hX, c8⟩
            obtain ⟨a8, d8, rfl, hX8⟩ := hX.osn
            have hB8 := hB7.to c8
            have hM8 := hM7.chg c8 (by simp)
            clear hB7 hM7 hX c8
            go_wp2_with fail
            refine (bAsks hB8.bk (by omega)).mono ?_
            rintro e w9 ⟨v9, rfl, hY, c9⟩
            obtain ⟨a9, d9, rfl, hY9⟩ := hY.osn
            have hB9 := hB8.to c9
            have hM9 := hM8.chg c9 (by simp)
            have hX9 := hX8.chg0 c9
            clear hB8 hM8 hY c9 hX8
            obtain ⟨nL, hnL⟩ : ∃ m, L'.length = m := ⟨_, rfl⟩
            obtain ⟨nM, hnM⟩ : ∃ m, M'.length = m := ⟨_, rfl⟩
            rw [hnL, hnM]
            have HNL := Lib.hid hnL
            have HNM := Lib.hid hnM
            clear hnL hnM hl7
            go_upto_region 23 with (fail)
            rcases Nat.eq_zero_or_pos nL with h0 | h0
            · subst h0
              go_quiet (fail)
              go_wp2_with fail
              go_roundw
              case rel => exact ⟨k + 1, F', L', M', _, by omega, by omega, by go_num, hB9.to ((Chg.refl _ _).drewN _), hM9.drewN _, hmF', HU7⟩
              case measure => simp [intOf]; omega
            · have e1 : decide (0 < nL) = true := by simp; omega
              have e1' : decide ((0 : Int) < (nL : Int)) = true := by simp; omega
              rcases Nat.eq_zero_or_pos nM with h9 | h9
              · subst h9
                go_quiet (fail)
                go_wp2_with fail
                go_roundw
                case rel => exact ⟨k + 1, F', L', M', _, by omega, by omega, by go_num, hB9.to ((Chg.refl _ _).drewN _), hM9.drewN _, hmF', HU7⟩
                case measure => simp [intOf]; omega
              · have e2 : decide (0 < nM) = true := by simp; omega
                have e2' : decide ((0 : Int) < (nM : Int)) = true := by simp; omega
                have l1 : 0 < L'.length := by rw [HNL.out]; exact h0
                have l2 : 0 < M'.length := by rw [HNM.out]; exact h9
                obtain ⟨ga, rfl, _, xa⟩ := hX9.cells l1
                obtain ⟨gb, rfl, _, xb⟩ := hY9.cells l2
                have hun := HU7.out.un _ (getD_mem l1) _ (getD_mem l2)
                generalize L'.getD 0 Ord.zero = ua at *
                generalize M'.getD 0 Ord.zero = ub at *
                have x3 := xa.c3
                have x4 := xb.c3
                simp only [Nat.zero_mul, Nat.zero_add] at x3 x4
                have i8 : (0 : Int) < (nL : Int) := by omega
                have i9 : (0 : Int) < (nM : Int) := by omega
                have hd3 : decide (ub.price ≤ ua.price) = false := by simp; omega
                clear xa xb hX9 hY9 l1 l2
                go_quiet (fail)
                go_wp2_with fail
                go_roundw
                case rel => exact ⟨k + 1, F', L', M', _, by omega, by omega, by go_num, hB9.to ((Chg.refl _ _).drewN _), hM9.drewN _, hmF', HU7⟩
                case measure => simp [intOf]; omega
    · have hlt3 : Hid (¬ (k < n1 ∧ k < 50)) := hlt2
      clear hlt2
      rcases Nat.lt_or_ge k n1 with h | h
      · have h6 : ¬ k < 50 := fun h7 => hlt3.out ⟨h, h7⟩
        have d50 : decide ((k : Int) < 50) = false := by simp; omega
        go_wp2_with fail
        refine (awake9 _).mono ?_
        rintro e w2 ⟨rfl, c2⟩
        go_wp2_with fail
        go_ret
        exact ⟨rfl, (hB.c.trans c2).below⟩
      · go_wp2_with fail
        refine (awake9 _).mono ?_
        rintro e w2 ⟨rfl, c2⟩
        go_wp2_with fail
        go_ret
        exact ⟨rfl, (hB.c.trans c2).below⟩
end Go.Proofs.Ytofcphfgpnobnaa
