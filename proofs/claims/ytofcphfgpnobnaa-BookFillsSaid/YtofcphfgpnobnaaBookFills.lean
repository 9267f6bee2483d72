import Derived.Test.YtofcphfgpnobnaaBk8
import Derived.Test.YtofcphfgpnobnaaBk9
import Derived.Test.YtofcphfgpnobnaaReg
import Derived.Deep.DrawnRows
import Derived.Deep.RegionHeld3
import Derived.StillTailTactics
namespace Go.Proofs.Ytofcphfgpnobnaa
set_option linter.unusedVariables false
open Go Go.Proofs Go.RowKit
attribute [local go_sem ↓] Go.wp_at_zero Go.wp_at_succ

/-- The round's state: the book, what was asked, what went. -/
structure FilS (w wr : World) (F : List Nat) (kb A G : Nat) (L M : List Ord) (a0 a1 w0 w1 : Int) : Prop where
  bk : BkS w wr F kb L M
  ask : Blk wr A 54 [.int .u64 a0, .int .u64 a1]
  wen : Blk wr G 54 [.int .u64 w0, .int .u64 w1]
  ne : A ∉ F ∧ G ∉ F ∧ A ≠ G ∧ w.heap.size ≤ A ∧ w.heap.size ≤ G
theorem FilS.to {w wr w' : World} {F : List Nat} {kb A G : Nat} {L M : List Ord} {a0 a1 w0 w1 : Int} (h : FilS w wr F kb A G L M a0 a1 w0 w1) (c : Chg [] wr w') : FilS w w' F kb A G L M a0 a1 w0 w1 :=
  ⟨h.bk.to c, h.ask.chg c (by simp), h.wen.chg c (by simp), h.ne⟩
theorem FilS.lt {w wr : World} {F : List Nat} {kb A G : Nat} {L M : List Ord} {a0 a1 w0 w1 : Int} (h : FilS w wr F kb A G L M a0 a1 w0 w1) : A < wr.heap.size ∧ G < wr.heap.size ∧ w.heap.size ≤ wr.heap.size ∧ ∀ x ∈ F, x < wr.heap.size := ⟨h.ask.lt, h.wen.lt, h.bk.c.size, h.bk.new⟩
/-- One place of what was asked. -/
theorem FilS.askAt {w wr : World} {F : List Nat} {kb A G : Nat} {L M : List Ord} {a0 a1 w0 w1 : Int} (h : FilS w wr F kb A G L M a0 a1 w0 w1) {kk : Nat} (hk : kk < 2) :
    ∃ ak, wr.cell? ⟨A, kk, none⟩ = some (.int .u64 ak) ∧ ak = (if kk = 0 then a0 else a1) ∧ ∀ v, FilS w (wr.setCell ⟨A, kk, none⟩ (.int .u64 v)) F kb A G L M (if kk = 0 then v else a0) (if kk = 0 then a1 else v) w0 w1 ∧ Chg [A] wr (wr.setCell ⟨A, kk, none⟩ (.int .u64 v)) := by
  obtain ⟨n1, n2, n3, n4, n5⟩ := h.ne
  have cc : ∀ v, Chg [A] wr (wr.setCell ⟨A, kk, none⟩ v) := fun v => (Chg.refl _ _).setCell _ _ (by simp)
  rcases (by omega : kk = 0 ∨ kk = 1) with rfl | rfl
  · exact ⟨a0, h.ask.at rfl, rfl, fun v => ⟨⟨h.bk.aside (cc _) n1 n4, h.ask.set 0 _, h.wen.chg (cc _) (by simp; omega), h.ne⟩, cc _⟩⟩
  · exact ⟨a1, h.ask.at rfl, rfl, fun v => ⟨⟨h.bk.aside (cc _) n1 n4, h.ask.set 1 _, h.wen.chg (cc _) (by simp; omega), h.ne⟩, cc _⟩⟩
theorem FilS.wenAt {w wr : World} {F : List Nat} {kb A G : Nat} {L M : List Ord} {a0 a1 w0 w1 : Int} (h : FilS w wr F kb A G L M a0 a1 w0 w1) {kk : Nat} (hk : kk < 2) :
    ∃ ak, wr.cell? ⟨G, kk, none⟩ = some (.int .u64 ak) ∧ ak = (if kk = 0 then w0 else w1) ∧ ∀ v, FilS w (wr.setCell ⟨G, kk, none⟩ (.int .u64 v)) F kb A G L M a0 a1 (if kk = 0 then v else w0) (if kk = 0 then w1 else v) ∧ Chg [G] wr (wr.setCell ⟨G, kk, none⟩ (.int .u64 v)) := by
  obtain ⟨n1, n2, n3, n4, n5⟩ := h.ne
  have cc : ∀ v, Chg [G] wr (wr.setCell ⟨G, kk, none⟩ v) := fun v => (Chg.refl _ _).setCell _ _ (by simp)
  rcases (by omega : kk = 0 ∨ kk = 1) with rfl | rfl
  · exact ⟨w0, h.wen.at rfl, rfl, fun v => ⟨⟨h.bk.aside (cc _) n2 n5, h.ask.chg (cc _) (by simp; omega), h.wen.set 0 _, h.ne⟩, cc _⟩⟩
  · exact ⟨w1, h.wen.at rfl, rfl, fun v => ⟨⟨h.bk.aside (cc _) n2 n5, h.ask.chg (cc _) (by simp; omega), h.wen.set 1 _, h.ne⟩, cc _⟩⟩
theorem FilS.turn {w wr w' : World} {F F' : List Nat} {kb A G : Nat} {L M L' M' : List Ord} {a0 a1 w0 w1 : Int} (h : FilS w wr F kb A G L M a0 a1 w0 w1) (hb : BkS w w' F' kb L' M') (c : Chg F wr w') (g : Grw wr.heap.size F F') : FilS w w' F' kb A G L' M' a0 a1 w0 w1 := by
  obtain ⟨n1, n2, n3, n4, n5⟩ := h.ne
  exact ⟨hb, h.ask.chg c n1, h.wen.chg c n2, g.not n1 h.ask.lt, g.not n2 h.wen.lt, n3, n4, n5⟩
theorem FilS.aside {w wr w' : World} {F : List Nat} {kb A G g : Nat} {L M : List Ord} {a0 a1 w0 w1 : Int} (h : FilS w wr F kb A G L M a0 a1 w0 w1) (c : Chg [g] wr w') (hg : g ∉ F) (hA : A ≠ g) (hG : G ≠ g) (hl : w.heap.size ≤ g) : FilS w w' F kb A G L M a0 a1 w0 w1 :=
  ⟨h.bk.aside c hg hl, h.ask.chg c (by simp; exact hA), h.wen.chg c (by simp; exact hG), h.ne⟩

set_option maxRecDepth 100000 in
set_option maxHeartbeats 16000000 in
theorem fills_walk9 (a1 : Option Addr) (n1 cap1 : Nat) (w : World) (h1 : SRec [some .i64, some .i64, some .i64, none, none, some .u64, some .u64] w a1 n1 cap1) :
    Calls Try.prog 7 #[.slice a1 n1 cap1] w fun e w' => e = .returned (.bool true) ∧ Below w.heap.size w w' := by
  have n1m : n1 ≤ 9223372036854775807 := by have := h1.1; have := h1.2.1; omega
  have H1 := Lib.hid h1; clear h1
  go_enter Try.func7, Try.ntmps7
  go_wp2_with fail
  refine (bNewS w w (Chg.refl _ _)).mono ?_
  rintro e w1 ⟨kb, F0, rfl, hB0, _, _⟩
  have hT0 : FilS w ((w1.alloc (.cells #[.int .u64 0, .int .u64 0] 54)).alloc (.cells #[.int .u64 0, .int .u64 0] 54)) F0 kb w1.heap.size (w1.heap.size + 1) [] [] 0 0 0 0 := by
    have hz := hB0.c.size
    refine ⟨hB0.to (((Chg.refl [] w1).alloc _).alloc _), (Blk.new w1 [.int .u64 0, .int .u64 0] _).alloc _, ?_, fun hm => by have := hB0.new _ hm; omega, fun hm => by have := hB0.new _ hm; omega, by omega, by omega, by omega⟩
    have := Blk.new (w1.alloc (.cells #[.int .u64 0, .int .u64 0] 54)) [.int .u64 0, .int .u64 0] 54
    rwa [World.size_alloc] at this
  clear hB0
  go_wp2_with fail
  generalize w1.heap.size = A at *
  generalize (w1.alloc _).alloc _ = W0 at *
  go_loopw [5, 7] (fun v i wr => ∃ (k : Nat) (F : List Nat) (L M : List Ord) (a0 a1 S w0 w1 : Int), k ≤ n1 ∧ k ≤ 50 ∧ i = .int .i64 k ∧ v = .int .u64 S ∧ FilS w wr F kb A (A + 1) L M a0 a1 w0 w1 ∧ Hid (Fil k L M a0 a1 S w0 w1)) (fun _ i _ => 50 - (intOf i).toNat)
  case atStart => exact ⟨0, F0, [], [], 0, 0, 0, 0, 0, by omega, by omega, rfl, rfl, hT0, Fil.start⟩
  case round =>
    clear hT0
    obtain ⟨k, F, L, M, a0, a1, S, w0, w1, hk1, hk2, rfl, rfl, hT, hU⟩ := hrel
    by_cases hlt2 : k < n1 ∧ k < 50
    · obtain ⟨hm1, hm2⟩ := hlt2
      obtain ⟨b1, off, kd, id, cl, by', rs, p, q, rfl, _, _, _, hp, hq, Q⟩ := H1.out.step9 hm1
      obtain ⟨s0, s1, s2, s3, s4, s5, s6⟩ := Q.c wr hT.bk.c.below
      obtain ⟨f1, e1, l1⟩ := and7_u64 p
      obtain ⟨f2, e2, l2⟩ := and15_u64 q
      obtain ⟨f3, e3, l3⟩ := and3_i64 cl
      have d50 : decide ((k : Int) < 50) = true := by simp; omega
      have i1 : (0 : Int) ≤ (k : Int) := by omega
      have i2 : (k : Int) < (n1 : Int) := by omega
      have wk1 : IntKind.i64.wrap ((k : Int) + 1) = (k : Int) + 1 := IntWalk.i64_in _ (by omega)
      have HCC : Hid (∀ o, Chg [] wr (wr.drew.alloc o)) := fun o => ((Chg.refl _ _).drew).alloc o
      obtain ⟨bd1, bd2, bd3, bd4⟩ := hU.out.bounds
      have bd5 := hU.out.le
      clear s0 s1 s4 hp hq
      go_upto_region 8 with (fail)
      refine wp_region_held_drew (S := (fun w' => w'.cell? ⟨b1, off + k * 7 + 2, none⟩ = some (.int .i64 cl) ∧ w'.cell? ⟨b1, off + k * 7 + 3, none⟩ = some (.bool by') ∧ w'.cell? ⟨b1, off + k * 7 + 5, none⟩ = some (.int .u64 p) ∧ w'.cell? ⟨b1, off + k * 7 + 6, none⟩ = some (.int .u64 q))) (by kernel_rfl) ⟨s2, s3, s5, s6⟩ (fun _ => ?_)
      refine wpAnyH_take (i := 0) (v := ?_) rfl (by kernel_rfl) (by kernel_rfl) (by kernel_rfl) (fun _ _ _ h => h) (Or.inl ⟨by rfl, ?_⟩) ⟨s2, s3, s5, s6⟩ ?_
      rotate_left
      · (intro w hSw; (try dsimp only at hSw); go_simp; (try (with_reducible rfl)))
      change wpAnyH _ _ _ _ _ _ _ (Act.put _ (some 36) _) _
      simp only [Act.put, List.setIfInBounds_toArray, List.set_cons_succ, List.set_cons_zero]
      refine wpAnyH_take (i := 1) (v := ?_) rfl (by kernel_rfl) (by kernel_rfl) (by kernel_rfl) (fun _ _ _ h => h) (Or.inl ⟨by rfl, ?_⟩) ⟨s2, s3, s5, s6⟩ ?_
      rotate_left
      · (intro w hSw; (try dsimp only at hSw); go_simp; (try (with_reducible rfl)))
      change wpAnyH _ _ _ _ _ _ _ (Act.put _ (some 37) _) _
      simp only [Act.put, List.setIfInBounds_toArray, List.set_cons_succ, List.set_cons_zero]
      refine wpAnyH_take (i := 2) (v := ?_) rfl (by kernel_rfl) (by kernel_rfl) (by kernel_rfl) (fun _ _ _ h => h) (Or.inl ⟨by rfl, ?_⟩) ⟨s2, s3, s5, s6⟩ ?_
      rotate_left
      · (intro w hSw; (try dsimp only at hSw); go_simp; (try (with_reducible rfl)))
      change wpAnyH _ _ _ _ _ _ _ (Act.put _ (some 38) _) _
      simp only [Act.put, List.setIfInBounds_toArray, List.set_cons_succ, List.set_cons_zero]
      refine wpAnyH_take (i := 3) (v := ?_) rfl (by kernel_rfl) (by kernel_rfl) (by kernel_rfl) (fun _ _ _ h => h) (Or.inl ⟨by rfl, ?_⟩) ⟨s2, s3, s5, s6⟩ ?_
      rotate_left
      · (intro w hSw; (try dsimp only at hSw); go_simp; (try (with_reducible rfl)))
      change wpAnyH _ _ _ _ _ _ _ (Act.put _ (some 39) _) _
      simp only [Act.put, List.setIfInBounds_toArray, List.set_cons_succ, List.set_cons_zero]
      refine wpAnyH_take (i := 4) (v := ?_) rfl (by kernel_rfl) (by kernel_rfl) (by kernel_rfl) (fun _ _ _ h => h) (Or.inl ⟨by rfl, ?_⟩) ⟨s2, s3, s5, s6⟩ ?_
      rotate_left
      · (intro w hSw; (try dsimp only at hSw); go_simp; (try (with_reducible rfl)))
      change wpAnyH _ _ _ _ _ _ _ (Act.put _ (some 40) _) _
      simp only [Act.put, List.setIfInBounds_toArray, List.set_cons_succ, List.set_cons_zero]
      refine wpAnyH_take (i := 5) (v := ?_) rfl (by kernel_rfl) (by kernel_rfl) (by kernel_rfl) (fun _ _ _ h => h) (Or.inl ⟨by rfl, ?_⟩) ⟨s2, s3, s5, s6⟩ ?_
      rotate_left
      · (intro w hSw; (try dsimp only at hSw); go_simp; (try (with_reducible rfl)))
      change wpAnyH _ _ _ _ _ _ _ (Act.put _ (some 41) _) _
      simp only [Act.put, List.setIfInBounds_toArray, List.set_cons_succ, List.set_cons_zero]
      refine wpAnyH_take (i := 6) (v := ?_) rfl (by kernel_rfl) (by kernel_rfl) (by kernel_rfl) (fun _ _ _ h => h) (Or.inl ⟨by rfl, ?_⟩) ⟨s2, s3, s5, s6⟩ ?_
      rotate_left
      · (intro w hSw; (try dsimp only at hSw); go_simp; (try (with_reducible rfl)))
      change wpAnyH _ _ _ _ _ _ _ (Act.put _ (some 42) _) _
      simp only [Act.put, List.setIfInBounds_toArray, List.set_cons_succ, List.set_cons_zero]
      refine wpAnyH_take (i := 7) (v := ?_) rfl (by kernel_rfl) (by kernel_rfl) (by kernel_rfl) (fun _ _ _ h => h) (Or.inl ⟨by rfl, ?_⟩) ⟨s2, s3, s5, s6⟩ ?_
      rotate_left
      · (intro w hSw; (try dsimp only at hSw); go_simp; (try (with_reducible rfl)))
      change wpAnyH _ _ _ _ _ _ _ (Act.put _ (some 43) _) _
      simp only [Act.put, List.setIfInBounds_toArray, List.set_cons_succ, List.set_cons_zero]
      refine wpAnyH_take (i := 8) (v := ?_) rfl (by kernel_rfl) (by kernel_rfl) (by kernel_rfl) (fun _ _ _ h => h) (Or.inl ⟨by rfl, ?_⟩) ⟨s2, s3, s5, s6⟩ ?_
      rotate_left
      · (intro w hSw; (try dsimp only at hSw); go_simp; (try (with_reducible rfl)))
      change wpAnyH _ _ _ _ _ _ _ (Act.put _ (some 44) _) _
      simp only [Act.put, List.setIfInBounds_toArray, List.set_cons_succ, List.set_cons_zero]
      refine wpAnyH_take (i := 9) (v := ?_) rfl (by kernel_rfl) (by kernel_rfl) (by kernel_rfl) (fun _ _ _ h => h) (Or.inl ⟨by rfl, ?_⟩) ⟨s2, s3, s5, s6⟩ ?_
      rotate_left
      · (intro w hSw; (try dsimp only at hSw); go_simp; (try (with_reducible rfl)))
      change wpAnyH _ _ _ _ _ _ _ (Act.put _ (some 45) _) _
      simp only [Act.put, List.setIfInBounds_toArray, List.set_cons_succ, List.set_cons_zero]
      refine wpAnyH_take (i := 10) (v := ?_) rfl (by kernel_rfl) (by kernel_rfl) (by kernel_rfl) (fun _ _ _ h => h) (Or.inl ⟨by rfl, ?_⟩) ⟨s2, s3, s5, s6⟩ ?_
      rotate_left
      · (intro w hSw; (try dsimp only at hSw); go_simp; (try (with_reducible rfl)))
      change wpAnyH _ _ _ _ _ _ _ (Act.put _ (some 46) _) _
      simp only [Act.put, List.setIfInBounds_toArray, List.set_cons_succ, List.set_cons_zero]
      refine wpAnyH_take (i := 11) (v := ?_) rfl (by kernel_rfl) (by kernel_rfl) (by kernel_rfl) (fun _ _ _ h => h) (Or.inl ⟨by rfl, ?_⟩) ⟨s2, s3, s5, s6⟩ ?_
      rotate_left
      · (intro w hSw; (try dsimp only at hSw); go_simp; (try (with_reducible rfl)))
      change wpAnyH _ _ _ _ _ _ _ (Act.put _ (some 47) _) _
      simp only [Act.put, List.setIfInBounds_toArray, List.set_cons_succ, List.set_cons_zero]
      refine wpAnyH_take (i := 12) (v := ?_) rfl (by kernel_rfl) (by kernel_rfl) (by kernel_rfl) (fun _ _ _ h => h) (Or.inl ⟨by rfl, ?_⟩) ⟨s2, s3, s5, s6⟩ ?_
      rotate_left
      · (intro w hSw; (try dsimp only at hSw); go_simp; (try (with_reducible rfl)))
      change wpAnyH _ _ _ _ _ _ _ (Act.put _ (some 48) _) _
      simp only [Act.put, List.setIfInBounds_toArray, List.set_cons_succ, List.set_cons_zero]
      refine wpAnyH_take (i := 13) (v := ?_) rfl (by kernel_rfl) (by kernel_rfl) (by kernel_rfl) (fun _ _ _ h => h) (Or.inl ⟨by rfl, ?_⟩) ⟨s2, s3, s5, s6⟩ ?_
      rotate_left
      · (intro w hSw; (try dsimp only at hSw); go_simp; (try (with_reducible rfl)))
      change wpAnyH _ _ _ _ _ _ _ (Act.put _ (some 49) _) _
      simp only [Act.put, List.setIfInBounds_toArray, List.set_cons_succ, List.set_cons_zero]
      refine wpAnyH_take (i := 14) (v := ?_) rfl (by kernel_rfl) (by kernel_rfl) (by kernel_rfl) (fun _ _ _ h => h) (Or.inl ⟨by rfl, ?_⟩) ⟨s2, s3, s5, s6⟩ ?_
      rotate_left
      · (intro w hSw; (try dsimp only at hSw); go_simp; (try (with_reducible rfl)))
      change wpAnyH _ _ _ _ _ _ _ (Act.put _ (some 50) _) _
      simp only [Act.put, List.setIfInBounds_toArray, List.set_cons_succ, List.set_cons_zero]
      refine wpAnyH_take (i := 15) (v := ?_) rfl (by kernel_rfl) (by kernel_rfl) (by kernel_rfl) (fun _ _ _ h => h) (Or.inl ⟨by rfl, ?_⟩) ⟨s2, s3, s5, s6⟩ ?_
      rotate_left
      · (intro w hSw; (try dsimp only at hSw); go_simp; (try (with_reducible rfl)))
      change wpAnyH _ _ _ _ _ _ _ (Act.put _ (some 51) _) _
      simp only [Act.put, List.setIfInBounds_toArray, List.set_cons_succ, List.set_cons_zero]
      refine wpAnyH_take (i := 16) (v := ?_) rfl (by kernel_rfl) (by kernel_rfl) (by kernel_rfl) (fun _ _ _ h => h) (Or.inl ⟨by rfl, ?_⟩) ⟨s2, s3, s5, s6⟩ ?_
      rotate_left
      · (intro w hSw; (try dsimp only at hSw); go_simp; (try (with_reducible rfl)))
      change wpAnyH _ _ _ _ _ _ _ (Act.put _ (some 52) _) _
      simp only [Act.put, List.setIfInBounds_toArray, List.set_cons_succ, List.set_cons_zero]
      refine wpAnyH_take (i := 17) (v := ?_) rfl (by kernel_rfl) (by kernel_rfl) (by kernel_rfl) (fun _ _ _ h => h) (Or.inl ⟨by rfl, ?_⟩) ⟨s2, s3, s5, s6⟩ ?_
      rotate_left
      · (intro w hSw; (try dsimp only at hSw); go_simp; (try (with_reducible rfl)))
      change wpAnyH _ _ _ _ _ _ _ (Act.put _ (some 53) _) _
      simp only [Act.put, List.setIfInBounds_toArray, List.set_cons_succ, List.set_cons_zero]
      refine wpAnyH_take (i := 18) (v := ?_) rfl (by kernel_rfl) (by kernel_rfl) (by kernel_rfl) (fun _ _ _ h => h) (Or.inl ⟨by rfl, ?_⟩) ⟨s2, s3, s5, s6⟩ ?_
      rotate_left
      · (intro w hSw; (try dsimp only at hSw); go_simp; (try (with_reducible rfl)))
      change wpAnyH _ _ _ _ _ _ _ (Act.put _ (some 54) _) _
      simp only [Act.put, List.setIfInBounds_toArray, List.set_cons_succ, List.set_cons_zero]
      refine wpAnyH_take (i := 19) (v := ?_) rfl (by kernel_rfl) (by kernel_rfl) (by kernel_rfl) (fun _ _ _ h => h) (Or.inl ⟨by rfl, ?_⟩) ⟨s2, s3, s5, s6⟩ ?_
      rotate_left
      · (intro w hSw; (try dsimp only at hSw); go_simp; (try (with_reducible rfl)))
      change wpAnyH _ _ _ _ _ _ _ (Act.put _ (some 55) _) _
      simp only [Act.put, List.setIfInBounds_toArray, List.set_cons_succ, List.set_cons_zero]
      refine wpAnyH_take (i := 20) (v := ?_) rfl (by kernel_rfl) (by kernel_rfl) (by kernel_rfl) (fun _ _ _ h => h) (Or.inl ⟨by rfl, ?_⟩) ⟨s2, s3, s5, s6⟩ ?_
      rotate_left
      · (intro w hSw; (try dsimp only at hSw); go_simp; (try (with_reducible rfl)))
      change wpAnyH _ _ _ _ _ _ _ (Act.put _ (some 56) _) _
      simp only [Act.put, List.setIfInBounds_toArray, List.set_cons_succ, List.set_cons_zero]
      refine wpAnyH_take (i := 21) (v := ?_) rfl (by kernel_rfl) (by kernel_rfl) (by kernel_rfl) (fun _ _ _ h => h) (Or.inl ⟨by rfl, ?_⟩) ⟨s2, s3, s5, s6⟩ ?_
      rotate_left
      · (intro w hSw; (try dsimp only at hSw); go_simp; (try (with_reducible rfl)))
      change wpAnyH _ _ _ _ _ _ _ (Act.put _ (some 57) _) _
      simp only [Act.put, List.setIfInBounds_toArray, List.set_cons_succ, List.set_cons_zero]
      refine wpAnyH_take (i := 22) (v := ?_) rfl (by kernel_rfl) (by kernel_rfl) (by kernel_rfl) (fun _ _ _ h => h) (Or.inl ⟨by rfl, ?_⟩) ⟨s2, s3, s5, s6⟩ ?_
      rotate_left
      · (intro w hSw; (try dsimp only at hSw); go_simp; (try (with_reducible rfl)))
      change wpAnyH _ _ _ _ _ _ _ (Act.put _ (some 58) _) _
      simp only [Act.put, List.setIfInBounds_toArray, List.set_cons_succ, List.set_cons_zero]
      refine wpAnyH_take (i := 23) (v := ?_) rfl (by kernel_rfl) (by kernel_rfl) (by kernel_rfl) (fun _ _ _ h => h) (Or.inl ⟨by rfl, ?_⟩) ⟨s2, s3, s5, s6⟩ ?_
      rotate_left
      · (intro w hSw; (try dsimp only at hSw); go_simp; (try (with_reducible rfl)))
      change wpAnyH _ _ _ _ _ _ _ (Act.put _ (some 59) _) _
      simp only [Act.put, List.setIfInBounds_toArray, List.set_cons_succ, List.set_cons_zero]
      refine wpAnyH_take (i := 24) (v := ?_) rfl (by kernel_rfl) (by kernel_rfl) (by kernel_rfl) (fun _ _ _ h => h) (Or.inl ⟨by rfl, ?_⟩) ⟨s2, s3, s5, s6⟩ ?_
      rotate_left
      · (intro w hSw; (try dsimp only at hSw); go_simp; (try (with_reducible rfl)))
      change wpAnyH _ _ _ _ _ _ _ (Act.put _ (some 60) _) _
      simp only [Act.put, List.setIfInBounds_toArray, List.set_cons_succ, List.set_cons_zero]
      refine wpAnyH_take (i := 25) (v := ?_) rfl (by kernel_rfl) (by kernel_rfl) (by kernel_rfl) (fun _ _ _ h => h) (Or.inl ⟨by rfl, ?_⟩) ⟨s2, s3, s5, s6⟩ ?_
      rotate_left
      · (intro w hSw; (try dsimp only at hSw); go_simp; (try (with_reducible rfl)))
      change wpAnyH _ _ _ _ _ _ _ (Act.put _ (some 61) _) _
      simp only [Act.put, List.setIfInBounds_toArray, List.set_cons_succ, List.set_cons_zero]
      refine wpAnyH_ready (rs := [26]) (by kernel_rfl) (by simp) (AllReadyH.cons rfl (fun K hK => ?_) AllReadyH.nil)
      go_simp
      refine hK.out _ _ ⟨(HCC.out _).cell s2 (by simp), (HCC.out _).cell s3 (by simp), (HCC.out _).cell s5 (by simp), (HCC.out _).cell s6 (by simp)⟩ (fun hHeld => ?_)
      clear hK K
      refine wpAnyH_ready (rs := [27]) (by kernel_rfl) (by simp) (AllReadyH.cons rfl (fun K hK => ?_) AllReadyH.nil)
      go_simp
      refine hK.out _ _ ⟨(HCC.out _).cell s2 (by simp), (HCC.out _).cell s3 (by simp), (HCC.out _).cell s5 (by simp), (HCC.out _).cell s6 (by simp)⟩ (fun hHeld => ?_)
      clear hK K
      refine wpAnyH_done (by kernel_rfl) ?_ _
      have hW : Chg [] wr (wr.alloc (.cells #[.int .i64 ((k : Int) + 1), .int .i64 (f3 : Int), .bool by', .int .u64 (f1 : Int), .int .u64 (f2 : Int)] 28)).drew := ((Chg.refl _ _).alloc _).drew
      have hT1 := hT.to hW
      have hbx : Blk (wr.alloc (.cells #[.int .i64 ((k : Int) + 1), .int .i64 (f3 : Int), .bool by', .int .u64 (f1 : Int), .int .u64 (f2 : Int)] 28)).drew wr.heap.size 28 (oc ⟨(k : Int) + 1, f3, by', f1, f2⟩) := Blk.new wr (oc ⟨(k : Int) + 1, f3, by', f1, f2⟩) 28
      have hg8 := hT.lt
      have hg10 : wr.heap.size < (wr.alloc (.cells #[.int .i64 ((k : Int) + 1), .int .i64 (f3 : Int), .bool by', .int .u64 (f1 : Int), .int .u64 (f2 : Int)] 28)).drew.heap.size := by simp [World.drew]
      clear hT hW HCC s2 s3 s5 s6
      go_upto_if 63 with (fail)
      generalize wr.heap.size = g8 at *
      generalize (wr.alloc (.cells #[.int .i64 ((k : Int) + 1), .int .i64 (f3 : Int), .bool by', .int .u64 (f1 : Int), .int .u64 (f2 : Int)] 28)).drew = W at *
      obtain ⟨kk, hkk⟩ : ∃ kk : Nat, kk = if by' = true then 1 else 0 := ⟨_, rfl⟩
      have HKK := Lib.hid hkk
      clear hkk
      go_cut [9] from 900 to 901 (fun v wx => v = .int .i64 (kk : Int) ∧ W = wx)
      case first =>
        cases by'
        · obtain rfl : kk = 0 := HKK.out
          go_wp2_with fail
          go_meet
          exact ⟨rfl, rfl⟩
        · obtain rfl : kk = 1 := HKK.out
          go_wp2_with fail
          go_meet
          exact ⟨rfl, rfl⟩
      case rest =>
        obtain ⟨rfl, rfl⟩ := hcut
        have y2 := hbx.at (i := 2) rfl
        have y4 := hbx.at (i := 4) rfl
        have hk2 : kk < 2 := by rw [HKK.out]; split <;> omega
        obtain ⟨ak, z0, hak, hset⟩ := hT1.askAt hk2
        have hakb : 0 ≤ ak ∧ ak ≤ 750 := by split at hak <;> omega
        have HAK := Lib.hid hak
        clear hak
        have zf := hT1.ask.free kk
        have hset2 := hset (ak + (f2 : Int))
        have w2 : IntKind.u64.wrap (ak + (f2 : Int)) = ak + (f2 : Int) := by simp [IntKind.wrap, IntKind.bits, IntKind.signed]; omega
        have kk1 : (0 : Int) ≤ (kk : Int) := by omega
        have kk2 : (kk : Int) < 2 := by omega
        have HSET := Lib.hid hset2
        clear hset hset2
        go_upto_region 12 with (fail)
        go_still_tail 7, (by kernel_rfl)
        change wpList _ _ _ _ _ W.drew
        have hT2 := hT1.to (Chg.refl _ _).drew
        have hb2 := hbx.drew
        have z0' : W.drew.cell? ⟨A, kk, none⟩ = some (.int .u64 ak) := z0
        have zf' : W.drew.frozen? ⟨A, kk, none⟩ = false := zf
        have HS2 : Hid (FilS w (W.drew.setCell ⟨A, kk, none⟩ (.int .u64 (ak + (f2 : Int)))) F kb A (A + 1) L M (if kk = 0 then ak + (f2 : Int) else a0) (if kk = 0 then a1 else ak + (f2 : Int)) w0 w1) := by
          obtain ⟨ak2, e1, _, e3⟩ := hT2.askAt hk2
          exact (e3 _).1
        have hgA : g8 ≠ A := by have := hg8.1; omega
        have hc2 : Chg [A] W.drew (W.drew.setCell ⟨A, kk, none⟩ (.int .u64 (ak + (f2 : Int)))) := (Chg.refl _ _).setCell _ _ (by simp)
        have hb3 := hb2.chg hc2 (by simp; exact hgA)
        clear hT1 hT2 hbx hb2 hc2 y2 y4 z0 zf
        generalize W.drew = V at *
        go_upto_region 13 with (fail)
        have hT3 := HS2.out
        clear HS2 z0' zf'
        generalize V.setCell _ _ = V3 at *
        have y0 := hb3.at (i := 0) rfl
        have y1 := hb3.at (i := 1) rfl
        have y2 := hb3.at (i := 2) rfl
        have y3 := hb3.at (i := 3) rfl
        have y4 := hb3.at (i := 4) rfl
        obtain ⟨T, lft, hT0⟩ : ∃ T lft, (mres ⟨(k : Int) + 1, f3, by', f1, f2⟩ L M).1 = T ∧ (mres ⟨(k : Int) + 1, f3, by', f1, f2⟩ L M).2.1 = lft := ⟨_, _, rfl, rfl⟩
        have hstay := hU.out.stay (o := ⟨(k : Int) + 1, f3, by', f1, f2⟩) rfl (by show (0 : Int) ≤ (f2 : Int) ∧ (f2 : Int) ≤ 15; omega)
        have hgoes := hU.out.goes (o := ⟨(k : Int) + 1, f3, by', f1, f2⟩) rfl (by show (0 : Int) ≤ (f2 : Int) ∧ (f2 : Int) ≤ 15; omega)
        have hmet := hU.out.met (o := ⟨(k : Int) + 1, f3, by', f1, f2⟩) (by show (0 : Int) ≤ (f2 : Int) ∧ (f2 : Int) ≤ 15; omega)
        have hlen := hU.out.len
        rw [hT0.1, hT0.2] at hstay hgoes hmet
        have HSTAY := Lib.hid hstay
        have HGOES := Lib.hid hgoes
        obtain ⟨-, -, -, m4, m5, m6, m7, m8, -, -⟩ := hmet
        dsimp only at m6 m7
        have hTl : T.length ≤ 50 := by
          have := (mch_len ⟨(k : Int) + 1, f3, by', f1, f2⟩ (if by' = true then M else L) (f2 : Int)).1
          have e : (mch ⟨(k : Int) + 1, f3, by', f1, f2⟩ (f2 : Int) (if by' = true then M else L)).1 = T := hT0.1
          rw [e] at this
          split at this <;> omega
        have HT0 := Lib.hid hT0
        have HM7 := Lib.hid m7
        have HM8 := Lib.hid m8
        have HTP : Hid (∀ t ∈ T, 0 ≤ t.qty) := by
          have hq0 : ∀ x ∈ (if by' = true then M else L), 0 < x.qty := fun x hx => (hU.out.all x (by split at hx <;> simp [hx])).1
          intro t ht
          have ht2 : t ∈ (mch ⟨(k : Int) + 1, f3, by', f1, f2⟩ (f2 : Int) (if by' = true then M else L)).1 := by have e : (mch ⟨(k : Int) + 1, f3, by', f1, f2⟩ (f2 : Int) (if by' = true then M else L)).1 = T := hT0.1; rw [e]; exact ht
          obtain ⟨x, hx, m, h1, _, rfl, _⟩ := mch_trades hq0 _ t ht2
          have : (trd ⟨(k : Int) + 1, f3, by', f1, f2⟩ x m).qty = m := by unfold trd; split <;> rfl
          omega
        have HFR := Lib.hid (hU.out.fr.mch ⟨(k : Int) + 1, f3, by', f1, f2⟩)
        have hpos := hU.out.pos
        have hSb : S ≤ 750 := by have h1 := hU.out.e0; have h2 := hU.out.bounds; omega
        obtain ⟨p1, p2, p3⟩ := hpos
        have HU0 := Lib.hid hU.out
        clear hT0 hstay hgoes m7 m8 hU
        go_wp2_with fail
        refine (bMatch_is hT3.bk ⟨(k : Int) + 1, f3, by', f1, f2⟩ T lft (mL ⟨(k : Int) + 1, f3, by', f1, f2⟩ L M) (mM ⟨(k : Int) + 1, f3, by', f1, f2⟩ L M) ⟨HT0.out.1, HT0.out.2, rfl, rfl⟩ (ordOk _ _ _ _ _ ⟨by omega, by omega⟩ ⟨by omega, by omega⟩ ⟨by omega, by omega⟩ ⟨by omega, by omega⟩) (by omega) (by omega)).mono ?_
        rintro e w4 ⟨a4, d4, rfl, hTN, hB4, c4⟩
        have hT4 := hT3.turn hB4 c4 (Grw.refl _ _)
        have hg8F : g8 ∉ F := fun hm => by have := hg8.2.2.2 g8 hm; omega
        have hb4 := hb3.chg c4 hg8F
        clear hT3 hb3 y0 y1 y2 y3 y4 c4 hB4
        obtain ⟨nT, hnT⟩ : ∃ m, T.length = m := ⟨_, rfl⟩
        rw [hnT] at hTl ⊢
        have HN := Lib.hid hnT
        clear hnT
        go_wp2_with fail
        go_loopw [5, 80] (fun v i wr => ∃ j : Nat, j ≤ nT ∧ i = .int .i64 j ∧ v = .int .u64 (S + isum ((T.take j).map Trd.qty)) ∧ Chg [] w4 wr) (fun _ i _ => nT - (intOf i).toNat)
        case atStart => exact ⟨0, by omega, rfl, by simp [isum], Chg.refl _ _⟩
        case round =>
          obtain ⟨j, hj, rfl, rfl, hch⟩ := hrel
          by_cases hjt : j < nT
          · have hjl : j < T.length := by rw [HN.out]; exact hjt
            obtain ⟨gt, rfl, -, -, tat⟩ := tr_at hTN hjl
            have htk : isum ((T.take (j + 1)).map Trd.qty) = isum ((T.take j).map Trd.qty) + (T.getD j Trd.zero).qty := by
              rw [List.take_succ_eq_append_getElem hjl, List.map_append, isum_append]
              simp [isum, List.getD, hjl]
            have hq5 : 0 ≤ isum ((T.take j).map Trd.qty) ∧ 0 ≤ (T.getD j Trd.zero).qty ∧ isum ((T.take j).map Trd.qty) + (T.getD j Trd.zero).qty ≤ 15 := by
              have hp := HTP.out
              have h1 := isum_nonneg ((T.take j).map Trd.qty) (fun x hx => by obtain ⟨t, ht, rfl⟩ := List.mem_map.1 hx; exact hp t (List.mem_of_mem_take ht))
              have h2 := hp (T.getD j Trd.zero) (by simp [List.getD, hjl])
              have h3 := isum_nonneg ((T.drop (j + 1)).map Trd.qty) (fun x hx => by obtain ⟨t, ht, rfl⟩ := List.mem_map.1 hx; exact hp t (List.mem_of_mem_drop ht))
              have h4 : isum (T.map Trd.qty) = isum ((T.take (j + 1)).map Trd.qty) + isum ((T.drop (j + 1)).map Trd.qty) := by
                rw [← isum_append, ← List.map_append, List.take_append_drop]
              have h5 := HM7.out
              omega
            generalize T.getD j Trd.zero = t at *
            obtain ⟨r1, r2, r3⟩ := hq5
            have HTK := Lib.hid htk
            obtain ⟨P, hP⟩ : ∃ P, isum ((T.take j).map Trd.qty) = P := ⟨_, rfl⟩
            rw [hP] at r1 r3 ⊢
            have HP := Lib.hid hP
            have t0 := hch.cell tat.c0 (by simp)
            have t1 := hch.cell tat.c1 (by simp)
            have t2 := hch.cell tat.c2 (by simp)
            have t3 := hch.cell tat.c3 (by simp)
            have t4 := hch.cell tat.c4 (by simp)
            have t5 := hch.cell tat.c5 (by simp)
            have j1 : (0 : Int) ≤ (j : Int) := by omega
            have j2 : (j : Int) < (nT : Int) := by omega
            have hch2 := hch.alloc (.cells #[.int .i64 t.maker, .int .i64 t.taker, .int .i64 t.buyer, .int .i64 t.seller, .int .u64 t.price, .int .u64 t.qty] 61)
            clear hP htk hjl tat hch
            go_wp2_with fail
            go_roundw
            case rel => exact ⟨j + 1, by omega, by go_num, by rw [HTK.out, HP.out, Int.add_assoc], hch2⟩
            case measure => simp [intOf]; omega
          · obtain rfl : j = nT := by omega
            have hsm : isum ((T.take j).map Trd.qty) = isum (T.map Trd.qty) := by rw [List.take_of_length_le (by rw [HN.out]; exact Nat.le_refl _)]
            rw [hsm]
            obtain ⟨P, hP⟩ : ∃ P, isum (T.map Trd.qty) = P := ⟨_, rfl⟩
            have m7 := HM7.out
            have m8 := HM8.out
            have hst := HSTAY.out
            have hgo := HGOES.out
            rw [hP] at m7 m8 hst hgo ⊢
            have HST := Lib.hid hst
            have HGO := Lib.hid hgo
            have hT5 := hT4.to hch
            have hb5 := hb4.chg hch (by simp)
            have q4 := (Q.c wr hT5.bk.c.below).2.2.2.2.1
            have hgz : g8 < w4.heap.size := hb4.lt
            clear hsm hP hst hgo hT4 hb4 hch HSTAY HGOES HM7 HM8 HTP
            have HA0 : Hid ((if kk = 0 then ak + (f2 : Int) else a0) = a0 + (if by' = true then 0 else (f2 : Int))) := by
              show _ = _
              have e1 := HKK.out
              have e2 := HAK.out
              cases by'
              · simp at e1; subst e1; simp at e2 ⊢; first | omega | exact e2
              · simp at e1; subst e1; simp
            have HA1 : Hid ((if kk = 0 then a1 else ak + (f2 : Int)) = a1 + (if by' = true then (f2 : Int) else 0)) := by
              show _ = _
              have e1 := HKK.out
              have e2 := HAK.out
              cases by'
              · simp at e1; subst e1; simp
              · simp at e1; subst e1; simp at e2 ⊢; first | omega | exact e2
            rw [HA0.out, HA1.out] at hT5
            go_upto_if 93 with (fail)
            go_cut [5] from 94 to 105 (fun v wx => v = .int .u64 (S + P) ∧ ∃ (F' : List Nat) (L' M' : List Ord) (a0' a1' w0' w1' : Int), FilS w wx F' kb A (A + 1) L' M' a0' a1' w0' w1' ∧ Hid (Fil (k + 1) L' M' a0' a1' (S + P) w0' w1'))
            case first =>
              cases rs
              · obtain ⟨bk, z0, hbk, hset⟩ := hT5.wenAt hk2
                have zf := hT5.wen.free kk
                have hbk2 : 0 ≤ bk ∧ bk ≤ 750 := by
                  have h1 := HU0.out.e0; have h2 := HU0.out.e1; have h3 := HU0.out.bounds; have h4 := HU0.out.le; have h5 := HU0.out.pos
                  split at hbk <;> omega
                have HBK := Lib.hid hbk
                have HSET := Lib.hid (hset (bk + lft)).1
                clear hbk hset
                go_wp2_with fail
                go_meet
                refine ⟨rfl, F, _, _, _, _, _, _, HSET.out, ?_⟩
                have e1 := HKK.out
                have e2 := HBK.out
                have e3 := HGO.out
                show Fil _ _ _ _ _ _ _ _
                cases by'
                · simp at e1; subst e1; simp at e2 e3 ⊢; rw [e2]; exact e3
                · simp at e1; subst e1; simp at e2 e3 ⊢; rw [e2]; exact e3
              · have y4 := hb5.at (i := 4) rfl
                have fz := hb5.free 4
                go_upto_region 21 with (fail)
                have hc6 : Chg [g8] wr (wr.setCell ⟨g8, 4, none⟩ (.int .u64 lft)) := (Chg.refl _ _).setCell _ _ (by simp)
                have hb6 : Blk (wr.setCell ⟨g8, 4, none⟩ (.int .u64 lft)) g8 28 (oc ⟨(k : Int) + 1, f3, by', f1, lft⟩) := hb5.set 4 _
                have hT6 := hT5.aside hc6 hg8F (by omega) (by omega) (by omega)
                clear hb5 hT5 hc6 y4 fz
                generalize wr.setCell _ _ = W6 at *
                have y0 := hb6.at (i := 0) rfl
                have y1 := hb6.at (i := 1) rfl
                have y2 := hb6.at (i := 2) rfl
                have y3 := hb6.at (i := 3) rfl
                have y4 := hb6.at (i := 4) rfl
                obtain ⟨hn1, hn2⟩ := HFR.out.new (i := (k : Int) + 1) (by omega)
                have HN1 := Lib.hid hn1
                have HN2 := Lib.hid hn2
                clear hn1 hn2
                go_wp2_with fail
                refine (bRest_is hT6.bk ⟨(k : Int) + 1, f3, by', f1, lft⟩ _ _ rfl (ordOk _ _ _ _ _ ⟨by omega, by omega⟩ ⟨by omega, by omega⟩ ⟨by omega, by omega⟩ ⟨by omega, by omega⟩) HN1.out HN2.out (by omega) (by omega)).mono ?_
                rintro e w7 ⟨rfl, F', hB7, c7, g7⟩
                have hT7 := hT6.turn hB7 c7 g7
                clear hT6 hB7 c7 g7 hb6 y0 y1 y2 y3 y4
                go_wp2_with fail
                go_meet
                exact ⟨rfl, F', _, _, _, _, _, _, hT7, HST⟩
            case rest =>
              clear hb5 hT5 HST HGO HU0 HFR HT0 hTN HN
              obtain ⟨rfl, F', L', M', c0, c1, d0, d1, hT, hU⟩ := hcut
              have hg9 := hT.lt
              go_upto_region 24 with (fail)
              have hSt := Blk.new wc [.int .u64 0, .int .u64 0] 54
              have hTs := hT.to ((Chg.refl [] wc).alloc (.cells #[.int .u64 0, .int .u64 0] 54))
              have hl9 := hU.out.len
              clear hT
              generalize wc.heap.size = gs at *
              generalize wc.alloc _ = Ws at *
              obtain ⟨nM, hnM⟩ : ∃ m, M'.length = m := ⟨_, rfl⟩
              obtain ⟨nL, hnL⟩ : ∃ m, L'.length = m := ⟨_, rfl⟩
              have HNM := Lib.hid hnM
              have HNL := Lib.hid hnL
              have hnn : nM + nL ≤ k + 1 := by omega
              clear hnM hnL hl9
              go_wp2_with fail
              refine (bAsks hTs.bk.bk (by rw [HNM.out]; omega)).mono ?_
              rintro e w8 ⟨v8, rfl, hX, c8⟩
              obtain ⟨a8, d8, rfl, hX8⟩ := hX.osn
              rw [HNM.out]
              have hT8 := hTs.to c8
              have hS8 := hSt.chg c8 (by simp)
              have hBX := hSt.lt
              have hBY := hS8.lt
              clear hTs hSt hX c8
              go_wp2_with fail
              refine (bBids hT8.bk.bk (by rw [HNL.out]; omega)).mono ?_
              rintro e w9 ⟨v9, rfl, hY, c9⟩
              obtain ⟨a9, d9, rfl, hY9⟩ := hY.osn
              have hT9 := hT8.to c9
              have hS9 := hS8.chg c9 (by simp)
              have hX9 := hX8.chg0 c9
              rw [HNL.out]
              clear hT8 hS8 hY c9 hX8
              have hgs : gs < w9.heap.size := hS9.lt
              have hgsF : gs ∉ F' := fun hm => by have := hg9.2.2.2 gs hm; omega
              have cg := (Chg.refl [gs] w9).alloc (.cells #[.slice a8 nM d8, .slice a9 nL d9] 35)
              have hgb := Blk.new w9 [.slice a8 nM d8, .slice a9 nL d9] 35
              have hTa := hT9.to ((Chg.refl [] w9).alloc (.cells #[.slice a8 nM d8, .slice a9 nL d9] 35))
              have hSa := hS9.alloc (.cells #[.slice a8 nM d8, .slice a9 nL d9] 35)
              have hXa := hX9.chg0 ((Chg.refl [] w9).alloc (.cells #[.slice a8 nM d8, .slice a9 nL d9] 35))
              have hYa := hY9.chg0 ((Chg.refl [] w9).alloc (.cells #[.slice a8 nM d8, .slice a9 nL d9] 35))
              clear hT9 hS9 hX9 hY9
              go_wp2_with fail
              generalize w9.heap.size = gb at *
              generalize w9.alloc (.cells #[.slice a8 nM d8, .slice a9 nL d9] 35) = Wa at *
              clear cg
              have HU9 := hU
              have HSR := Lib.hid hTa.bk.srt
              clear hU
              obtain ⟨qM, hqM⟩ : ∃ q, qsum M' = q := ⟨_, rfl⟩
              obtain ⟨qL, hqL⟩ : ∃ q, qsum L' = q := ⟨_, rfl⟩
              have HQM := Lib.hid hqM
              have HQL := Lib.hid hqL
              clear hqM hqL
              have hgbs : gb ∉ [gs] := by simp; omega
              have hgb0 := hgb
              clear hgb
              go_loopw [113] (fun i wr => ∃ s0 s1 : Int, Chg [gs] Wa wr ∧ Blk wr gs 54 [.int .u64 s0, .int .u64 s1] ∧ ((i = .int .i64 0 ∧ s0 = 0 ∧ s1 = 0) ∨ (i = .int .i64 1 ∧ qM = s0 ∧ s1 = 0) ∨ (i = .int .i64 2 ∧ qM = s0 ∧ qL = s1))) (fun i _ => 2 - (intOf i).toNat)
              case atStart => exact ⟨0, 0, Chg.refl _ _, hSa, .inl ⟨rfl, rfl, rfl⟩⟩
              case round =>
                clear hSa
                obtain ⟨s0, s1, hch, hSr, hcs⟩ := hrel
                rcases hcs with ⟨rfl, rfl, rfl⟩ | ⟨rfl, rfl, rfl⟩ | ⟨rfl, rfl, rfl⟩
                · have c0 := (hgb0.chg hch hgbs).at (i := 0) rfl
                  go_wp2_with fail
                  go_loopw [120] (fun i wx => ∃ m : Nat, m ≤ nM ∧ i = .int .i64 m ∧ Chg [gs] Wa wx ∧ Blk wx gs 54 [.int .u64 (qsum (M'.take m)), .int .u64 0]) (fun i _ => nM - (intOf i).toNat)
                  case atStart => exact ⟨0, by omega, rfl, hch, by simpa [qsum, isum] using hSr⟩
                  case round =>
                    clear hch hSr c0
                    obtain ⟨m, hm, rfl, hc, hS⟩ := hrel
                    by_cases hmt : m < nM
                    · have hml : m < M'.length := by rw [HNM.out]; exact hmt
                      have N := nxt (b := false) (up := true) HSR.out.2 HU9.out.fm (fun x hx => HU9.out.all x (by simp [hx])) hml
                      have nb := Lib.hid N.buy
                      obtain ⟨nq1, nq2⟩ := N.qty
                      have nsum := Lib.hid N.sum
                      obtain ⟨np1, np2⟩ := N.pos
                      have nah := Lib.hid N.ah
                      obtain ⟨gq, rfl, hBq, xat⟩ := (hXa.chg hc (by simp; exact hBX)).cells hml
                      have hbq : gs ≠ gq := by omega
                      have HY : Hid (∀ p, m = p + 1 → Oat wr gq (p * 5) (M'.getD p Ord.zero)) := by
                        intro p hp
                        obtain ⟨g2, e2, -, yat⟩ := (hXa.chg hc (by simp; exact hBX)).cells (k := p) (by omega)
                        obtain rfl : gq = g2 := by simpa using e2
                        exact yat
                      clear N hml
                      generalize M'.getD m Ord.zero = x at *
                      obtain ⟨sq, hsq⟩ : ∃ q, (qsum (M'.take m)) = q := ⟨_, rfl⟩
                      rw [hsq] at np1 np2 hS
                      have nsum2 : Hid ((qsum (M'.take (m + 1))) = sq + x.qty) := by show _ = _; rw [nsum.out, hsq]
                      clear nsum hsq
                      obtain ⟨x0, x1, x2, x3, x4⟩ := xat
                      have j1 : (0 : Int) ≤ (m : Int) := by omega
                      have j2 : (m : Int) < (nM : Int) := by omega
                      have wm : IntKind.i64.wrap ((m : Int) + 1) = (m : Int) + 1 := IntWalk.i64_in _ (by omega)
                      have hc1 := hc.alloc (.cells #[.int .i64 x.id, .int .i64 x.client, .bool x.buy, .int .u64 x.price, .int .u64 x.qty] 28)
                      have hS1 := hS.alloc (.cells #[.int .i64 x.id, .int .i64 x.client, .bool x.buy, .int .u64 x.price, .int .u64 x.qty] 28)
                      have hbx : Blk (wr.alloc (.cells #[.int .i64 x.id, .int .i64 x.client, .bool x.buy, .int .u64 x.price, .int .u64 x.qty] 28)) wr.heap.size 28 (oc x) := Blk.new wr (oc x) 28
                      have hgx : gs < wr.heap.size := hS.lt
                      have HA : Hid (∀ o, Chg [] wr (wr.alloc o)) := fun o => (Chg.refl _ _).alloc o
                      have HY1 : Hid (∀ p, m = p + 1 → Oat (wr.alloc (.cells #[.int .i64 x.id, .int .i64 x.client, .bool x.buy, .int .u64 x.price, .int .u64 x.qty] 28)) gq (p * 5) (M'.getD p Ord.zero)) := fun p hp => (HY.out p hp).chg (HA.out _) (by simp)
                      clear hc hS HY
                      go_upto_region 30 with (fail)
                      clear x0 x1 x2 x3 x4 HA
                      generalize wr.heap.size = gx at *
                      generalize wr.alloc _ = W1 at *
                      have wq : IntKind.u64.wrap (sq + x.qty) = sq + x.qty := by simp [IntKind.wrap, IntKind.bits, IntKind.signed]; omega
                      have z0 := hS1.at (i := 0) rfl
                      have y4 := hbx.at (i := 4) rfl
                      go_still_tail 7, (by kernel_rfl)
                      change wpList _ _ _ _ _ W1.drew
                      clear z0 y4
                      have hc2 := hc1.drew
                      have hS2 := hS1.drew
                      have hbx2 := hbx.drew
                      have HY2 : Hid (∀ p, m = p + 1 → Oat W1.drew gq (p * 5) (M'.getD p Ord.zero)) := fun p hp => (HY1.out p hp).chg (Chg.refl [] _).drew (by simp)
                      clear hc1 hS1 hbx HY1
                      generalize W1.drew = W2 at *
                      have z0 := hS2.at (i := 0) rfl
                      have zf := hS2.free 0
                      have y4 := hbx2.at (i := 4) rfl
                      have HC3 : Hid (Chg [gs] Wa (W2.setCell ⟨gs, 0, none⟩ (.int .u64 (sq + x.qty)))) := hc2.setCell _ _ (by simp)
                      have HS3 : Hid (Blk (W2.setCell ⟨gs, 0, none⟩ (.int .u64 (sq + x.qty))) gs 54 [.int .u64 (sq + x.qty), .int .u64 0]) := hS2.set 0 _
                      have HB3 : Hid (Blk (W2.setCell ⟨gs, 0, none⟩ (.int .u64 (sq + x.qty))) gx 28 (oc x)) := hbx2.chg ((Chg.refl [gs] W2).setCell _ _ (by simp)) (by simp; omega)
                      have HY3 : Hid (∀ p, m = p + 1 → Oat (W2.setCell ⟨gs, 0, none⟩ (.int .u64 (sq + x.qty))) gq (p * 5) (M'.getD p Ord.zero)) := fun p hp => (HY2.out p hp).chg ((Chg.refl [gs] W2).setCell _ _ (by simp)) (by simp; omega)
                      clear hc2 hS2 hbx2 HY2
                      go_upto_region 31 with (fail)
                      clear z0 zf y4
                      generalize W2.setCell _ _ = W3 at *
                      have hc3 := HC3.out
                      have hS3 := HS3.out
                      have hb3 := HB3.out
                      clear HC3 HS3 HB3
                      have v2 := hb3.at (i := 2) rfl
                      have v3 := hb3.at (i := 3) rfl
                      have v4 := hb3.at (i := 4) rfl
                      have v0 := hb3.at (i := 0) rfl
                      rw [nb.out] at v2
                      have dq1 : decide (x.qty = 0) = false := by simp; omega
                      have dq2 : (x.qty == 0) = false := by simp; omega
                      by_cases hm0 : m = 0
                      · have dm1 : decide ((0 : Int) < (m : Int)) = false := by simp; omega
                        have dm2 : decide (0 < m) = false := by simp; omega
                        clear hm0 nah HY3
                        go_wp2_with fail
                        go_roundw
                        case rel => exact ⟨m + 1, by omega, by go_num, hc3, by rw [nsum2.out]; exact hS3⟩
                        case measure => simp [intOf]; omega
                      · obtain ⟨p, hp⟩ : ∃ p, m = p + 1 := ⟨m - 1, by omega⟩
                        have HP := Lib.hid hp
                        have dm1 : decide ((0 : Int) < (m : Int)) = true := by simp; omega
                        have dm2 : decide (0 < m) = true := by simp; omega
                        have wp : IntKind.i64.wrap ((m : Int) - 1) = (p : Int) := by rw [IntWalk.i64_in _ (by omega)]; omega
                        have q1 : (0 : Int) ≤ (p : Int) := by omega
                        have q2 : (p : Int) < (nM : Int) := by omega
                        obtain ⟨y0, y1, y2, y3, y4⟩ := HY3.out p hp
                        have hyp := nah.out p hp
                        generalize M'.getD p Ord.zero = y at *
                        have hc4 := hc3.alloc (.cells #[.int .i64 y.id, .int .i64 y.client, .bool y.buy, .int .u64 y.price, .int .u64 y.qty] 28)
                        have hS4 := hS3.alloc (.cells #[.int .i64 y.id, .int .i64 y.client, .bool y.buy, .int .u64 y.price, .int .u64 y.qty] 28)
                        have hb4 := hb3.alloc (.cells #[.int .i64 y.id, .int .i64 y.client, .bool y.buy, .int .u64 y.price, .int .u64 y.qty] 28)
                        have hby : Blk (W3.alloc (.cells #[.int .i64 y.id, .int .i64 y.client, .bool y.buy, .int .u64 y.price, .int .u64 y.qty] 28)) W3.heap.size 28 (oc y) := Blk.new W3 (oc y) 28
                        clear hc3 hS3 hb3 hp HY3 hm0 nah HP
                        go_upto_region 35 with (fail)
                        clear v0 v2 v3 v4 y0 y1 y2 y3 y4
                        generalize W3.heap.size = gy at *
                        generalize W3.alloc _ = W4 at *
                        have v0 := hb4.at (i := 0) rfl
                        have v3 := hb4.at (i := 3) rfl
                        have u0 := hby.at (i := 0) rfl
                        have u3 := hby.at (i := 3) rfl
                        rw [ahead_t] at hyp
                        have hyp := of_decide_eq_true hyp
                        have d1 : decide (x.price < y.price) = false := by simp; omega
                        clear hb4 hby
                        by_cases he : y.price = x.price
                        · have d2 : decide (x.id ≤ y.id) = false := by simp; omega
                          have d3 : (y.price == x.price) = true := by simp [he]
                          have d4 : decide (y.price = x.price) = true := by simp [he]
                          clear hyp he
                          go_wp2_with fail
                          go_roundw
                          case rel => exact ⟨m + 1, by omega, by go_num, hc4, by rw [nsum2.out]; exact hS4⟩
                          case measure => simp [intOf]; omega
                        · have d3 : (y.price == x.price) = false := by simp [he]
                          have d4 : decide (y.price = x.price) = false := by simp [he]
                          clear hyp he
                          go_wp2_with fail
                          go_roundw
                          case rel => exact ⟨m + 1, by omega, by go_num, hc4, by rw [nsum2.out]; exact hS4⟩
                          case measure => simp [intOf]; omega
                    · obtain rfl : m = nM := by omega
                      have e9 : (qsum (M'.take m)) = qM := by rw [List.take_of_length_le (by rw [HNM.out]; exact Nat.le_refl _)]; exact HQM.out
                      rw [e9] at hS
                      clear e9
                      go_wp2_with fail
                      go_roundw
                      case rel => exact ⟨_, _, hc, hS, .inr (.inl ⟨rfl, rfl, rfl⟩)⟩
                      case measure => simp [intOf]
                · have c0 := (hgb0.chg hch hgbs).at (i := 1) rfl
                  go_wp2_with fail
                  go_loopw [120] (fun i wx => ∃ m : Nat, m ≤ nL ∧ i = .int .i64 m ∧ Chg [gs] Wa wx ∧ Blk wx gs 54 [.int .u64 qM, .int .u64 (qsum (L'.take m))]) (fun i _ => nL - (intOf i).toNat)
                  case atStart => exact ⟨0, by omega, rfl, hch, by simpa [qsum, isum] using hSr⟩
                  case round =>
                    clear hch hSr c0
                    obtain ⟨m, hm, rfl, hc, hS⟩ := hrel
                    by_cases hmt : m < nL
                    · have hml : m < L'.length := by rw [HNL.out]; exact hmt
                      have N := nxt (b := true) (up := false) HSR.out.1 HU9.out.fl (fun x hx => HU9.out.all x (by simp [hx])) hml
                      have nb := Lib.hid N.buy
                      obtain ⟨nq1, nq2⟩ := N.qty
                      have nsum := Lib.hid N.sum
                      obtain ⟨np1, np2⟩ := N.pos
                      have nah := Lib.hid N.ah
                      obtain ⟨gq, rfl, hBq, xat⟩ := (hYa.chg hc (by simp; exact hBY)).cells hml
                      have hbq : gs ≠ gq := by omega
                      have HY : Hid (∀ p, m = p + 1 → Oat wr gq (p * 5) (L'.getD p Ord.zero)) := by
                        intro p hp
                        obtain ⟨g2, e2, -, yat⟩ := (hYa.chg hc (by simp; exact hBY)).cells (k := p) (by omega)
                        obtain rfl : gq = g2 := by simpa using e2
                        exact yat
                      clear N hml
                      generalize L'.getD m Ord.zero = x at *
                      obtain ⟨sq, hsq⟩ : ∃ q, (qsum (L'.take m)) = q := ⟨_, rfl⟩
                      rw [hsq] at np1 np2 hS
                      have nsum2 : Hid ((qsum (L'.take (m + 1))) = sq + x.qty) := by show _ = _; rw [nsum.out, hsq]
                      clear nsum hsq
                      obtain ⟨x0, x1, x2, x3, x4⟩ := xat
                      have j1 : (0 : Int) ≤ (m : Int) := by omega
                      have j2 : (m : Int) < (nL : Int) := by omega
                      have wm : IntKind.i64.wrap ((m : Int) + 1) = (m : Int) + 1 := IntWalk.i64_in _ (by omega)
                      have hc1 := hc.alloc (.cells #[.int .i64 x.id, .int .i64 x.client, .bool x.buy, .int .u64 x.price, .int .u64 x.qty] 28)
                      have hS1 := hS.alloc (.cells #[.int .i64 x.id, .int .i64 x.client, .bool x.buy, .int .u64 x.price, .int .u64 x.qty] 28)
                      have hbx : Blk (wr.alloc (.cells #[.int .i64 x.id, .int .i64 x.client, .bool x.buy, .int .u64 x.price, .int .u64 x.qty] 28)) wr.heap.size 28 (oc x) := Blk.new wr (oc x) 28
                      have hgx : gs < wr.heap.size := hS.lt
                      have HA : Hid (∀ o, Chg [] wr (wr.alloc o)) := fun o => (Chg.refl _ _).alloc o
                      have HY1 : Hid (∀ p, m = p + 1 → Oat (wr.alloc (.cells #[.int .i64 x.id, .int .i64 x.client, .bool x.buy, .int .u64 x.price, .int .u64 x.qty] 28)) gq (p * 5) (L'.getD p Ord.zero)) := fun p hp => (HY.out p hp).chg (HA.out _) (by simp)
                      clear hc hS HY
                      go_upto_region 30 with (fail)
                      clear x0 x1 x2 x3 x4 HA
                      generalize wr.heap.size = gx at *
                      generalize wr.alloc _ = W1 at *
                      have wq : IntKind.u64.wrap (sq + x.qty) = sq + x.qty := by simp [IntKind.wrap, IntKind.bits, IntKind.signed]; omega
                      have z0 := hS1.at (i := 1) rfl
                      have y4 := hbx.at (i := 4) rfl
                      go_still_tail 7, (by kernel_rfl)
                      change wpList _ _ _ _ _ W1.drew
                      clear z0 y4
                      have hc2 := hc1.drew
                      have hS2 := hS1.drew
                      have hbx2 := hbx.drew
                      have HY2 : Hid (∀ p, m = p + 1 → Oat W1.drew gq (p * 5) (L'.getD p Ord.zero)) := fun p hp => (HY1.out p hp).chg (Chg.refl [] _).drew (by simp)
                      clear hc1 hS1 hbx HY1
                      generalize W1.drew = W2 at *
                      have z0 := hS2.at (i := 1) rfl
                      have zf := hS2.free 1
                      have y4 := hbx2.at (i := 4) rfl
                      have HC3 : Hid (Chg [gs] Wa (W2.setCell ⟨gs, 1, none⟩ (.int .u64 (sq + x.qty)))) := hc2.setCell _ _ (by simp)
                      have HS3 : Hid (Blk (W2.setCell ⟨gs, 1, none⟩ (.int .u64 (sq + x.qty))) gs 54 [.int .u64 qM, .int .u64 (sq + x.qty)]) := hS2.set 1 _
                      have HB3 : Hid (Blk (W2.setCell ⟨gs, 1, none⟩ (.int .u64 (sq + x.qty))) gx 28 (oc x)) := hbx2.chg ((Chg.refl [gs] W2).setCell _ _ (by simp)) (by simp; omega)
                      have HY3 : Hid (∀ p, m = p + 1 → Oat (W2.setCell ⟨gs, 1, none⟩ (.int .u64 (sq + x.qty))) gq (p * 5) (L'.getD p Ord.zero)) := fun p hp => (HY2.out p hp).chg ((Chg.refl [gs] W2).setCell _ _ (by simp)) (by simp; omega)
                      clear hc2 hS2 hbx2 HY2
                      go_upto_region 31 with (fail)
                      clear z0 zf y4
                      generalize W2.setCell _ _ = W3 at *
                      have hc3 := HC3.out
                      have hS3 := HS3.out
                      have hb3 := HB3.out
                      clear HC3 HS3 HB3
                      have v2 := hb3.at (i := 2) rfl
                      have v3 := hb3.at (i := 3) rfl
                      have v4 := hb3.at (i := 4) rfl
                      have v0 := hb3.at (i := 0) rfl
                      rw [nb.out] at v2
                      have dq1 : decide (x.qty = 0) = false := by simp; omega
                      have dq2 : (x.qty == 0) = false := by simp; omega
                      by_cases hm0 : m = 0
                      · have dm1 : decide ((0 : Int) < (m : Int)) = false := by simp; omega
                        have dm2 : decide (0 < m) = false := by simp; omega
                        clear hm0 nah HY3
                        go_wp2_with fail
                        go_roundw
                        case rel => exact ⟨m + 1, by omega, by go_num, hc3, by rw [nsum2.out]; exact hS3⟩
                        case measure => simp [intOf]; omega
                      · obtain ⟨p, hp⟩ : ∃ p, m = p + 1 := ⟨m - 1, by omega⟩
                        have HP := Lib.hid hp
                        have dm1 : decide ((0 : Int) < (m : Int)) = true := by simp; omega
                        have dm2 : decide (0 < m) = true := by simp; omega
                        have wp : IntKind.i64.wrap ((m : Int) - 1) = (p : Int) := by rw [IntWalk.i64_in _ (by omega)]; omega
                        have q1 : (0 : Int) ≤ (p : Int) := by omega
                        have q2 : (p : Int) < (nL : Int) := by omega
                        obtain ⟨y0, y1, y2, y3, y4⟩ := HY3.out p hp
                        have hyp := nah.out p hp
                        generalize L'.getD p Ord.zero = y at *
                        have hc4 := hc3.alloc (.cells #[.int .i64 y.id, .int .i64 y.client, .bool y.buy, .int .u64 y.price, .int .u64 y.qty] 28)
                        have hS4 := hS3.alloc (.cells #[.int .i64 y.id, .int .i64 y.client, .bool y.buy, .int .u64 y.price, .int .u64 y.qty] 28)
                        have hb4 := hb3.alloc (.cells #[.int .i64 y.id, .int .i64 y.client, .bool y.buy, .int .u64 y.price, .int .u64 y.qty] 28)
                        have hby : Blk (W3.alloc (.cells #[.int .i64 y.id, .int .i64 y.client, .bool y.buy, .int .u64 y.price, .int .u64 y.qty] 28)) W3.heap.size 28 (oc y) := Blk.new W3 (oc y) 28
                        clear hc3 hS3 hb3 hp HY3 hm0 nah HP
                        go_upto_region 35 with (fail)
                        clear v0 v2 v3 v4 y0 y1 y2 y3 y4
                        generalize W3.heap.size = gy at *
                        generalize W3.alloc _ = W4 at *
                        have v0 := hb4.at (i := 0) rfl
                        have v3 := hb4.at (i := 3) rfl
                        have u0 := hby.at (i := 0) rfl
                        have u3 := hby.at (i := 3) rfl
                        rw [ahead_f] at hyp
                        have hyp := of_decide_eq_true hyp
                        have d1 : decide (y.price < x.price) = false := by simp; omega
                        clear hb4 hby
                        by_cases he : y.price = x.price
                        · have d2 : decide (x.id ≤ y.id) = false := by simp; omega
                          have d3 : (y.price == x.price) = true := by simp [he]
                          have d4 : decide (y.price = x.price) = true := by simp [he]
                          clear hyp he
                          go_wp2_with fail
                          go_roundw
                          case rel => exact ⟨m + 1, by omega, by go_num, hc4, by rw [nsum2.out]; exact hS4⟩
                          case measure => simp [intOf]; omega
                        · have d3 : (y.price == x.price) = false := by simp [he]
                          have d4 : decide (y.price = x.price) = false := by simp [he]
                          clear hyp he
                          go_wp2_with fail
                          go_roundw
                          case rel => exact ⟨m + 1, by omega, by go_num, hc4, by rw [nsum2.out]; exact hS4⟩
                          case measure => simp [intOf]; omega
                    · obtain rfl : m = nL := by omega
                      have e9 : (qsum (L'.take m)) = qL := by rw [List.take_of_length_le (by rw [HNL.out]; exact Nat.le_refl _)]; exact HQL.out
                      rw [e9] at hS
                      clear e9
                      go_wp2_with fail
                      go_roundw
                      case rel => exact ⟨_, _, hc, hS, .inr (.inr ⟨rfl, rfl, rfl⟩)⟩
                      case measure => simp [intOf]
                · have hTb := hTa.aside hch hgsF (by omega) (by omega) (by omega)
                  have hu := HU9.out
                  obtain ⟨n1', n2', n3'⟩ := hu.pos
                  have n4 := hu.le
                  have n5 := hu.e0
                  have n6 := hu.e1
                  have n7 := hu.bounds
                  rw [HQM.out] at n5
                  rw [HQL.out] at n6
                  rw [HQM.out, HQL.out] at n7
                  obtain ⟨n8, n9, n10, n11⟩ := n7
                  clear hu hTa hch hXa hYa hgb0
                  go_wp2_with fail
                  go_loopw [20] (fun i wx => ∃ j : Nat, j ≤ 2 ∧ i = .int .i64 j ∧ FilS w wx F' kb A (A + 1) L' M' c0 c1 d0 d1 ∧ Blk wx gs 54 [.int .u64 qM, .int .u64 qL]) (fun i _ => 2 - (intOf i).toNat)
                  case atStart => exact ⟨0, by omega, rfl, hTb, hSr⟩
                  case round =>
                    clear hTb hSr
                    obtain ⟨j, hj, rfl, hTc, hSc⟩ := hrel
                    rcases (by omega : j = 0 ∨ j = 1 ∨ j = 2) with rfl | rfl | rfl
                    · have z1 := hTc.ask.at (i := 0) rfl
                      have z2 := hTc.wen.at (i := 0) rfl
                      have z3 := hSc.at (i := 0) rfl
                      have wa : IntKind.u64.wrap (S + P + qM) = S + P + qM := by simp [IntKind.wrap, IntKind.bits, IntKind.signed]; omega
                      have wb : IntKind.u64.wrap (S + P + qM + d0) = c0 := by simp [IntKind.wrap, IntKind.bits, IntKind.signed]; omega
                      go_upto_region 42 with (fail)
                      go_quiet (fail)
                      go_wp2_with fail
                      go_roundw
                      case rel => exact ⟨1, by omega, rfl, (hTc.to (((Chg.refl _ _).drewN _))), hSc.chg ((Chg.refl [] _).drewN _) (by simp)⟩
                      case measure => simp [intOf]
                    · have z1 := hTc.ask.at (i := 1) rfl
                      have z2 := hTc.wen.at (i := 1) rfl
                      have z3 := hSc.at (i := 1) rfl
                      have wa : IntKind.u64.wrap (S + P + qL) = S + P + qL := by simp [IntKind.wrap, IntKind.bits, IntKind.signed]; omega
                      have wb : IntKind.u64.wrap (S + P + qL + d1) = c1 := by simp [IntKind.wrap, IntKind.bits, IntKind.signed]; omega
                      go_upto_region 42 with (fail)
                      go_quiet (fail)
                      go_wp2_with fail
                      go_roundw
                      case rel => exact ⟨2, by omega, rfl, (hTc.to (((Chg.refl _ _).drewN _))), hSc.chg ((Chg.refl [] _).drewN _) (by simp)⟩
                      case measure => simp [intOf]
                    · go_wp2_with fail
                      go_roundw
                      case rel => exact ⟨k + 1, F', L', M', c0, c1, S + P, d0, d1, by omega, by omega, by go_num, rfl, hTc, HU9⟩
                      case measure => simp [intOf]; omega
    · have hlt3 : Hid (¬ (k < n1 ∧ k < 50)) := hlt2
      clear hlt2
      rcases Nat.lt_or_ge k n1 with h | h
      · have h6 : ¬ k < 50 := fun h7 => hlt3.out ⟨h, h7⟩
        have d50 : decide ((k : Int) < 50) = false := by simp; omega
        go_wp2_with fail
        refine (awake9 _).mono ?_
        rintro e w2 ⟨rfl, c2⟩
        go_wp2_with fail
        go_ret
        exact ⟨rfl, (hT.bk.c.trans c2).below⟩
      · go_wp2_with fail
        refine (awake9 _).mono ?_
        rintro e w2 ⟨rfl, c2⟩
        go_wp2_with fail
        go_ret
        exact ⟨rfl, (hT.bk.c.trans c2).below⟩
end Go.Proofs.Ytofcphfgpnobnaa
