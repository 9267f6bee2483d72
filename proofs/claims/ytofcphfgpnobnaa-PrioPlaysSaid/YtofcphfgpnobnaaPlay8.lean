import Derived.Test.YtofcphfgpnobnaaPlay8R
import Derived.Test.YtofcphfgpnobnaaPlay8S
import Derived.Test.YtofcphfgpnobnaaAwake8
import Derived.BigQuiet
import Derived.StillTailTactics
import Derived.Deep.CutBlock
import Derived.Deep.DeepCutAuto
namespace Go.Proofs.Ytofcphfgpnobnaa
set_option linter.unusedVariables false
open Go Go.Proofs Go.RowKit
attribute [local go_sem ↓] Go.wp_at_zero Go.wp_at_succ

theorem cutQ_lenI (n : Int) (L : List Ord) : (cutQ n L).length = L.length := cutQ_len n L

set_option maxRecDepth 100000 in
set_option maxHeartbeats 16000000 in
theorem plays_walk8 (up few : Bool) (a1 : Option Addr) (n1 cap1 : Nat) (w : World) (h1 : SRec [some .i64, some .i64, some .u64, some .u64] w a1 n1 cap1) :
    Calls Try.prog 6 #[.bool up, .slice a1 n1 cap1, .bool few] w fun e w' => e = .returned (.bool true) ∧ Below w.heap.size w w' := by
  have n1m : n1 ≤ 9223372036854775807 := by have := h1.1; have := h1.2.1; omega
  have H1 := Lib.hid h1; clear h1
  go_enter Try.func6, Try.ntmps6
  go_wp2_with fail
  refine (qNew up _).mono ?_
  rintro e w1 ⟨b, rfl, hq, c1, b1⟩
  have hB : Blk (w1.alloc (.cells #[.bool up, .slice none 0 0] 44)) w1.heap.size 44 [.bool up, .slice none 0 0] := Blk.new w1 [.bool up, .slice none 0 0] 44
  have hc := c1.alloc (.cells #[.bool up, .slice none 0 0] 44)
  have hq2 := hq.alloc (.cells #[.bool up, .slice none 0 0] 44)
  have hlt := hq.lt
  have hz := c1.size
  have hD : Duo (w1.alloc (.cells #[.bool up, .slice none 0 0] 44)) w.heap.size b b w1.heap.size w1.heap.size up [] :=
    ⟨hq2, ⟨hB.at (i := 0) rfl, hB.free, hB.lt, none, 0, hB.at (i := 1) rfl, Nat.le_refl _, by unfold maxLen; omega, .inl rfl⟩, by omega, by omega⟩
  clear hB hq hq2 c1 hlt hz
  go_wp2_with fail
  generalize w1.heap.size = g at *
  generalize w1.alloc _ = W0 at *
  go_loopw [9] (fun i wr => ∃ (k s t : Nat) (L : List Ord), k ≤ n1 ∧ k ≤ 60 ∧ i = .int .i64 k ∧ Chg [] w wr ∧ Duo wr w.heap.size b s g t up L ∧ L.length ≤ k) (fun i _ => 60 - (intOf i).toNat)
  case atStart => exact ⟨0, b, g, [], by omega, by omega, rfl, hc, hD, by simp⟩
  case round =>
    clear hc hD
    obtain ⟨k, s, t, L, hk1, hk2, rfl, hc, hD, hLk⟩ := hrel
    by_cases hlt2 : k < n1 ∧ k < 60
    · obtain ⟨hm1, hm2⟩ := hlt2
      obtain ⟨b1, off, kd, id, p, n, rfl, ik, ii, hp, hn, Q⟩ := H1.out.get_iiuu hm1
      obtain ⟨q0, q1, q2, q3⟩ := Q wr hc.below
      obtain ⟨tk, hkk, ht8⟩ := and7_i64 kd
      obtain ⟨f, hff, hf32⟩ := and31_i64 id
      have HP := Lib.hid hp
      have HN := Lib.hid hn
      have d60 : decide ((k : Int) < 60) = true := by simp; omega
      go_wp2_with fail
      go_quiet (fail)
      have hD5 := hD.chg ((Chg.refl [] wr).drewN nq)
      have hc5 : Chg [] w (wr.drewN nq) := hc.drewN _
      clear hD hc q0 q1 q2 q3
      generalize wr.drewN nq = W at *
      have hD := hD5
      have hc := hc5
      clear hD5 hc5
      go_upto_if 56 with (fail)
      go_cut [10, 11] from 57 to 60 (fun v u wx => (∃ p, v = .int .u64 p ∧ Hid (U p)) ∧ (∃ n, u = .int .u64 n ∧ Hid (U n)) ∧ W = wx)
      case first =>
        obtain ⟨f1, g1, g2⟩ := and3_u64 p
        obtain ⟨f2, g3, g4⟩ := and7_u64 n
        cases few with
        | true =>
          go_wp2_with fail
          go_meet
          exact ⟨⟨_, rfl, show U (f1 : Int) from ⟨by omega, by omega⟩⟩, ⟨_, rfl, show U (f2 : Int) from ⟨by omega, by omega⟩⟩, rfl⟩
        | false =>
          go_wp2_with fail
          go_meet
          exact ⟨⟨_, rfl, HP⟩, ⟨_, rfl, HN⟩, rfl⟩
      case rest =>
        clear HP HN hp hn
        obtain ⟨⟨pp, rfl, HP⟩, ⟨nn, rfl, HN⟩, rfl⟩ := hcut
        obtain ⟨q0, q1, q2, q3⟩ := Q W hc.below
        go_upto_block 2 with (fail)
        go_cut [13, 14, 15, 16, 17, 18] from 67 to 156 (fun _ _ _ _ _ _ wx => ∃ (s t : Nat) (M : List Ord), Chg [] w wx ∧ Duo wx w.heap.size b s g t up M ∧ M.length ≤ k + 1)
        case first =>
          have hsz := hc.size
          clear q0 q1 q2 q3
          rcases (by omega : tk = 0 ∨ tk = 1 ∨ tk = 2 ∨ 3 ≤ tk) with rfl | rfl | rfl | ht
          · cases L with
            | nil =>
              go_wp2_with fail
              refine (qPop_nil hD.q).mono ?_
              rintro e w2 ⟨rfl, c2⟩
              have hD2 := (hD.chg c2).chg ((Chg.refl [] w2).alloc (.cells #[.int .i64 0, .int .i64 0, .bool false, .int .u64 0, .int .u64 0] 28))
              have hc2 := (hc.trans c2).alloc (.cells #[.int .i64 0, .int .i64 0, .bool false, .int .u64 0, .int .u64 0] 28)
              have hbx : Blk (w2.alloc (.cells #[.int .i64 0, .int .i64 0, .bool false, .int .u64 0, .int .u64 0] 28)) w2.heap.size 28 (oc Ord.zero) := Blk.new w2 (oc Ord.zero) 28
              clear hD hc c2 hsz
              go_upto_region 17 with (fail)
              generalize w2.heap.size = gx at *
              generalize w2.alloc _ = V at *
              obtain ⟨a, c, r1, _⟩ := hD2.r.row
              simp only [Nat.zero_add, List.length_nil] at r1
              have y0 := hbx.at (i := 0) rfl
              have y1 := hbx.at (i := 1) rfl
              have y2 := hbx.at (i := 2) rfl
              have y3 := hbx.at (i := 3) rfl
              have y4 := hbx.at (i := 4) rfl
              go_wp2_with fail
              go_quiet (fail)
              have hD3 := hD2.chg ((Chg.refl [] V).drewN nq)
              have hc3 := hc2.drewN nq
              clear hD2 hc2 r1 hbx y0 y1 y2 y3 y4
              generalize V.drewN nq = V2 at *
              go_wp2_with fail
              go_meet
              exact ⟨s, t, [], hc3, hD3, by simp⟩
            | cons x L' =>
              have hlm : L'.length < 999999999999 := by simp at hLk; omega
              go_wp2_with fail
              refine (qPop_cons hD.q hlm).mono ?_
              rintro e w2 ⟨rfl, hq, c2⟩
              have hS : ∀ y ∈ [b, s], y = b ∨ y = s := by simp
              have hr := (hD.sid c2 hS).chg ((Chg.refl [] w2).alloc (.cells #[.int .i64 x.id, .int .i64 x.client, .bool x.buy, .int .u64 x.price, .int .u64 x.qty] 28)) (by simp) (by simp)
              have hq2 := hq.alloc (.cells #[.int .i64 x.id, .int .i64 x.client, .bool x.buy, .int .u64 x.price, .int .u64 x.qty] 28)
              have c2b := c2.alloc (.cells #[.int .i64 x.id, .int .i64 x.client, .bool x.buy, .int .u64 x.price, .int .u64 x.qty] 28)
              have hbx : Blk (w2.alloc (.cells #[.int .i64 x.id, .int .i64 x.client, .bool x.buy, .int .u64 x.price, .int .u64 x.qty] 28)) w2.heap.size 28 (oc x) := Blk.new w2 (oc x) 28
              have hgl := hD.r.lt
              have hgz := c2.size
              clear hq c2
              go_upto_region 17 with (fail)
              generalize w2.heap.size = gx at *
              generalize w2.alloc _ = V at *
              have hgx : g ≠ gx := by omega
              obtain ⟨cc, r1, rc1, rc2, _, _⟩ := hr.at (k := 0) (by simp)
              simp only [Nat.zero_add, List.length_cons] at r1
              have y0 := hbx.at (i := 0) rfl
              have y1 := hbx.at (i := 1) rfl
              have y2 := hbx.at (i := 2) rfl
              have y3 := hbx.at (i := 3) rfl
              have y4 := hbx.at (i := 4) rfl
              have hd0 : decide ((0 : Int) < (((L'.length + 1 : Nat)) : Int)) = true := by simp; try omega
              have HR := Lib.hid (rDrop (hr.chg ((Chg.refl [] V).drew) (by simp) (by simp)) (i := 0) (by simp) (by omega))
              have HD := Lib.hid hD
              have HC := Lib.hid hc
              have HQ2 := Lib.hid hq2
              have HC2 := Lib.hid c2b
              clear hD hr hbx hgz hq2 hc c2b
              refine wp_region_any (by kernel_rfl) ?_
              change wpAny _ _ _ _ _ _ _ (World.drew _)
              refine wpAny_take (i := 0) (v := ?_) rfl (by kernel_rfl) (by kernel_rfl) (by kernel_rfl) (fun _ _ _ h => h) (Or.inl ⟨by rfl, ?_⟩) ?_
              rotate_left
              · (intro w; go_simp; (try (with_reducible rfl)))
              change wpAny _ _ _ _ _ _ (Act.put _ (some 98) _) _
              simp only [Act.put, List.setIfInBounds_toArray, List.set_cons_succ, List.set_cons_zero]
              refine wpAny_take (i := 1) (v := ?_) rfl (by kernel_rfl) (by kernel_rfl) (by kernel_rfl) (fun _ _ _ h => h) (Or.inl ⟨by rfl, ?_⟩) ?_
              rotate_left
              · (intro w; go_simp; (try (with_reducible rfl)))
              change wpAny _ _ _ _ _ _ (Act.put _ (some 99) _) _
              simp only [Act.put, List.setIfInBounds_toArray, List.set_cons_succ, List.set_cons_zero]
              refine wpAny_take (i := 2) (v := ?_) rfl (by kernel_rfl) (by kernel_rfl) (by kernel_rfl) (fun _ _ _ h => h) (Or.inl ⟨by rfl, ?_⟩) ?_
              rotate_left
              · (intro w; go_simp; (try (with_reducible rfl)))
              change wpAny _ _ _ _ _ _ (Act.put _ (some 100) _) _
              simp only [Act.put, List.setIfInBounds_toArray, List.set_cons_succ, List.set_cons_zero]
              refine wpAny_take (i := 3) (v := ?_) rfl (by kernel_rfl) (by kernel_rfl) (by kernel_rfl) (fun _ _ _ h => h) (Or.inl ⟨by rfl, ?_⟩) ?_
              rotate_left
              · (intro w; go_simp; (try (with_reducible rfl)))
              change wpAny _ _ _ _ _ _ (Act.put _ (some 101) _) _
              simp only [Act.put, List.setIfInBounds_toArray, List.set_cons_succ, List.set_cons_zero]
              refine wpAny_ready (rs := [4]) (by kernel_rfl) (by simp) (AllReady.cons rfl (fun K hK => ?_) AllReady.nil)
              go_simp
              refine hK _ _ ?_
              clear hK K
              refine wpAny_take (i := 5) (v := ?_) rfl (by kernel_rfl) (by kernel_rfl) (by kernel_rfl) (fun _ _ _ h => h) (Or.inl ⟨by rfl, ?_⟩) ?_
              rotate_left
              · (intro w; go_simp; (try (with_reducible rfl)))
              change wpAny _ _ _ _ _ _ (Act.put _ (some 103) _) _
              simp only [Act.put, List.setIfInBounds_toArray, List.set_cons_succ, List.set_cons_zero]
              refine wpAny_take (i := 6) (v := ?_) rfl (by kernel_rfl) (by kernel_rfl) (by kernel_rfl) (fun _ _ _ h => h) (Or.inl ⟨by rfl, ?_⟩) ?_
              rotate_left
              · (intro w; go_simp; (try (with_reducible rfl)))
              change wpAny _ _ _ _ _ _ (Act.put _ (some 104) _) _
              simp only [Act.put, List.setIfInBounds_toArray, List.set_cons_succ, List.set_cons_zero]
              refine wpAny_take (i := 7) (v := ?_) rfl (by kernel_rfl) (by kernel_rfl) (by kernel_rfl) (fun _ _ _ h => h) (Or.inl ⟨by rfl, ?_⟩) ?_
              rotate_left
              · (intro w; go_simp; (try (with_reducible rfl)))
              change wpAny _ _ _ _ _ _ (Act.put _ (some 105) _) _
              simp only [Act.put, List.setIfInBounds_toArray, List.set_cons_succ, List.set_cons_zero]
              refine wpAny_take (i := 8) (v := ?_) rfl (by kernel_rfl) (by kernel_rfl) (by kernel_rfl) (fun _ _ _ h => h) (Or.inl ⟨by rfl, ?_⟩) ?_
              rotate_left
              · (intro w; go_simp; (try (with_reducible rfl)))
              change wpAny _ _ _ _ _ _ (Act.put _ (some 106) _) _
              simp only [Act.put, List.setIfInBounds_toArray, List.set_cons_succ, List.set_cons_zero]
              refine wpAny_of_held (S := (fun w' => w'.cell? ⟨gx, 0, none⟩ = some (.int .i64 x.id) ∧ w'.cell? ⟨gx, 1, none⟩ = some (.int .i64 x.client) ∧ w'.cell? ⟨gx, 2, none⟩ = some (.bool x.buy) ∧ w'.cell? ⟨gx, 3, none⟩ = some (.int .u64 x.price) ∧ w'.cell? ⟨gx, 4, none⟩ = some (.int .u64 x.qty))) _ _ _ _ ?_
              refine wpAnyH_take (i := 9) (v := ?_) rfl (by kernel_rfl) (by kernel_rfl) (by kernel_rfl) (fun _ _ _ h => h) (Or.inl ⟨by rfl, ?_⟩) ⟨y0, y1, y2, y3, y4⟩ ?_
              rotate_left
              · (intro w hSw; (try dsimp only at hSw); go_simp; (try (with_reducible rfl)))
              change wpAnyH _ _ _ _ _ _ _ (Act.put _ (some 107) _) _
              simp only [Act.put, List.setIfInBounds_toArray, List.set_cons_succ, List.set_cons_zero]
              refine wpAnyH_take (i := 10) (v := ?_) rfl (by kernel_rfl) (by kernel_rfl) (by kernel_rfl) (fun _ _ _ h => h) (Or.inl ⟨by rfl, ?_⟩) ⟨y0, y1, y2, y3, y4⟩ ?_
              rotate_left
              · (intro w hSw; (try dsimp only at hSw); go_simp; (try (with_reducible rfl)))
              change wpAnyH _ _ _ _ _ _ _ (Act.put _ (some 108) _) _
              simp only [Act.put, List.setIfInBounds_toArray, List.set_cons_succ, List.set_cons_zero]
              refine wpAnyH_take (i := 11) (v := ?_) rfl (by kernel_rfl) (by kernel_rfl) (by kernel_rfl) (fun _ _ _ h => h) (Or.inl ⟨by rfl, ?_⟩) ⟨y0, y1, y2, y3, y4⟩ ?_
              rotate_left
              · (intro w hSw; (try dsimp only at hSw); go_simp; (try (with_reducible rfl)))
              change wpAnyH _ _ _ _ _ _ _ (Act.put _ (some 109) _) _
              simp only [Act.put, List.setIfInBounds_toArray, List.set_cons_succ, List.set_cons_zero]
              refine wpAnyH_take (i := 12) (v := ?_) rfl (by kernel_rfl) (by kernel_rfl) (by kernel_rfl) (fun _ _ _ h => h) (Or.inl ⟨by rfl, ?_⟩) ⟨y0, y1, y2, y3, y4⟩ ?_
              rotate_left
              · (intro w hSw; (try dsimp only at hSw); go_simp; (try (with_reducible rfl)))
              change wpAnyH _ _ _ _ _ _ _ (Act.put _ (some 110) _) _
              simp only [Act.put, List.setIfInBounds_toArray, List.set_cons_succ, List.set_cons_zero]
              refine wpAnyH_ready (rs := [13]) (by kernel_rfl) (by simp) (AllReadyH.cons rfl (fun K hK => ?_) AllReadyH.nil)
              go_simp
              refine HR.out.mono ?_
              rintro e w3 ⟨rfl, t', hr2, c3, _, ht'⟩
              have hZ : w3.cell? ⟨gx, 0, none⟩ = some (.int .i64 x.id) ∧ w3.cell? ⟨gx, 1, none⟩ = some (.int .i64 x.client) ∧ w3.cell? ⟨gx, 2, none⟩ = some (.bool x.buy) ∧ w3.cell? ⟨gx, 3, none⟩ = some (.int .u64 x.price) ∧ w3.cell? ⟨gx, 4, none⟩ = some (.int .u64 x.qty) := ⟨c3.cell y0 (by simp; omega), c3.cell y1 (by simp; omega), c3.cell y2 (by simp; omega), c3.cell y3 (by simp; omega), c3.cell y4 (by simp; omega)⟩
              go_wp2_with fail
              refine hK.out _ _ hZ (fun hHeld => ?_)
              clear hK K
              refine wpAnyH_take (i := 14) (v := ?_) rfl (by kernel_rfl) (by kernel_rfl) (by kernel_rfl) (fun _ _ _ h => h) (Or.inl ⟨by rfl, ?_⟩) hZ ?_
              rotate_left
              · (intro w hSw; (try dsimp only at hSw); go_simp; (try (with_reducible rfl)))
              change wpAnyH _ _ _ _ _ _ _ (Act.put _ (some 112) _) _
              simp only [Act.put, List.setIfInBounds_toArray, List.set_cons_succ, List.set_cons_zero]
              refine wpAnyH_take (i := 15) (v := ?_) rfl (by kernel_rfl) (by kernel_rfl) (by kernel_rfl) (fun _ _ _ h => h) (Or.inl ⟨by rfl, ?_⟩) hZ ?_
              rotate_left
              · (intro w hSw; (try dsimp only at hSw); go_simp; (try (with_reducible rfl)))
              change wpAnyH _ _ _ _ _ _ _ (Act.put _ (some 113) _) _
              simp only [Act.put, List.setIfInBounds_toArray, List.set_cons_succ, List.set_cons_zero]
              refine wpAnyH_take (i := 16) (v := ?_) rfl (by kernel_rfl) (by kernel_rfl) (by kernel_rfl) (fun _ _ _ h => h) (Or.inl ⟨by rfl, ?_⟩) hZ ?_
              rotate_left
              · (intro w hSw; (try dsimp only at hSw); go_simp; (try (with_reducible rfl)))
              change wpAnyH _ _ _ _ _ _ _ (Act.put _ (some 114) _) _
              simp only [Act.put, List.setIfInBounds_toArray, List.set_cons_succ, List.set_cons_zero]
              refine wpAnyH_take (i := 17) (v := ?_) rfl (by kernel_rfl) (by kernel_rfl) (by kernel_rfl) (fun _ _ _ h => h) (Or.inl ⟨by rfl, ?_⟩) hZ ?_
              rotate_left
              · (intro w hSw; (try dsimp only at hSw); go_simp; (try (with_reducible rfl)))
              change wpAnyH _ _ _ _ _ _ _ (Act.put _ (some 115) _) _
              simp only [Act.put, List.setIfInBounds_toArray, List.set_cons_succ, List.set_cons_zero]
              refine wpAnyH_take (i := 18) (v := ?_) rfl (by kernel_rfl) (by kernel_rfl) (by kernel_rfl) (fun _ _ _ h => h) (Or.inl ⟨by rfl, ?_⟩) hZ ?_
              rotate_left
              · (intro w hSw; (try dsimp only at hSw); go_simp; (try (with_reducible rfl)))
              change wpAnyH _ _ _ _ _ _ _ (Act.put _ (some 116) _) _
              simp only [Act.put, List.setIfInBounds_toArray, List.set_cons_succ, List.set_cons_zero]
              refine wpAnyH_take (i := 19) (v := ?_) rfl (by kernel_rfl) (by kernel_rfl) (by kernel_rfl) (fun _ _ _ h => h) (Or.inl ⟨by rfl, ?_⟩) hZ ?_
              rotate_left
              · (intro w hSw; (try dsimp only at hSw); go_simp; (try (with_reducible rfl)))
              change wpAnyH _ _ _ _ _ _ _ (Act.put _ (some 117) _) _
              simp only [Act.put, List.setIfInBounds_toArray, List.set_cons_succ, List.set_cons_zero]
              refine wpAnyH_take (i := 20) (v := ?_) rfl (by kernel_rfl) (by kernel_rfl) (by kernel_rfl) (fun _ _ _ h => h) (Or.inl ⟨by rfl, ?_⟩) hZ ?_
              rotate_left
              · (intro w hSw; (try dsimp only at hSw); go_simp; (try (with_reducible rfl)))
              change wpAnyH _ _ _ _ _ _ _ (Act.put _ (some 118) _) _
              simp only [Act.put, List.setIfInBounds_toArray, List.set_cons_succ, List.set_cons_zero]
              refine wpAnyH_take (i := 21) (v := _) rfl (by kernel_rfl) (by kernel_rfl) (by kernel_rfl) (fun _ _ _ h => h) (Or.inr ⟨by rfl, rfl⟩) hZ ?_
              change wpAnyH _ _ _ _ _ _ _ (Act.put _ (some 119) _) _
              simp only [Act.put, List.setIfInBounds_toArray, List.set_cons_succ, List.set_cons_zero]
              refine wpAnyH_take (i := 22) (v := _) rfl (by kernel_rfl) (by kernel_rfl) (by kernel_rfl) (fun _ _ _ h => h) (Or.inr ⟨by rfl, rfl⟩) hZ ?_
              change wpAnyH _ _ _ _ _ _ _ (Act.put _ (some 120) _) _
              simp only [Act.put, List.setIfInBounds_toArray, List.set_cons_succ, List.set_cons_zero]
              refine wpAnyH_take (i := 23) (v := _) rfl (by kernel_rfl) (by kernel_rfl) (by kernel_rfl) (fun _ _ _ h => h) (Or.inr ⟨by rfl, rfl⟩) hZ ?_
              change wpAnyH _ _ _ _ _ _ _ (Act.put _ (some 121) _) _
              simp only [Act.put, List.setIfInBounds_toArray, List.set_cons_succ, List.set_cons_zero]
              refine wpAnyH_take (i := 24) (v := ?_) rfl (by kernel_rfl) (by kernel_rfl) (by kernel_rfl) (fun _ _ _ h => h) (Or.inl ⟨by rfl, ?_⟩) hZ ?_
              rotate_left
              · (intro w hSw; (try dsimp only at hSw); go_simp; (try (with_reducible rfl)))
              change wpAnyH _ _ _ _ _ _ _ (Act.put _ (some 122) _) _
              simp only [Act.put, List.setIfInBounds_toArray, List.set_cons_succ, List.set_cons_zero]
              refine wpAnyH_take (i := 25) (v := ?_) rfl (by kernel_rfl) (by kernel_rfl) (by kernel_rfl) (fun _ _ _ h => h) (Or.inl ⟨by rfl, ?_⟩) hZ ?_
              rotate_left
              · (intro w hSw; (try dsimp only at hSw); go_simp; (try (with_reducible rfl)))
              change wpAnyH _ _ _ _ _ _ _ (Act.put _ (some 123) _) _
              simp only [Act.put, List.setIfInBounds_toArray, List.set_cons_succ, List.set_cons_zero]
              refine wpAnyH_done (by kernel_rfl) ?_ _
              obtain ⟨hD2, hch⟩ := HD.out.both HQ2.out.drew HC2.out.drew hS (.inl rfl) hr2 c3 ht' hsz
              have hc2 := hch w (Nat.le_refl _) HC.out
              clear hr2 c3 hch
              go_wp2_with fail
              go_meet
              exact ⟨s, t', L', hc2, hD2, by simp at hLk; omega⟩
          · go_wp2_with fail
            refine (qCut hD.q nn HN.out).mono ?_
            rintro e w2 ⟨rfl, hq, c2⟩
            have hS : ∀ x ∈ [s], x = b ∨ x = s := by simp
            have hr := hD.sid c2 hS
            have hok : ∀ x ∈ L, x.Ok := hD.q.ok
            go_wp2_with fail
            refine (rCut hr nn HN.out hok (by omega)).mono ?_
            rintro e w3 ⟨rfl, t', hr2, c3, _, ht'⟩
            obtain ⟨hD2, hch⟩ := hD.both hq c2 hS (.inl rfl) hr2 c3 ht' hsz
            have hc2 := hch w (Nat.le_refl _) hc
            clear hD hq c2 hr c3 hr2 hch hc hS hok
            go_wp2_with fail
            go_meet
            exact ⟨s, t', _, hc2, hD2, by rw [cutQ_len]; omega⟩
          · by_cases hx : ∃ x ∈ L, x.id = (f : Int)
            · obtain ⟨j, hj, hja, hjp⟩ : ∃ j : Nat, j < L.length ∧ atQ f L = j ∧ pickQ f L = (L.getD j Ord.zero, true) := by
                rcases atQ_pick (k := (f : Int)) hD.q.ids with h | ⟨_, h⟩
                · exact h
                · obtain ⟨y, hy, e⟩ := hx
                  rw [pickQ_yes hD.q.ids hy e] at h
                  exact absurd (Prod.mk.inj h).2 (by simp)
              obtain ⟨x, hxj⟩ : ∃ x, L.getD j Ord.zero = x := ⟨_, rfl⟩
              have hid : (L.getD j Ord.zero).id = (f : Int) := by
                rcases pickQ_spec f L with ⟨_, _, h⟩ | ⟨h, _⟩
                · rw [hjp] at h; exact h
                · rw [hjp] at h; exact absurd (Prod.mk.inj h).2 (by simp)
              have HSE : Hid (sans f L = L.eraseIdx j) := sans_erase hD.q.ids hj hid
              have HJA := Lib.hid hja
              have HJP := Lib.hid hjp
              have HXJ := Lib.hid hxj
              clear hja hjp hxj hid hx
              go_wp2_with fail
              refine (qRemove_pick hD.q (by omega) f).mono ?_
              rw [HJP.out, HXJ.out]
              rintro e w2 ⟨rfl, hq, c2⟩
              have hS : ∀ y ∈ [b, s], y = b ∨ y = s := by simp
              have hr := (hD.sid c2 hS).chg ((Chg.refl [] w2).alloc (.cells #[.int .i64 x.id, .int .i64 x.client, .bool x.buy, .int .u64 x.price, .int .u64 x.qty] 28)) (by simp) (by simp)
              have hq2 := hq.alloc (.cells #[.int .i64 x.id, .int .i64 x.client, .bool x.buy, .int .u64 x.price, .int .u64 x.qty] 28)
              have c2b := c2.alloc (.cells #[.int .i64 x.id, .int .i64 x.client, .bool x.buy, .int .u64 x.price, .int .u64 x.qty] 28)
              have hbx : Blk (w2.alloc (.cells #[.int .i64 x.id, .int .i64 x.client, .bool x.buy, .int .u64 x.price, .int .u64 x.qty] 28)) w2.heap.size 28 (oc x) := Blk.new w2 (oc x) 28
              have hgl := hD.r.lt
              have hgz := c2.size
              have HI := Lib.hid hD.q.ids
              clear hq c2
              go_wp2_with fail
              generalize w2.heap.size = gx at *
              generalize w2.alloc _ = V at *
              have hgx : g ≠ gx := by omega
              refine (rAt_eq hr HI.out f (by omega)).mono ?_
              rw [HJA.out]
              rintro e w3 ⟨rfl, rfl⟩
              go_upto_region 25 with (fail)
              have y0 := hbx.at (i := 0) rfl
              have y1 := hbx.at (i := 1) rfl
              have y2 := hbx.at (i := 2) rfl
              have y3 := hbx.at (i := 3) rfl
              have y4 := hbx.at (i := 4) rfl
              have hd0 : decide ((0 : Int) ≤ (j : Int)) = true := by simp
              have hR0 := rDrop (hr.chg ((Chg.refl [] V).drew) (by simp) (by simp)) hj (by omega)
              rw [HXJ.out] at hR0
              have HR := Lib.hid hR0
              have HD := Lib.hid hD
              have HC := Lib.hid hc
              have HQ2 := Lib.hid hq2
              have HC2 := Lib.hid c2b
              clear hD hr hbx hgz hq2 hc c2b hR0
              refine wp_region_held_drew (S := (fun w' => w'.cell? ⟨gx, 0, none⟩ = some (.int .i64 x.id) ∧ w'.cell? ⟨gx, 1, none⟩ = some (.int .i64 x.client) ∧ w'.cell? ⟨gx, 2, none⟩ = some (.bool x.buy) ∧ w'.cell? ⟨gx, 3, none⟩ = some (.int .u64 x.price) ∧ w'.cell? ⟨gx, 4, none⟩ = some (.int .u64 x.qty))) (by kernel_rfl) ⟨y0, y1, y2, y3, y4⟩ (fun _ => ?_)
              refine wpAnyH_take (i := 0) (v := ?_) rfl (by kernel_rfl) (by kernel_rfl) (by kernel_rfl) (fun _ _ _ h => h) (Or.inl ⟨by rfl, ?_⟩) ⟨y0, y1, y2, y3, y4⟩ ?_
              rotate_left
              · (intro w hSw; (try dsimp only at hSw); go_simp; (try (with_reducible rfl)))
              change wpAnyH _ _ _ _ _ _ _ (Act.put _ (some 143) _) _
              simp only [Act.put, List.setIfInBounds_toArray, List.set_cons_succ, List.set_cons_zero]
              refine wpAnyH_take (i := 1) (v := ?_) rfl (by kernel_rfl) (by kernel_rfl) (by kernel_rfl) (fun _ _ _ h => h) (Or.inl ⟨by rfl, ?_⟩) ⟨y0, y1, y2, y3, y4⟩ ?_
              rotate_left
              · (intro w hSw; (try dsimp only at hSw); go_simp; (try (with_reducible rfl)))
              change wpAnyH _ _ _ _ _ _ _ (Act.put _ (some 144) _) _
              simp only [Act.put, List.setIfInBounds_toArray, List.set_cons_succ, List.set_cons_zero]
              refine wpAnyH_take (i := 2) (v := ?_) rfl (by kernel_rfl) (by kernel_rfl) (by kernel_rfl) (fun _ _ _ h => h) (Or.inl ⟨by rfl, ?_⟩) ⟨y0, y1, y2, y3, y4⟩ ?_
              rotate_left
              · (intro w hSw; (try dsimp only at hSw); go_simp; (try (with_reducible rfl)))
              change wpAnyH _ _ _ _ _ _ _ (Act.put _ (some 145) _) _
              simp only [Act.put, List.setIfInBounds_toArray, List.set_cons_succ, List.set_cons_zero]
              refine wpAnyH_take (i := 3) (v := ?_) rfl (by kernel_rfl) (by kernel_rfl) (by kernel_rfl) (fun _ _ _ h => h) (Or.inl ⟨by rfl, ?_⟩) ⟨y0, y1, y2, y3, y4⟩ ?_
              rotate_left
              · (intro w hSw; (try dsimp only at hSw); go_simp; (try (with_reducible rfl)))
              change wpAnyH _ _ _ _ _ _ _ (Act.put _ (some 146) _) _
              simp only [Act.put, List.setIfInBounds_toArray, List.set_cons_succ, List.set_cons_zero]
              refine wpAnyH_take (i := 4) (v := ?_) rfl (by kernel_rfl) (by kernel_rfl) (by kernel_rfl) (fun _ _ _ h => h) (Or.inl ⟨by rfl, ?_⟩) ⟨y0, y1, y2, y3, y4⟩ ?_
              rotate_left
              · (intro w hSw; (try dsimp only at hSw); go_simp; (try (with_reducible rfl)))
              change wpAnyH _ _ _ _ _ _ _ (Act.put _ (some 147) _) _
              simp only [Act.put, List.setIfInBounds_toArray, List.set_cons_succ, List.set_cons_zero]
              refine wpAnyH_take (i := 5) (v := ?_) rfl (by kernel_rfl) (by kernel_rfl) (by kernel_rfl) (fun _ _ _ h => h) (Or.inl ⟨by rfl, ?_⟩) ⟨y0, y1, y2, y3, y4⟩ ?_
              rotate_left
              · (intro w hSw; (try dsimp only at hSw); go_simp; (try (with_reducible rfl)))
              change wpAnyH _ _ _ _ _ _ _ (Act.put _ (some 148) _) _
              simp only [Act.put, List.setIfInBounds_toArray, List.set_cons_succ, List.set_cons_zero]
              refine wpAnyH_take (i := 6) (v := ?_) rfl (by kernel_rfl) (by kernel_rfl) (by kernel_rfl) (fun _ _ _ h => h) (Or.inl ⟨by rfl, ?_⟩) ⟨y0, y1, y2, y3, y4⟩ ?_
              rotate_left
              · (intro w hSw; (try dsimp only at hSw); go_simp; (try (with_reducible rfl)))
              change wpAnyH _ _ _ _ _ _ _ (Act.put _ (some 149) _) _
              simp only [Act.put, List.setIfInBounds_toArray, List.set_cons_succ, List.set_cons_zero]
              refine wpAnyH_take (i := 7) (v := ?_) rfl (by kernel_rfl) (by kernel_rfl) (by kernel_rfl) (fun _ _ _ h => h) (Or.inl ⟨by rfl, ?_⟩) ⟨y0, y1, y2, y3, y4⟩ ?_
              rotate_left
              · (intro w hSw; (try dsimp only at hSw); go_simp; (try (with_reducible rfl)))
              change wpAnyH _ _ _ _ _ _ _ (Act.put _ (some 150) _) _
              simp only [Act.put, List.setIfInBounds_toArray, List.set_cons_succ, List.set_cons_zero]
              refine wpAnyH_take (i := 8) (v := ?_) rfl (by kernel_rfl) (by kernel_rfl) (by kernel_rfl) (fun _ _ _ h => h) (Or.inl ⟨by rfl, ?_⟩) ⟨y0, y1, y2, y3, y4⟩ ?_
              rotate_left
              · (intro w hSw; (try dsimp only at hSw); go_simp; (try (with_reducible rfl)))
              change wpAnyH _ _ _ _ _ _ _ (Act.put _ (some 151) _) _
              simp only [Act.put, List.setIfInBounds_toArray, List.set_cons_succ, List.set_cons_zero]
              refine wpAnyH_take (i := 9) (v := ?_) rfl (by kernel_rfl) (by kernel_rfl) (by kernel_rfl) (fun _ _ _ h => h) (Or.inl ⟨by rfl, ?_⟩) ⟨y0, y1, y2, y3, y4⟩ ?_
              rotate_left
              · (intro w hSw; (try dsimp only at hSw); go_simp; (try (with_reducible rfl)))
              change wpAnyH _ _ _ _ _ _ _ (Act.put _ (some 152) _) _
              simp only [Act.put, List.setIfInBounds_toArray, List.set_cons_succ, List.set_cons_zero]
              refine wpAnyH_ready (rs := [10]) (by kernel_rfl) (by simp) (AllReadyH.cons rfl (fun K hK => ?_) AllReadyH.nil)
              go_simp
              refine HR.out.mono ?_
              rintro e w3 ⟨rfl, t', hr2, c3, _, ht'⟩
              have hZ : w3.cell? ⟨gx, 0, none⟩ = some (.int .i64 x.id) ∧ w3.cell? ⟨gx, 1, none⟩ = some (.int .i64 x.client) ∧ w3.cell? ⟨gx, 2, none⟩ = some (.bool x.buy) ∧ w3.cell? ⟨gx, 3, none⟩ = some (.int .u64 x.price) ∧ w3.cell? ⟨gx, 4, none⟩ = some (.int .u64 x.qty) := ⟨c3.cell y0 (by simp; omega), c3.cell y1 (by simp; omega), c3.cell y2 (by simp; omega), c3.cell y3 (by simp; omega), c3.cell y4 (by simp; omega)⟩
              go_wp2_with fail
              refine hK.out _ _ hZ (fun hHeld => ?_)
              clear hK K
              refine wpAnyH_take (i := 11) (v := ?_) rfl (by kernel_rfl) (by kernel_rfl) (by kernel_rfl) (fun _ _ _ h => h) (Or.inl ⟨by rfl, ?_⟩) hZ ?_
              rotate_left
              · (intro w hSw; (try dsimp only at hSw); go_simp; (try (with_reducible rfl)))
              change wpAnyH _ _ _ _ _ _ _ (Act.put _ (some 154) _) _
              simp only [Act.put, List.setIfInBounds_toArray, List.set_cons_succ, List.set_cons_zero]
              refine wpAnyH_take (i := 12) (v := ?_) rfl (by kernel_rfl) (by kernel_rfl) (by kernel_rfl) (fun _ _ _ h => h) (Or.inl ⟨by rfl, ?_⟩) hZ ?_
              rotate_left
              · (intro w hSw; (try dsimp only at hSw); go_simp; (try (with_reducible rfl)))
              change wpAnyH _ _ _ _ _ _ _ (Act.put _ (some 155) _) _
              simp only [Act.put, List.setIfInBounds_toArray, List.set_cons_succ, List.set_cons_zero]
              refine wpAnyH_take (i := 13) (v := ?_) rfl (by kernel_rfl) (by kernel_rfl) (by kernel_rfl) (fun _ _ _ h => h) (Or.inl ⟨by rfl, ?_⟩) hZ ?_
              rotate_left
              · (intro w hSw; (try dsimp only at hSw); go_simp; (try (with_reducible rfl)))
              change wpAnyH _ _ _ _ _ _ _ (Act.put _ (some 156) _) _
              simp only [Act.put, List.setIfInBounds_toArray, List.set_cons_succ, List.set_cons_zero]
              refine wpAnyH_done (by kernel_rfl) ?_ _
              have hQ9 := HQ2.out.drew
              rw [HSE.out] at hQ9
              obtain ⟨hD2, hch⟩ := HD.out.both hQ9 HC2.out.drew hS (.inl rfl) hr2 c3 ht' hsz
              have hc2 := hch w (Nat.le_refl _) HC.out
              clear hr2 c3 hch hQ9
              go_wp2_with fail
              go_meet
              exact ⟨s, t', _, hc2, hD2, by rw [List.length_eraseIdx]; split <;> omega⟩
            · have hnone : Hid (∀ x ∈ L, x.id ≠ (f : Int)) := fun x h1 h2 => hx ⟨x, h1, h2⟩
              clear hx
              go_wp2_with fail
              refine (qRemove_no hD.q hnone.out).mono ?_
              rintro e w2 ⟨rfl, c2⟩
              have hD2 := (hD.chg c2).chg ((Chg.refl [] w2).alloc (.cells #[.int .i64 0, .int .i64 0, .bool false, .int .u64 0, .int .u64 0] 28))
              have hc2 := (hc.trans c2).alloc (.cells #[.int .i64 0, .int .i64 0, .bool false, .int .u64 0, .int .u64 0] 28)
              clear hD hc c2 hsz
              go_wp2_with fail
              generalize w2.heap.size = gx at *
              generalize w2.alloc _ = V at *
              refine (rAt hD2.r f (by omega)).mono ?_
              rintro e w3 ⟨⟨r, rfl, hF⟩, rfl⟩
              obtain rfl : r = -1 := by
                rcases hF with ⟨j, hj, e, _⟩ | ⟨_, h⟩
                · exact absurd e (hnone.out _ (mem_getDO hj))
                · exact h
              clear hF
              go_wp2_with fail
              go_quiet (fail)
              have hD3 := hD2.chg ((Chg.refl [] V).drewN nq)
              have hc3 := hc2.drewN nq
              clear hD2 hc2
              generalize V.drewN nq = V2 at *
              go_wp2_with fail
              go_meet
              exact ⟨s, t, L, hc3, hD3, by omega⟩
          · have t0 : ((tk : Int) == 0) = false := beq_eq_false_iff_ne.2 (by omega)
            have t1 : ((tk : Int) == 1) = false := beq_eq_false_iff_ne.2 (by omega)
            have t2 : ((tk : Int) == 2) = false := beq_eq_false_iff_ne.2 (by omega)
            have w1 : IntKind.i64.wrap ((k : Int) * 7) = (k : Int) * 7 := IntWalk.i64_in _ (by omega)
            go_wp2_with fail
            obtain ⟨ID, hID⟩ : ∃ i, i = (k : Int) * 7 % 32 + 32 * ((k : Int) / 32) := ⟨_, rfl⟩
            rw [← hID]
            have hI : 0 ≤ ID ∧ ID < 100 := by omega
            have hlq := hD.q.lt
            have hlr := hD.r.lt
            have hls := hD.r.sl
            have hok : Ord.Ok ⟨ID, f, !up, pp, nn⟩ := ordOk _ _ _ _ _ ⟨by omega, by omega⟩ ⟨by omega, by omega⟩ HP.out HN.out
            have hDb := hD.chg ((Chg.refl [] W).alloc (.cells #[.int .i64 ID, .int .i64 (f : Int), .bool (!up), .int .u64 pp, .int .u64 nn] 28))
            have hcb := hc.alloc (.cells #[.int .i64 ID, .int .i64 (f : Int), .bool (!up), .int .u64 pp, .int .u64 nn] 28)
            have hszb : w.heap.size ≤ (W.alloc (.cells #[.int .i64 ID, .int .i64 (f : Int), .bool (!up), .int .u64 pp, .int .u64 nn] 28)).heap.size := hcb.size
            have hbx : Blk (W.alloc (.cells #[.int .i64 ID, .int .i64 (f : Int), .bool (!up), .int .u64 pp, .int .u64 nn] 28)) W.heap.size 28 (oc ⟨ID, f, !up, pp, nn⟩) := Blk.new W (oc ⟨ID, f, !up, pp, nn⟩) 28
            clear hID hD hc w1 t0 t1 t2
            generalize W.heap.size = gx at *
            generalize W.alloc _ = V at *
            refine (rAt hDb.r ID (by omega)).mono ?_
            rintro e w2 ⟨⟨r, rfl, hF⟩, rfl⟩
            rcases hF with ⟨j, hj, _, rfl⟩ | ⟨hnone, rfl⟩
            · have d0 : decide ((j : Int) < 0) = false := by simp
              go_wp2_with fail
              go_meet
              exact ⟨s, t, L, hcb, hDb, by omega⟩
            · have y0 := hbx.at (i := 0) rfl
              have y1 := hbx.at (i := 1) rfl
              have y2 := hbx.at (i := 2) rfl
              have y3 := hbx.at (i := 3) rfl
              have y4 := hbx.at (i := 4) rfl
              have HNO := Lib.hid hnone
              clear hnone
              go_wp2_with fail
              refine (qPush hDb.q hok HNO.out (by omega)).mono ?_
              rintro e w3 ⟨rfl, s', hq, c3, hs'⟩
              have hS : ∀ x ∈ [b, s], x = b ∨ x = s := by simp
              have hr := hDb.sid c3 hS
              have hb3 := hbx.chg c3 (by simp; omega)
              clear y0 y1 y2 y3 y4
              have y0 := hb3.at (i := 0) rfl
              have y1 := hb3.at (i := 1) rfl
              have y2 := hb3.at (i := 2) rfl
              have y3 := hb3.at (i := 3) rfl
              have y4 := hb3.at (i := 4) rfl
              go_wp2_with fail
              refine (rPush hr ⟨ID, f, !up, pp, nn⟩ (by omega)).mono ?_
              rintro e w4 ⟨rfl, t', hr2, c4, _, ht'⟩
              obtain ⟨hD2, hch⟩ := hDb.both hq c3 hS hs' hr2 c4 ht' hszb
              have hc2 := hch w (Nat.le_refl _) hcb
              have hlen : (ins up (⟨ID, f, !up, pp, nn⟩ : Ord) L).length ≤ k + 1 := by rw [(ins_perm up _ L).length_eq]; simp; omega
              clear hDb hq c3 hr c4 hr2 hch hcb hS hb3 hbx y0 y1 y2 y3 y4
              go_wp2_with fail
              go_meet
              exact ⟨s', t', _, hc2, hD2, hlen⟩
        case rest =>
          clear hD hc q0 q1 q2 q3
          obtain ⟨s, t, M, hc, hD, hLM⟩ := hcut
          obtain ⟨p, po, hp⟩ : ∃ p po, hdO M = (p, po) := ⟨_, _, rfl⟩
          obtain ⟨r, ro, hr⟩ : ∃ r ro, pickQ f M = (r, ro) := ⟨_, _, rfl⟩
          have HP := Lib.hid hp
          have HR := Lib.hid hr
          clear hp hr
          go_wp2_with fail
          refine (qPeek_any hD.q).mono ?_
          rw [HP.out]
          rintro e w2 ⟨rfl, c2⟩
          have hb1 : Blk (w2.alloc (.cells #[.int .i64 p.id, .int .i64 p.client, .bool p.buy, .int .u64 p.price, .int .u64 p.qty] 28)) w2.heap.size 28 (oc p) := Blk.new w2 (oc p) 28
          have c2b := c2.alloc (.cells #[.int .i64 p.id, .int .i64 p.client, .bool p.buy, .int .u64 p.price, .int .u64 p.qty] 28)
          have hD2 := hD.chg c2b
          have hc2 := hc.trans c2b
          clear hD hc c2 c2b
          dsimp only
          go_wp2_with fail
          generalize w2.heap.size = g1 at *
          generalize w2.alloc _ = W2 at *
          refine (qFind_any hD2.q f).mono ?_
          rw [HR.out]
          rintro e w3 ⟨rfl, c3⟩
          have hb2 : Blk (w3.alloc (.cells #[.int .i64 r.id, .int .i64 r.client, .bool r.buy, .int .u64 r.price, .int .u64 r.qty] 28)) w3.heap.size 28 (oc r) := Blk.new w3 (oc r) 28
          have c3b := c3.alloc (.cells #[.int .i64 r.id, .int .i64 r.client, .bool r.buy, .int .u64 r.price, .int .u64 r.qty] 28)
          have hD3 := hD2.chg c3b
          have hc3 := hc2.trans c3b
          have hb3 := hb1.chg c3b (by simp)
          clear hD2 hc2 c3 c3b hb1
          dsimp only
          go_upto_region 29 with (fail)
          generalize w3.heap.size = g2 at *
          generalize w3.alloc _ = W at *
          have y0 := hb3.at (i := 0) rfl
          have y1 := hb3.at (i := 1) rfl
          have y2 := hb3.at (i := 2) rfl
          have y3 := hb3.at (i := 3) rfl
          have y4 := hb3.at (i := 4) rfl
          have z0 := hb2.at (i := 0) rfl
          have z1 := hb2.at (i := 1) rfl
          have z2 := hb2.at (i := 2) rfl
          have z3 := hb2.at (i := 3) rfl
          have z4 := hb2.at (i := 4) rfl
          obtain ⟨a, c, k0, kc1, kc2, hOQ⟩ := hD3.r.osq
          obtain ⟨n, hn⟩ : ∃ n, M.length = n := ⟨_, rfl⟩
          have HSM : Hid (∀ (w : World) (a1 : Option Addr) (c1 c2 : Nat), Osq w a1 M → Osq w a M → Calls Try.prog 26 #[.slice a1 n c1, .slice a n c2] w fun e w' => e = .returned (.bool true) ∧ Chg [] w w') := fun w a1 c1 c2 h1 h2 => by
            have := rSame (c1 := c1) (c2 := c2) h1 h2 (by omega)
            rwa [hn] at this
          rw [hn] at k0 kc1
          have HN := Lib.hid hn
          have HD := Lib.hid hD3
          have HOQ := Lib.hid hOQ
          have HC := Lib.hid hc3
          have hids := hD3.q.ids
          have hn1000 : n ≤ 1000 := by omega
          have hLM1 : M.length ≤ 1000 := by omega
          simp only [Nat.zero_add] at k0
          clear hn hOQ hb2 hb3 hc3
          unfold maxLen at kc2
          rcases atQ_pick (k := (f : Int)) hids with ⟨j, hj, hja, hjp⟩ | ⟨hja, hjp⟩
          · rw [HR.out] at hjp
            obtain ⟨hr1, hr2⟩ := Prod.mk.inj hjp
            subst hr2
            have HAT := Lib.hid hja
            have hjn : j < n := by rw [← HN.out]; exact hj
            cases M with
            | nil => simp at hj
            | cons x M' =>
              obtain ⟨hp1, hp2⟩ := Prod.mk.inj HP.out
              have hpx : p = x := hp1.symm
              have hpo : po = true := hp2.symm
              subst hpo hpx
              obtain ⟨c', e0, e1, e2, hor, hat0⟩ := hD3.r.at (k := 0) (by simp)
              obtain ⟨_, _, _, _, _, hatj⟩ := hD3.r.at hj
              rw [← hr1] at hatj
              simp only [Nat.zero_add] at e0
              rw [k0] at e0
              injection e0 with e0
              injection e0 with e0 e9 e8
              clear e9 e8
              subst e0
              obtain ⟨p0, p1, p2, p3, p4⟩ := hat0
              obtain ⟨f0, f1, f2, f3, f4⟩ := hatj
              simp only [Nat.zero_mul, Nat.zero_add, List.getD_cons_zero] at p0 p1 p2 p3 p4
              have hj0 : (0 : Int) ≤ (j : Int) := by omega
              have hj1 : (j : Int) < (n : Int) := by omega
              have hn1 : (0 : Int) < (n : Int) := by omega
              have hd0 : decide ((0 : Int) < (n : Int)) = true := by simp; omega
              have hd9 : decide (0 < n) = true := by simp; omega
              have hd1 : decide ((0 : Int) ≤ (j : Int)) = true := by simp
              clear hj hja hjp hr1 hids hD3 hor hp1 hp2 e1 e2 HP HR
              have hM1 : _ ≤ 1000 := hLM1
              refine play_both (a := none) (by intro c a d v w h; cases d <;> exact h) HD HN hn1000 HOQ HSM HAT k0 y0 y1 y2 y3 y4 z0 z1 z2 z3 z4 p0 p1 p2 p3 p4 f0 f1 f2 f3 f4 hM1 hj0 hj1 (by omega) hd1 hn1 (by omega) hd0 hd9 ?_
              intro w5 c5
              intros
              have hcE := HC.out.trans c5
              have hD5 := HD.out.chg c5
              go_wp2_with fail
              go_roundw
              case rel => exact ⟨k + 1, s, t, _, by omega, by omega, by go_num, hcE, hD5, hLM⟩
              case measure => simp [intOf]; omega
          · rw [HR.out] at hjp
            obtain ⟨hr1, hr2⟩ := Prod.mk.inj hjp
            subst hr1 hr2
            have HAT := Lib.hid hja
            cases M with
            | nil =>
              obtain ⟨hp1, hp2⟩ := Prod.mk.inj HP.out
              have hpx : p = Ord.zero := hp1.symm
              have hpo : po = false := hp2.symm
              subst hpo hpx
              have hn0 : n = 0 := HN.out.symm
              have hd0 : decide ((0 : Int) < (n : Int)) = false := by rw [hn0]; rfl
              have hd9 : decide (0 < n) = false := by rw [hn0]; rfl
              have hd1 : decide ((0 : Int) ≤ -1) = false := by decide
              clear hn0
              clear hja hjp hids hD3 hp1 hp2 HP HR
              have hM1 : _ ≤ 1000 := hLM1
              refine play_none (by intro c a d v w h; cases d <;> exact h) HD HN hn1000 HOQ HSM HAT k0 y0 y1 y2 y3 y4 z0 z1 z2 z3 z4 hM1 hd1 hd0 hd9 ?_
              intro w5 c5
              intros
              have hcE := HC.out.trans c5
              have hD5 := HD.out.chg c5
              go_wp2_with fail
              go_roundw
              case rel => exact ⟨k + 1, s, t, _, by omega, by omega, by go_num, hcE, hD5, hLM⟩
              case measure => simp [intOf]; omega
            | cons x M' =>
              obtain ⟨hp1, hp2⟩ := Prod.mk.inj HP.out
              have hpx : p = x := hp1.symm
              have hpo : po = true := hp2.symm
              subst hpo hpx
              obtain ⟨c', e0, e1, e2, hor, hat0⟩ := hD3.r.at (k := 0) (by simp)
              simp only [Nat.zero_add] at e0
              rw [k0] at e0
              injection e0 with e0
              injection e0 with e0 e9 e8
              clear e9 e8
              subst e0
              obtain ⟨p0, p1, p2, p3, p4⟩ := hat0
              simp only [Nat.zero_mul, Nat.zero_add, List.getD_cons_zero] at p0 p1 p2 p3 p4
              have hn9 : 1 ≤ n := by rw [← HN.out]; simp
              have hn1 : (0 : Int) < (n : Int) := by omega
              have hd0 : decide ((0 : Int) < (n : Int)) = true := by simp; omega
              have hd9 : decide (0 < n) = true := by simp; omega
              have hd1 : decide ((0 : Int) ≤ -1) = false := by decide
              clear hja hjp hids hD3 hor hp1 hp2 e1 e2 HP HR
              have hM1 : _ ≤ 1000 := hLM1
              refine play_first (a := none) (by intro c a d v w h; cases d <;> exact h) HD HN hn1000 HOQ HSM HAT k0 y0 y1 y2 y3 y4 z0 z1 z2 z3 z4 p0 p1 p2 p3 p4 hM1 hd1 hn1 (by omega) hd0 hd9 ?_
              intro w5 c5
              intros
              have hcE := HC.out.trans c5
              have hD5 := HD.out.chg c5
              go_wp2_with fail
              go_roundw
              case rel => exact ⟨k + 1, s, t, _, by omega, by omega, by go_num, hcE, hD5, hLM⟩
              case measure => simp [intOf]; omega
    · have hlt3 : Hid (¬ (k < n1 ∧ k < 60)) := hlt2
      clear hlt2
      rcases Nat.lt_or_ge k n1 with h | h
      · have h6 : ¬ k < 60 := fun h7 => hlt3.out ⟨h, h7⟩
        have d60 : decide ((k : Int) < 60) = false := by simp; omega
        have dn : decide ((k : Int) < (n1 : Int)) = true := by simp; omega
        go_wp2_with fail
        refine (awake8 _).mono ?_
        rintro e w2 ⟨rfl, c2⟩
        go_wp2_with fail
        go_ret
        exact ⟨rfl, (hc.trans (Chg.of_below c2)).below⟩
      · have dn : decide ((k : Int) < (n1 : Int)) = false := by simp; omega
        go_wp2_with fail
        refine (awake8 _).mono ?_
        rintro e w2 ⟨rfl, c2⟩
        go_wp2_with fail
        go_ret
        exact ⟨rfl, (hc.trans (Chg.of_below c2)).below⟩
end Go.Proofs.Ytofcphfgpnobnaa
