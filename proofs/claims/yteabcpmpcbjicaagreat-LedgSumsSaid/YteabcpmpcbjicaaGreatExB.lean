
import Derived.Test.YteabcpmpcbjicaaGreatExA
import Derived.Deep.DrawnRows
import Derived.Deep.RegionHeld3
import Derived.StillTailTactics
import Derived.BigQuiet
namespace Go.Proofs.YteabcpmpcbjicaaGreat
set_option linter.unusedVariables false
open Go Go.Proofs Go.RowKit
attribute [local go_sem ↓] Go.wp_at_zero Go.wp_at_succ

set_option maxRecDepth 1000000 in
set_option maxHeartbeats 8000000 in
theorem lock_reg {Q : Exit → Act → World → Prop} {u1 u2 u3 u4 u5 u6 u7 u8 u9 u10 u11 u12 u13 u14 u15 u16 u17 u18 u19 u20 u21 u22 u23 u24 u25 u26 u27 u28 u29 u30 u31 u32 u33 u34 u35 u36 u37 u38 u39 u40 u41 u42 u43 u44 u45 u46 u47 u48 u49 u50 u51 u52 u53 u54 u55 : Value} (hP : ∀ c a d v w, Q (.panic c) (Act.put a d v) w → Q (.panic c) a w) {w : World} {x ab s kb n k nL nM : Nat} {FF : List Nat} {xs : List Int} {L M : List Ord} {W : World} (h : Exc w W x ab s kb n FF xs L M k) (HNL : Hid (L.length = nL)) (HNM : Hid (M.length = nM)) (hnL : nL ≤ 1000000) (hnM : nM ≤ 1000000) (x1 : W.cell? ⟨x, 1, none⟩ = some (.pointer (some ⟨kb, 0, none⟩)))
    (hQ : ∀ (w3 w5 : World) (a3 : Option Addr) (d3 : Nat) (a5 : Option Addr) (d5 : Nat) (_ : Chg [] W w3) (_ : Chg [] w3 w5) (_ : Osn w3 W.drew.heap.size a3 L) (_ : Osn w5 w3.heap.size a5 M) (x14 x15 x16 x17 x18 x19 x20 x21 x22 x23 : Value), Q .normal ⟨#[.pointer (some ⟨x, 0, none⟩), u1, u2, u3, u4, u5, u6, u7, u8, u9, u10, u11, u12, u13, x14, x15, x16, x17, x18, x19, x20, x21, x22, x23, .slice (some ⟨w5.heap.size, 0, none⟩) 2 2, .int .i64 2, .int .i64 0, u27, u28, u29, u30, u31, u32, u33, u34, u35, u36, u37, u38, u39, u40, u41, u42, u43, u44, u45, u46, u47, u48, u49, u50, u51, u52, u53, u54, u55], []⟩ (w5.alloc (.cells #[.slice a3 nL d3, .slice a5 nM d5] 67))) :
    Code.wp Tryz.prog (regionOf Tryz.f95 2) Q ⟨#[.pointer (some ⟨x, 0, none⟩), u1, u2, u3, u4, u5, u6, u7, u8, u9, u10, u11, u12, u13, u14, u15, u16, u17, u18, u19, u20, u21, u22, u23, u24, u25, u26, u27, u28, u29, u30, u31, u32, u33, u34, u35, u36, u37, u38, u39, u40, u41, u42, u43, u44, u45, u46, u47, u48, u49, u50, u51, u52, u53, u54, u55], []⟩ W := by
  conv => arg 2; whnf
  refine wp_region_held_drew (S := (fun w' => w'.cell? ⟨x, 1, none⟩ = some (.pointer (some ⟨kb, 0, none⟩)))) (by kernel_rfl) x1 (fun _ => ?_)
  refine wpAnyH_take (i := 0) (v := ?_) rfl (by kernel_rfl) (by kernel_rfl) (by kernel_rfl) (fun c a w h => hP c a _ _ w h) (Or.inl ⟨by rfl, ?_⟩) x1 ?_
  rotate_left
  · (intro w hSw; (try dsimp only at hSw); go_simp; (try (with_reducible rfl)))
  change wpAnyH _ _ _ _ _ _ _ (Act.put _ (some 14) _) _
  simp only [Act.put, List.setIfInBounds_toArray, List.set_cons_succ, List.set_cons_zero]
  refine wpAnyH_take (i := 1) (v := ?_) rfl (by kernel_rfl) (by kernel_rfl) (by kernel_rfl) (fun c a w h => hP c a _ _ w h) (Or.inl ⟨by rfl, ?_⟩) x1 ?_
  rotate_left
  · (intro w hSw; (try dsimp only at hSw); go_simp; (try (with_reducible rfl)))
  change wpAnyH _ _ _ _ _ _ _ (Act.put _ (some 15) _) _
  simp only [Act.put, List.setIfInBounds_toArray, List.set_cons_succ, List.set_cons_zero]
  refine wpAnyH_take (i := 2) (v := ?_) rfl (by kernel_rfl) (by kernel_rfl) (by kernel_rfl) (fun c a w h => hP c a _ _ w h) (Or.inl ⟨by rfl, ?_⟩) x1 ?_
  rotate_left
  · (intro w hSw; (try dsimp only at hSw); go_simp; (try (with_reducible rfl)))
  change wpAnyH _ _ _ _ _ _ _ (Act.put _ (some 16) _) _
  simp only [Act.put, List.setIfInBounds_toArray, List.set_cons_succ, List.set_cons_zero]
  refine wpAnyH_take (i := 3) (v := ?_) rfl (by kernel_rfl) (by kernel_rfl) (by kernel_rfl) (fun c a w h => hP c a _ _ w h) (Or.inl ⟨by rfl, ?_⟩) x1 ?_
  rotate_left
  · (intro w hSw; (try dsimp only at hSw); go_simp; (try (with_reducible rfl)))
  change wpAnyH _ _ _ _ _ _ _ (Act.put _ (some 17) _) _
  simp only [Act.put, List.setIfInBounds_toArray, List.set_cons_succ, List.set_cons_zero]
  refine wpAnyH_take (i := 5) (v := ?_) rfl (by kernel_rfl) (by kernel_rfl) (by kernel_rfl) (fun c a w h => hP c a _ _ w h) (Or.inl ⟨by rfl, ?_⟩) x1 ?_
  rotate_left
  · (intro w hSw; (try dsimp only at hSw); go_simp; (try (with_reducible rfl)))
  change wpAnyH _ _ _ _ _ _ _ (Act.put _ (some 19) _) _
  simp only [Act.put, List.setIfInBounds_toArray, List.set_cons_succ, List.set_cons_zero]
  refine wpAnyH_take (i := 6) (v := ?_) rfl (by kernel_rfl) (by kernel_rfl) (by kernel_rfl) (fun c a w h => hP c a _ _ w h) (Or.inl ⟨by rfl, ?_⟩) x1 ?_
  rotate_left
  · (intro w hSw; (try dsimp only at hSw); go_simp; (try (with_reducible rfl)))
  change wpAnyH _ _ _ _ _ _ _ (Act.put _ (some 20) _) _
  simp only [Act.put, List.setIfInBounds_toArray, List.set_cons_succ, List.set_cons_zero]
  refine wpAnyH_take (i := 7) (v := ?_) rfl (by kernel_rfl) (by kernel_rfl) (by kernel_rfl) (fun c a w h => hP c a _ _ w h) (Or.inl ⟨by rfl, ?_⟩) x1 ?_
  rotate_left
  · (intro w hSw; (try dsimp only at hSw); go_simp; (try (with_reducible rfl)))
  change wpAnyH _ _ _ _ _ _ _ (Act.put _ (some 21) _) _
  simp only [Act.put, List.setIfInBounds_toArray, List.set_cons_succ, List.set_cons_zero]
  refine wpAnyH_take (i := 8) (v := ?_) rfl (by kernel_rfl) (by kernel_rfl) (by kernel_rfl) (fun c a w h => hP c a _ _ w h) (Or.inl ⟨by rfl, ?_⟩) x1 ?_
  rotate_left
  · (intro w hSw; (try dsimp only at hSw); go_simp; (try (with_reducible rfl)))
  change wpAnyH _ _ _ _ _ _ _ (Act.put _ (some 22) _) _
  simp only [Act.put, List.setIfInBounds_toArray, List.set_cons_succ, List.set_cons_zero]
  refine wpAnyH_take (i := 12) (v := ?_) rfl (by kernel_rfl) (by kernel_rfl) (by kernel_rfl) (fun c a w h => hP c a _ _ w h) (Or.inl ⟨by rfl, ?_⟩) x1 ?_
  rotate_left
  · (intro w hSw; (try dsimp only at hSw); go_simp; (try (with_reducible rfl)))
  change wpAnyH _ _ _ _ _ _ _ (Act.put _ (some 26) _) _
  simp only [Act.put, List.setIfInBounds_toArray, List.set_cons_succ, List.set_cons_zero]
  refine wpAnyH_ready (rs := [4]) (by kernel_rfl) (by simp) (AllReadyH.cons rfl (fun K hK => ?_) AllReadyH.nil)
  go_simp
  refine (bBids (h.to (Chg.refl [] W).drew).b.bk (by rw [HNL.out]; omega)).mono ?_
  rintro e w3 ⟨v3, rfl, hO3, c3⟩
  obtain ⟨a3, d3, rfl, hS3⟩ := hO3.osn
  rw [HNL.out]
  have HS3 := Lib.hid hS3
  have hx3 : w3.cell? ⟨x, 1, none⟩ = some (.pointer (some ⟨kb, 0, none⟩)) := (((Chg.refl [] W).drew).trans c3).cell x1 (by simp)
  clear hS3 hO3
  go_wp2_with fail
  refine hK.out _ _ hx3 (fun hHeld => ?_)
  clear hK K
  refine wpAnyH_ready (rs := [9]) (by kernel_rfl) (by simp) (AllReadyH.cons rfl (fun K hK => ?_) AllReadyH.nil)
  go_simp
  refine (bAsks (h.to (((Chg.refl [] W).drew).trans c3)).b.bk (by rw [HNM.out]; omega)).mono ?_
  rintro e w5 ⟨v5, rfl, hO5, c5⟩
  obtain ⟨a5, d5, rfl, hS5⟩ := hO5.osn
  rw [HNM.out]
  have HS5 := Lib.hid hS5
  have hx5 : w5.cell? ⟨x, 1, none⟩ = some (.pointer (some ⟨kb, 0, none⟩)) := ((((Chg.refl [] W).drew).trans c3).trans c5).cell x1 (by simp)
  have hz5 : ∀ ob, (w5.alloc ob).cell? ⟨x, 1, none⟩ = some (.pointer (some ⟨kb, 0, none⟩)) := fun ob => ((Chg.refl [] w5).alloc ob).cell hx5 (by simp)
  have HZ5 := Lib.hid hz5
  clear hS5 hO5 hz5
  go_wp2_with fail
  refine hK.out _ _ hx5 (fun hHeld => ?_)
  clear hK K
  refine wpAnyH_ready (rs := [10]) (by kernel_rfl) (by simp) (AllReadyH.cons rfl (fun K hK => ?_) AllReadyH.nil)
  go_simp
  refine hK.out _ _ (HZ5.out _) (fun hHeld => ?_)
  clear hK K
  refine wpAnyH_take (i := 11) (v := ?_) rfl (by kernel_rfl) (by kernel_rfl) (by kernel_rfl) (fun c a w h => hP c a _ _ w h) (Or.inl ⟨by rfl, ?_⟩) (HZ5.out _) ?_
  rotate_left
  · (intro w hSw; (try dsimp only at hSw); go_simp; (try (with_reducible rfl)))
  change wpAnyH _ _ _ _ _ _ _ (Act.put _ (some 25) _) _
  simp only [Act.put, List.setIfInBounds_toArray, List.set_cons_succ, List.set_cons_zero]
  refine wpAnyH_done (by kernel_rfl) ?_ _
  exact hQ _ _ _ _ _ _ (((Chg.refl [] W).drew).trans c3) c5 HS3.out HS5.out _ _ _ _ _ _ _ _ _ _
end Go.Proofs.YteabcpmpcbjicaaGreat

namespace Go.Proofs.YteabcpmpcbjicaaGreat
set_option linter.unusedVariables false
open Go Go.Proofs Go.RowKit
attribute [local go_sem ↓] Go.wp_at_zero Go.wp_at_succ

/-- What a client's orders lock of an asset. -/
def lk1 (c a : Int) (o : Ord) : Int := if o.client = c ∧ lockA o = a then lockN o else 0
def lkd (c a : Int) (Q : List Ord) : Int := isum (Q.map (lk1 c a))
theorem lk1_in {c a : Int} {o : Ord} (h : OIn o) : 0 ≤ lk1 c a o ∧ lk1 c a o ≤ 1099511627776 := by
  unfold lk1; have := h.lock; split <;> omega
theorem lkd_in {c a : Int} {Q : List Ord} (h : ∀ o ∈ Q, OIn o) : 0 ≤ lkd c a Q ∧ lkd c a Q ≤ 1099511627776 * Q.length := by
  induction Q with
  | nil => simp [lkd, isum]
  | cons o Q ih =>
    have h1 := lk1_in (c := c) (a := a) (h o (by simp))
    have h2 := ih fun y hy => h y (by simp [hy])
    simp [lkd, isum] at h2 ⊢
    omega
theorem lkd_take {c a : Int} {Q : List Ord} {j : Nat} (hj : j < Q.length) : lkd c a (Q.take (j + 1)) = lkd c a (Q.take j) + lk1 c a (Q.getD j Ord.zero) := by
  unfold lkd
  rw [List.take_succ_eq_append_getElem hj, List.map_append, isum_append]
  simp [isum, List.getD, hj]

set_option maxRecDepth 100000 in
set_option maxHeartbeats 4000000 in
/-- Locked. -/
theorem locked_any {w wr : World} {x ab s kb n : Nat} {F : List Nat} {xs : List Int} {L M : List Ord} {k : Nat} (h : Exc w wr x ab s kb n F xs L M k) (hk : k ≤ 1000000) (c a r : Int) (hr : lkd c a L + lkd c a M = r) :
    Calls Tryz.prog 95 #[.pointer (some ⟨x, 0, none⟩), .int .i64 c, .int .i64 a] wr fun e w' => e = .returned (.int .u64 r) ∧ Chg [] wr w' := by
  have hlen := h.ok.len
  have HOI : Hid (∀ o ∈ L ++ M, OIn o) := fun o ho => (h.ok.oin o ho).1
  obtain ⟨nL, hnL⟩ : ∃ m, L.length = m := ⟨_, rfl⟩
  obtain ⟨nM, hnM⟩ : ∃ m, M.length = m := ⟨_, rfl⟩
  rw [hnL, hnM] at hlen
  have HNL := Lib.hid hnL
  have HNM := Lib.hid hnM
  have hsl := lkd_in (c := c) (a := a) (Q := L) (fun o ho => HOI.out o (by simp [ho]))
  rw [hnL] at hsl
  obtain ⟨sL, hsL⟩ : ∃ q, lkd c a L = q := ⟨_, rfl⟩
  obtain ⟨sM, hsM⟩ : ∃ q, lkd c a M = q := ⟨_, rfl⟩
  rw [hsL, hsM] at hr
  rw [hsL] at hsl
  have HSL := Lib.hid hsL
  have HSM := Lib.hid hsM
  have HR := Lib.hid hr
  obtain ⟨sl1, sl2⟩ := hsl
  have x1 := h.e.hd.at (i := 1) rfl
  clear hnL hnM hsL hsM hr
  go_enter Tryz.func95, Tryz.ntmps95
  go_upto_region 2 with (fail)
  refine lock_reg (by intro c a d v w h; cases d <;> exact h) h HNL HNM (by omega) (by omega) x1 ?_
  intro w3 w5 a3 d3 a5 d5 c3 c5 hO3 hO5
  intros
  have hgb := Blk.new w5 [.slice a3 nL d3, .slice a5 nM d5] 67
  have hS3 := (hO3.chg0 c5).chg0 ((Chg.refl [] w5).alloc (.cells #[.slice a3 nL d3, .slice a5 nM d5] 67))
  have hS5 := hO5.chg0 ((Chg.refl [] w5).alloc (.cells #[.slice a3 nL d3, .slice a5 nM d5] 67))
  have HC := Lib.hid ((c3.trans c5).alloc (.cells #[.slice a3 nL d3, .slice a5 nM d5] 67))
  clear h x1 c3 c5 hO3 hO5
  generalize w5.heap.size = gb at *
  generalize w5.alloc _ = Wa at *
  go_wp2_with fail
  go_loopw [7, 26] (fun v i wx => Chg [] Wa wx ∧ ((i = .int .i64 0 ∧ v = .int .u64 0) ∨ (i = .int .i64 1 ∧ v = .int .u64 sL) ∨ (i = .int .i64 2 ∧ v = .int .u64 (sL + sM)))) (fun _ i _ => 2 - (intOf i).toNat)
  case atStart => exact ⟨Chg.refl _ _, .inl ⟨rfl, rfl⟩⟩
  case round =>
    obtain ⟨hch, hcs⟩ := hrel
    rcases hcs with ⟨rfl, rfl⟩ | ⟨rfl, rfl⟩ | ⟨rfl, rfl⟩
    · have c0 := (hgb.chg hch (by simp)).at (i := 0) rfl
      go_wp2_with fail
      go_loopw [7, 32] (fun v i wx => ∃ m : Nat, m ≤ nL ∧ i = .int .i64 m ∧ v = .int .u64 (0 + lkd c a (L.take m)) ∧ Chg [] Wa wx) (fun _ i _ => nL - (intOf i).toNat)
      case atStart => exact ⟨0, by omega, rfl, by simp [lkd, isum], hch⟩
      case round =>
        clear hch c0
        obtain ⟨m, hm, rfl, rfl, hc⟩ := hrel
        by_cases hmt : m < nL
        · have hml : m < L.length := by rw [HNL.out]; exact hmt
          obtain ⟨gq, rfl, hBq, t0, t1, t2, t3, t4⟩ := (hS3.chg0 hc).cells hml
          have htk := lkd_take (c := c) (a := a) hml
          have hin := HOI.out _ (List.mem_append.2 (.inl (getD_mem hml)))
          have hls := lkd_in (c := c) (a := a) (Q := L.take m) (fun z hz => HOI.out z (List.mem_append.2 (.inl (List.mem_of_mem_take hz))))
          rw [List.length_take, Nat.min_eq_left (by omega)] at hls
          generalize L.getD m Ord.zero = o at *
          have hl1 := lk1_in (c := c) (a := a) hin
          obtain ⟨sq, hsq⟩ : ∃ q, lkd c a (L.take m) = q := ⟨_, rfl⟩
          rw [hsq] at htk hls ⊢
          have HTK := Lib.hid htk
          have HIN := Lib.hid hin
          have HLK : Hid (lk1 c a o = if o.client = c ∧ lockA o = a then lockN o else 0) := rfl
          obtain ⟨ls1, ls2⟩ := hls
          obtain ⟨l11, l12⟩ := hl1
          have j1 : (0 : Int) ≤ (m : Int) := by omega
          have j2 : (m : Int) < (nL : Int) := by omega
          have hc1 := hc.alloc (.cells #[.int .i64 o.id, .int .i64 o.client, .bool o.buy, .int .u64 o.price, .int .u64 o.qty] 73)
          have hbx : Blk (wr.alloc (.cells #[.int .i64 o.id, .int .i64 o.client, .bool o.buy, .int .u64 o.price, .int .u64 o.qty] 73)) wr.heap.size 73 (oc o) := Blk.new wr (oc o) 73
          clear hsq htk hin hml hc hBq
          go_upto_region 8 with (fail)
          clear t0 t1 t2 t3 t4
          generalize wr.heap.size = gx at *
          generalize wr.alloc _ = W1 at *
          have y0 := hbx.at (i := 0) rfl
          have y1 := hbx.at (i := 1) rfl
          have y2 := hbx.at (i := 2) rfl
          have y3 := hbx.at (i := 3) rfl
          have y4 := hbx.at (i := 4) rfl
          go_wp2_with fail
          refine (locks_any o HIN.out W1).mono ?_
          rintro e w2 ⟨rfl, c2⟩
          have hb2 := hbx.chg c2 (by simp)
          have hc2 := hc1.trans c2
          clear hbx hc1 c2 y0 y1 y2 y3 y4
          have y1 := hb2.at (i := 1) rfl
          obtain ⟨lA, hlA⟩ : ∃ l, lockA o = l := ⟨_, rfl⟩
          obtain ⟨lN, hlN⟩ : ∃ l, lockN o = l := ⟨_, rfl⟩
          rw [hlA, hlN] at HLK
          rw [hlA, hlN]
          obtain ⟨l1v, hl1v⟩ : ∃ l, lk1 c a o = l := ⟨_, rfl⟩
          rw [hl1v] at HLK HTK l11 l12
          clear hlA hlN hl1v hb2
          by_cases e1 : o.client = c
          · by_cases e2 : lA = a
            · have e3 : l1v = lN := by have := HLK.out; rw [if_pos ⟨e1, e2⟩] at this; exact this
              have d1 : (o.client == c) = true := by simp [e1]
              have d2 : (lA == a) = true := by simp [e2]
              have d1' : decide (o.client = c) = true := by simp [e1]
              have d2' : decide (lA = a) = true := by simp [e2]
              have wq : IntKind.u64.wrap (0 + sq + lN) = 0 + sq + lN := by rw [← e3]; simp [IntKind.wrap, IntKind.bits, IntKind.signed]; omega
              have wq0 : IntKind.u64.wrap (sq + lN) = sq + lN := by rw [← e3]; simp [IntKind.wrap, IntKind.bits, IntKind.signed]; omega
              have E3 := Lib.hid e3
              clear e1 e2 e3
              go_wp2_with fail
              go_roundw
              case rel => exact ⟨m + 1, by omega, by go_num, by rw [HTK.out, E3.out]; simp, hc2⟩
              case measure => simp [intOf]; omega
            · have e3 : l1v = 0 := by have := HLK.out; rw [if_neg (fun z => e2 z.2)] at this; exact this
              have d1 : (o.client == c) = true := by simp [e1]
              have d2 : (lA == a) = false := by simp [e2]
              have d1' : decide (o.client = c) = true := by simp [e1]
              have d2' : decide (lA = a) = false := by simp [e2]
              have E3 := Lib.hid e3
              clear e1 e2 e3
              go_wp2_with fail
              go_roundw
              case rel => exact ⟨m + 1, by omega, by go_num, by rw [HTK.out, E3.out]; simp, hc2⟩
              case measure => simp [intOf]; omega
          · have e3 : l1v = 0 := by have := HLK.out; rw [if_neg (fun z => e1 z.1)] at this; exact this
            have d1 : (o.client == c) = false := by simp [e1]
            have d1' : decide (o.client = c) = false := by simp [e1]
            have E3 := Lib.hid e3
            clear e1 e3
            go_wp2_with fail
            go_roundw
            case rel => exact ⟨m + 1, by omega, by go_num, by rw [HTK.out, E3.out]; simp, hc2⟩
            case measure => simp [intOf]; omega
        · obtain rfl : m = nL := by omega
          have e9 : 0 + lkd c a (L.take m) = sL := by rw [List.take_of_length_le (by rw [HNL.out]; exact Nat.le_refl _)]; rw [HSL.out]; simp
          rw [e9]
          clear e9
          go_wp2_with fail
          go_roundw
          case rel => exact ⟨hc, .inr (.inl ⟨rfl, rfl⟩)⟩
          case measure => simp [intOf]
    · have c0 := (hgb.chg hch (by simp)).at (i := 1) rfl
      go_wp2_with fail
      go_loopw [7, 32] (fun v i wx => ∃ m : Nat, m ≤ nM ∧ i = .int .i64 m ∧ v = .int .u64 (sL + lkd c a (M.take m)) ∧ Chg [] Wa wx) (fun _ i _ => nM - (intOf i).toNat)
      case atStart => exact ⟨0, by omega, rfl, by simp [lkd, isum], hch⟩
      case round =>
        clear hch c0
        obtain ⟨m, hm, rfl, rfl, hc⟩ := hrel
        by_cases hmt : m < nM
        · have hml : m < M.length := by rw [HNM.out]; exact hmt
          obtain ⟨gq, rfl, hBq, t0, t1, t2, t3, t4⟩ := (hS5.chg0 hc).cells hml
          have htk := lkd_take (c := c) (a := a) hml
          have hin := HOI.out _ (List.mem_append.2 (.inr (getD_mem hml)))
          have hls := lkd_in (c := c) (a := a) (Q := M.take m) (fun z hz => HOI.out z (List.mem_append.2 (.inr (List.mem_of_mem_take hz))))
          rw [List.length_take, Nat.min_eq_left (by omega)] at hls
          generalize M.getD m Ord.zero = o at *
          have hl1 := lk1_in (c := c) (a := a) hin
          obtain ⟨sq, hsq⟩ : ∃ q, lkd c a (M.take m) = q := ⟨_, rfl⟩
          rw [hsq] at htk hls ⊢
          have HTK := Lib.hid htk
          have HIN := Lib.hid hin
          have HLK : Hid (lk1 c a o = if o.client = c ∧ lockA o = a then lockN o else 0) := rfl
          obtain ⟨ls1, ls2⟩ := hls
          obtain ⟨l11, l12⟩ := hl1
          have j1 : (0 : Int) ≤ (m : Int) := by omega
          have j2 : (m : Int) < (nM : Int) := by omega
          have hc1 := hc.alloc (.cells #[.int .i64 o.id, .int .i64 o.client, .bool o.buy, .int .u64 o.price, .int .u64 o.qty] 73)
          have hbx : Blk (wr.alloc (.cells #[.int .i64 o.id, .int .i64 o.client, .bool o.buy, .int .u64 o.price, .int .u64 o.qty] 73)) wr.heap.size 73 (oc o) := Blk.new wr (oc o) 73
          clear hsq htk hin hml hc hBq
          go_upto_region 8 with (fail)
          clear t0 t1 t2 t3 t4
          generalize wr.heap.size = gx at *
          generalize wr.alloc _ = W1 at *
          have y0 := hbx.at (i := 0) rfl
          have y1 := hbx.at (i := 1) rfl
          have y2 := hbx.at (i := 2) rfl
          have y3 := hbx.at (i := 3) rfl
          have y4 := hbx.at (i := 4) rfl
          go_wp2_with fail
          refine (locks_any o HIN.out W1).mono ?_
          rintro e w2 ⟨rfl, c2⟩
          have hb2 := hbx.chg c2 (by simp)
          have hc2 := hc1.trans c2
          clear hbx hc1 c2 y0 y1 y2 y3 y4
          have y1 := hb2.at (i := 1) rfl
          obtain ⟨lA, hlA⟩ : ∃ l, lockA o = l := ⟨_, rfl⟩
          obtain ⟨lN, hlN⟩ : ∃ l, lockN o = l := ⟨_, rfl⟩
          rw [hlA, hlN] at HLK
          rw [hlA, hlN]
          obtain ⟨l1v, hl1v⟩ : ∃ l, lk1 c a o = l := ⟨_, rfl⟩
          rw [hl1v] at HLK HTK l11 l12
          clear hlA hlN hl1v hb2
          by_cases e1 : o.client = c
          · by_cases e2 : lA = a
            · have e3 : l1v = lN := by have := HLK.out; rw [if_pos ⟨e1, e2⟩] at this; exact this
              have d1 : (o.client == c) = true := by simp [e1]
              have d2 : (lA == a) = true := by simp [e2]
              have d1' : decide (o.client = c) = true := by simp [e1]
              have d2' : decide (lA = a) = true := by simp [e2]
              have wq : IntKind.u64.wrap (sL + sq + lN) = sL + sq + lN := by rw [← e3]; simp [IntKind.wrap, IntKind.bits, IntKind.signed]; omega
        
              have E3 := Lib.hid e3
              clear e1 e2 e3
              go_wp2_with fail
              go_roundw
              case rel => exact ⟨m + 1, by omega, by go_num, by rw [HTK.out, E3.out]; rw [Int.add_assoc], hc2⟩
              case measure => simp [intOf]; omega
            · have e3 : l1v = 0 := by have := HLK.out; rw [if_neg (fun z => e2 z.2)] at this; exact this
              have d1 : (o.client == c) = true := by simp [e1]
              have d2 : (lA == a) = false := by simp [e2]
              have d1' : decide (o.client = c) = true := by simp [e1]
              have d2' : decide (lA = a) = false := by simp [e2]
              have E3 := Lib.hid e3
              clear e1 e2 e3
              go_wp2_with fail
              go_roundw
              case rel => exact ⟨m + 1, by omega, by go_num, by rw [HTK.out, E3.out]; simp, hc2⟩
              case measure => simp [intOf]; omega
          · have e3 : l1v = 0 := by have := HLK.out; rw [if_neg (fun z => e1 z.1)] at this; exact this
            have d1 : (o.client == c) = false := by simp [e1]
            have d1' : decide (o.client = c) = false := by simp [e1]
            have E3 := Lib.hid e3
            clear e1 e3
            go_wp2_with fail
            go_roundw
            case rel => exact ⟨m + 1, by omega, by go_num, by rw [HTK.out, E3.out]; simp, hc2⟩
            case measure => simp [intOf]; omega
        · obtain rfl : m = nM := by omega
          have e9 : sL + lkd c a (M.take m) = sL + sM := by rw [List.take_of_length_le (by rw [HNM.out]; exact Nat.le_refl _)]; rw [HSM.out]
          rw [e9]
          clear e9
          go_wp2_with fail
          go_roundw
          case rel => exact ⟨hc, .inr (.inr ⟨rfl, rfl⟩)⟩
          case measure => simp [intOf]
    · rw [HR.out]
      go_wp2_with fail
      go_ret
      exact ⟨rfl, HC.out.trans hch⟩
end Go.Proofs.YteabcpmpcbjicaaGreat
