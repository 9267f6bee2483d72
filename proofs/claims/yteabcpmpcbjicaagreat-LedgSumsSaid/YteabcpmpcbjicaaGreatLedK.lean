
import Derived.Test.YteabcpmpcbjicaaGreatLedJ
import Derived.Deep.DrawnRows
import Derived.Deep.RegionHeld3
import Derived.BigQuiet
namespace Go.Proofs.YteabcpmpcbjicaaGreat
set_option linter.unusedVariables false
open Go Go.Proofs Go.RowKit
attribute [local go_sem ↓] Go.wp_at_zero Go.wp_at_succ

/-- A ledger that is made. -/
def LS0 (n : Nat) (xs : List Int) : LS := ⟨xs, fun _ => 0, 0, [], [], 0, zeros n, 0, 0, 0, 0⟩
theorem led_make {w wf : World} {l ab s fb mb x kb ns n : Nat} {F : List Nat} {xs : List Int} (hn : n ≤ 1000)
    (hB : Blk wf l 141 [.pointer (some ⟨ab, 0, none⟩), .pointer (some ⟨fb, 0, none⟩), .pointer (some ⟨x, 0, none⟩), .slice (some ⟨ns, 0, none⟩) n n, .int .u64 0, .int .u64 0, .int .u64 0, .int .u64 0])
    (hX : Exc w wf x ab s kb n F xs [] [] 0) (hF : Fee wf fb mb ab s n xs 0 (fun _ => 0) 0) (hM : Beg wf ns 27 ((zeros n).map (Value.int .u64)))
    (n1 : l ≠ fb ∧ l ≠ mb) (n2 : l ≠ ns) (n3 : fb ≠ ns ∧ mb ≠ ns) (n4 : l ≠ x ∧ fb ≠ x ∧ mb ≠ x ∧ ns ≠ x) (n5 : (l ≠ ab ∧ fb ≠ ab ∧ mb ≠ ab ∧ ns ≠ ab) ∧ (l ≠ s ∧ fb ≠ s ∧ mb ≠ s ∧ ns ≠ s)) (n6 : ∀ z ∈ F, z ≠ l ∧ z ≠ fb ∧ z ≠ mb ∧ z ≠ ns)
    (l1 : w.heap.size ≤ l) (l2 : w.heap.size ≤ fb) (l3 : w.heap.size ≤ mb) (l4 : w.heap.size ≤ ns) : Led w wf l ab s fb mb x kb ns n F 0 (LS0 n xs) := by
  refine ⟨⟨n, Nat.le_refl _, by unfold maxLen; omega, hB⟩, hX, hF, hM, by simp [LS0, zeros], fun z hz => by rw [List.eq_of_mem_replicate hz]; exact ⟨by omega, by omega⟩, ⟨⟨by simp [LS0], by simp [LS0]⟩, ⟨by simp [LS0], by simp [LS0]⟩, ⟨by simp [LS0], by simp [LS0]⟩, ⟨by simp [LS0], by simp [LS0]⟩⟩, ⟨n1.1, n1.2, n2, n3.1, n3.2⟩, fun z hz => ?_⟩
  simp at hz
  rcases hz with rfl | rfl | rfl | rfl
  · exact ⟨fun hm => (n6 _ hm).1 rfl, n4.1, n5.1.1, n5.2.1, l1⟩
  · exact ⟨fun hm => (n6 _ hm).2.1 rfl, n4.2.1, n5.1.2.1, n5.2.2.1, l2⟩
  · exact ⟨fun hm => (n6 _ hm).2.2.1 rfl, n4.2.2.1, n5.1.2.2.1, n5.2.2.2.1, l3⟩
  · exact ⟨fun hm => (n6 _ hm).2.2.2 rfl, n4.2.2.2, n5.1.2.2.2, n5.2.2.2.2, l4⟩
set_option maxRecDepth 1000000 in
set_option maxHeartbeats 8000000 in
theorem new_reg {Q : Exit → Act → World → Prop} {u1 u2 u4 u5 u6 u7 u8 u9 u10 u11 u12 u13 u14 u15 u16 u17 u18 u19 u20 u21 u22 u23 u24 u25 u26 u27 u28 u29 u30 u31 u32 u33 u34 u35 u36 u37 u38 u39 u40 u41 u42 : Value} (hP : ∀ c a d v w, Q (.panic c) (Act.put a d v) w → Q (.panic c) a w) {w W : World} {ab s n : Nat} {xs : List Int} {R : Array Value} (hn : n ≤ 1000) (HA : Hid (Acc W ab s n xs)) (HW : Hid (Chg [] w W)) (lb : w.heap.size ≤ ab) (ls : w.heap.size ≤ s) (HR : Hid (((zeros n).map (Value.int .u64)).toArray = R))
    (hmk : ∀ V : World, (Instr.makeSlice 57 (.int .i64 (n : Int)) (.int .i64 (n : Int))).run Tryz.prog V = .ok (.slice (some ⟨V.heap.size, 0, none⟩) n n) (V.alloc (.cells R 27)))
    (hQ : ∀ (wf : World) (l fb mb x kb ns : Nat) (F : List Nat) (_ : Led w wf l ab s fb mb x kb ns n F 0 (LS0 n xs)) (_ : Chg [] W wf) (x12 x13 x14 x15 x16 x17 x18 x19 x20 : Value), Q .normal ⟨#[.int .i64 (n : Int), u1, u2, .pointer (some ⟨ab, 0, none⟩), .pointer (some ⟨l, 0, none⟩), u5, u6, u7, u8, u9, u10, u11, x12, x13, x14, x15, x16, x17, x18, x19, x20, u21, u22, u23, u24, u25, u26, u27, u28, u29, u30, u31, u32, u33, u34, u35, u36, u37, u38, u39, u40, u41, u42], []⟩ wf) :
    Code.wp Tryz.prog (regionOf Tryz.f25 3) Q ⟨#[.int .i64 (n : Int), u1, u2, .pointer (some ⟨ab, 0, none⟩), u4, u5, u6, u7, u8, u9, u10, u11, u12, u13, u14, u15, u16, u17, u18, u19, u20, u21, u22, u23, u24, u25, u26, u27, u28, u29, u30, u31, u32, u33, u34, u35, u36, u37, u38, u39, u40, u41, u42], []⟩ W := by
  conv => arg 2; whnf
  refine wp_region_any (by kernel_rfl) ?_
  change wpAny _ _ _ _ _ _ _ (World.drew _)
  refine wpAny_take (i := 0) (v := ?_) rfl (by kernel_rfl) (by kernel_rfl) (by kernel_rfl) (fun c a w h => hP c a _ _ w h) (Or.inl ⟨by rfl, ?_⟩) ?_
  rotate_left
  · (intro w; go_simp; (try (with_reducible rfl)))
  change wpAny _ _ _ _ _ _ (Act.put _ (some 12) _) _
  simp only [Act.put, List.setIfInBounds_toArray, List.set_cons_succ, List.set_cons_zero]
  refine wpAny_take (i := 1) (v := ?_) rfl (by kernel_rfl) (by kernel_rfl) (by kernel_rfl) (fun c a w h => hP c a _ _ w h) (Or.inl ⟨by rfl, ?_⟩) ?_
  rotate_left
  · (intro w; go_simp; (try (with_reducible rfl)))
  change wpAny _ _ _ _ _ _ (Act.put _ (some 13) _) _
  simp only [Act.put, List.setIfInBounds_toArray, List.set_cons_succ, List.set_cons_zero]
  refine wpAny_take (i := 3) (v := ?_) rfl (by kernel_rfl) (by kernel_rfl) (by kernel_rfl) (fun c a w h => hP c a _ _ w h) (Or.inl ⟨by rfl, ?_⟩) ?_
  rotate_left
  · (intro w; go_simp; (try (with_reducible rfl)))
  change wpAny _ _ _ _ _ _ (Act.put _ (some 15) _) _
  simp only [Act.put, List.setIfInBounds_toArray, List.set_cons_succ, List.set_cons_zero]
  refine wpAny_take (i := 5) (v := ?_) rfl (by kernel_rfl) (by kernel_rfl) (by kernel_rfl) (fun c a w h => hP c a _ _ w h) (Or.inl ⟨by rfl, ?_⟩) ?_
  rotate_left
  · (intro w; go_simp; (try (with_reducible rfl)))
  change wpAny _ _ _ _ _ _ (Act.put _ (some 17) _) _
  simp only [Act.put, List.setIfInBounds_toArray, List.set_cons_succ, List.set_cons_zero]
  refine wpAny_ready (rs := [2, 6]) (by kernel_rfl) (by simp) (AllReady.cons rfl (fun K hK => ?_) (AllReady.cons rfl (fun K hK => ?_) (AllReady.nil)))
  · skip
    go_simp
    refine (feeNew_any (HA.out.chg ((Chg.refl [] W).drew) (by simp) (by simp))).mono ?_
    rintro e w1 ⟨fb, mb, rfl, hF, cF, lfb, lmb⟩
    have c_1 := ((Chg.refl [] W).drew).trans cF
    have sF := cF.size
    have eF1 := hF.hd.lt
    have eF2 := hF.mp.lt
    go_wp2_with fail
    try (refine hK _ _ ?_)
    try clear hK
    try clear K
    refine wpAny_ready (rs := [4, 6]) (by kernel_rfl) (by simp) (AllReady.cons rfl (fun K hK => ?_) (AllReady.cons rfl (fun K hK => ?_) (AllReady.nil)))
    · skip
      go_simp
      refine (exNewC (w := w) (HA.out.chg (c_1) (by simp) (by simp)) (HW.out.trans (c_1)) lb ls).mono ?_
      rintro e w2 ⟨x, kb, F, rfl, hX, cX, lx, lF⟩
      have c_2 := (c_1).trans cX
      have sX := cX.size
      obtain ⟨eX1, eX2, eX3, eX4, eX5⟩ := hX.lt
      go_wp2_with fail
      try (refine hK _ _ ?_)
      try clear hK
      try clear K
      refine wpAny_ready (rs := [6]) (by kernel_rfl) (by simp) (AllReady.cons rfl (fun K hK => ?_) (AllReady.nil))
      have hM := Blk.new (w2) (zeros n |>.map (Value.int .u64)) 27
      have cM : Chg [] (w2) ((w2).alloc (.cells R 27)) := (Chg.refl _ _).alloc _
      rw [HR.out] at hM
      have c_3 := (c_2).trans cM
      have sM := cM.size
      have eM := hM.lt
      have hns : ∃ z, z = (w2).heap.size := ⟨_, rfl⟩
      go_simp
      refine hK _ _ ?_
      try clear hK
      try clear K
      try simp only [Act.put, List.setIfInBounds_toArray, List.set_cons_succ, List.set_cons_zero]
      refine wpAny_take (i := 7) (v := ?_) rfl (by kernel_rfl) (by kernel_rfl) (by kernel_rfl) (fun c a w h => hP c a _ _ w h) (Or.inl ⟨by rfl, ?_⟩) ?_
      rotate_left
      · (intro w; go_simp; (try (with_reducible rfl)))
      change wpAny _ _ _ _ _ _ (Act.put _ (some 19) _) _
      simp only [Act.put, List.setIfInBounds_toArray, List.set_cons_succ, List.set_cons_zero]
      refine wpAny_ready (rs := [8]) (by kernel_rfl) (by simp) (AllReady.cons rfl (fun K hK => ?_) (AllReady.nil))
      go_simp
      refine hK _ _ ?_
      try clear hK
      try clear K
      try simp only [Act.put, List.setIfInBounds_toArray, List.set_cons_succ, List.set_cons_zero]
      refine wpAny_take (i := 9) (v := ?_) rfl (by kernel_rfl) (by kernel_rfl) (by kernel_rfl) (fun c a w h => hP c a _ _ w h) (Or.inl ⟨by rfl, ?_⟩) ?_
      rotate_left
      · (intro w; go_simp; (try (with_reducible rfl)))
      change wpAny _ _ _ _ _ _ (Act.put _ (some 4) _) _
      simp only [Act.put, List.setIfInBounds_toArray, List.set_cons_succ, List.set_cons_zero]
      refine wpAny_done (by kernel_rfl) ?_ _
      have cl : Chg [] ((w2.alloc (.cells R 27))) ((w2.alloc (.cells R 27)).alloc (.cells #[.pointer (some ⟨ab, 0, none⟩), .pointer (some ⟨fb, 0, none⟩), .pointer (some ⟨x, 0, none⟩), .slice (some ⟨(w2).heap.size, 0, none⟩) n n, .int .u64 0, .int .u64 0, .int .u64 0, .int .u64 0] 141)) := (Chg.refl [] (w2.alloc (.cells R 27))).alloc (.cells #[.pointer (some ⟨ab, 0, none⟩), .pointer (some ⟨fb, 0, none⟩), .pointer (some ⟨x, 0, none⟩), .slice (some ⟨(w2).heap.size, 0, none⟩) n n, .int .u64 0, .int .u64 0, .int .u64 0, .int .u64 0] 141)
      have kF := ((((Chg.refl [] (w1)).trans cX).trans cM).trans ((Chg.refl [] (w2.alloc (.cells R 27))).alloc (.cells #[.pointer (some ⟨ab, 0, none⟩), .pointer (some ⟨fb, 0, none⟩), .pointer (some ⟨x, 0, none⟩), .slice (some ⟨(w2).heap.size, 0, none⟩) n n, .int .u64 0, .int .u64 0, .int .u64 0, .int .u64 0] 141)))
      have kX := (((Chg.refl [] (w2)).trans cM).trans ((Chg.refl [] (w2.alloc (.cells R 27))).alloc (.cells #[.pointer (some ⟨ab, 0, none⟩), .pointer (some ⟨fb, 0, none⟩), .pointer (some ⟨x, 0, none⟩), .slice (some ⟨(w2).heap.size, 0, none⟩) n n, .int .u64 0, .int .u64 0, .int .u64 0, .int .u64 0] 141)))
      have kM := ((Chg.refl [] ((w2.alloc (.cells R 27)))).trans ((Chg.refl [] (w2.alloc (.cells R 27))).alloc (.cells #[.pointer (some ⟨ab, 0, none⟩), .pointer (some ⟨fb, 0, none⟩), .pointer (some ⟨x, 0, none⟩), .slice (some ⟨(w2).heap.size, 0, none⟩) n n, .int .u64 0, .int .u64 0, .int .u64 0, .int .u64 0] 141)))
      have hB : Blk ((w2.alloc (.cells R 27)).alloc (.cells #[.pointer (some ⟨ab, 0, none⟩), .pointer (some ⟨fb, 0, none⟩), .pointer (some ⟨x, 0, none⟩), .slice (some ⟨(w2).heap.size, 0, none⟩) n n, .int .u64 0, .int .u64 0, .int .u64 0, .int .u64 0] 141)) ((w2.alloc (.cells R 27))).heap.size 141 [.pointer (some ⟨ab, 0, none⟩), .pointer (some ⟨fb, 0, none⟩), .pointer (some ⟨x, 0, none⟩), .slice (some ⟨(w2).heap.size, 0, none⟩) n n, .int .u64 0, .int .u64 0, .int .u64 0, .int .u64 0] := Blk.new ((w2.alloc (.cells R 27))) _ _
      have eAll : ((w2.alloc (.cells R 27))).heap.size < ((w2.alloc (.cells R 27)).alloc (.cells #[.pointer (some ⟨ab, 0, none⟩), .pointer (some ⟨fb, 0, none⟩), .pointer (some ⟨x, 0, none⟩), .slice (some ⟨(w2).heap.size, 0, none⟩) n n, .int .u64 0, .int .u64 0, .int .u64 0, .int .u64 0] 141)).heap.size := hB.lt
      have hsz : ((w2.alloc (.cells R 27))).heap.size = (w2).heap.size + 1 := by simp
      rw [hsz] at hB
      have hF2 := hF.chg kF (by simp) (by simp) (by simp) (by simp)
      have hX2 := hX.to kX
      have hM2 := (hM.chg kM (by simp)).beg
      have sB := HW.out.size
      have sW : W.heap.size = W.drew.heap.size := rfl
      have sl := cl.size
      have aA := HA.out.lt
      exact hQ _ _ _ _ _ _ _ _ (led_make hn hB hX2 hF2 hM2 (by omega) (by omega) (by omega) (by omega) (by omega) (fun z hz => by have := lF z hz; have := eX5 z hz; omega) (by omega) (by omega) (by omega) (by omega)) ((c_3).trans cl) _ _ _ _ _ _ _ _ _
    · skip
      have hM := Blk.new (w1) (zeros n |>.map (Value.int .u64)) 27
      have cM : Chg [] (w1) ((w1).alloc (.cells R 27)) := (Chg.refl _ _).alloc _
      rw [HR.out] at hM
      have c_2 := (c_1).trans cM
      have sM := cM.size
      have eM := hM.lt
      have hns : ∃ z, z = (w1).heap.size := ⟨_, rfl⟩
      go_simp
      refine hK _ _ ?_
      try clear hK
      try clear K
      try simp only [Act.put, List.setIfInBounds_toArray, List.set_cons_succ, List.set_cons_zero]
      refine wpAny_ready (rs := [4]) (by kernel_rfl) (by simp) (AllReady.cons rfl (fun K hK => ?_) (AllReady.nil))
      go_simp
      refine (exNewC (w := w) (HA.out.chg (c_2) (by simp) (by simp)) (HW.out.trans (c_2)) lb ls).mono ?_
      rintro e w3 ⟨x, kb, F, rfl, hX, cX, lx, lF⟩
      have c_3 := (c_2).trans cX
      have sX := cX.size
      obtain ⟨eX1, eX2, eX3, eX4, eX5⟩ := hX.lt
      go_wp2_with fail
      try (refine hK _ _ ?_)
      try clear hK
      try clear K
      refine wpAny_take (i := 7) (v := ?_) rfl (by kernel_rfl) (by kernel_rfl) (by kernel_rfl) (fun c a w h => hP c a _ _ w h) (Or.inl ⟨by rfl, ?_⟩) ?_
      rotate_left
      · (intro w; go_simp; (try (with_reducible rfl)))
      change wpAny _ _ _ _ _ _ (Act.put _ (some 19) _) _
      simp only [Act.put, List.setIfInBounds_toArray, List.set_cons_succ, List.set_cons_zero]
      refine wpAny_ready (rs := [8]) (by kernel_rfl) (by simp) (AllReady.cons rfl (fun K hK => ?_) (AllReady.nil))
      go_simp
      refine hK _ _ ?_
      try clear hK
      try clear K
      try simp only [Act.put, List.setIfInBounds_toArray, List.set_cons_succ, List.set_cons_zero]
      refine wpAny_take (i := 9) (v := ?_) rfl (by kernel_rfl) (by kernel_rfl) (by kernel_rfl) (fun c a w h => hP c a _ _ w h) (Or.inl ⟨by rfl, ?_⟩) ?_
      rotate_left
      · (intro w; go_simp; (try (with_reducible rfl)))
      change wpAny _ _ _ _ _ _ (Act.put _ (some 4) _) _
      simp only [Act.put, List.setIfInBounds_toArray, List.set_cons_succ, List.set_cons_zero]
      refine wpAny_done (by kernel_rfl) ?_ _
      have cl : Chg [] (w3) (w3.alloc (.cells #[.pointer (some ⟨ab, 0, none⟩), .pointer (some ⟨fb, 0, none⟩), .pointer (some ⟨x, 0, none⟩), .slice (some ⟨(w1).heap.size, 0, none⟩) n n, .int .u64 0, .int .u64 0, .int .u64 0, .int .u64 0] 141)) := (Chg.refl [] w3).alloc (.cells #[.pointer (some ⟨ab, 0, none⟩), .pointer (some ⟨fb, 0, none⟩), .pointer (some ⟨x, 0, none⟩), .slice (some ⟨(w1).heap.size, 0, none⟩) n n, .int .u64 0, .int .u64 0, .int .u64 0, .int .u64 0] 141)
      have kF := ((((Chg.refl [] (w1)).trans cM).trans cX).trans ((Chg.refl [] w3).alloc (.cells #[.pointer (some ⟨ab, 0, none⟩), .pointer (some ⟨fb, 0, none⟩), .pointer (some ⟨x, 0, none⟩), .slice (some ⟨(w1).heap.size, 0, none⟩) n n, .int .u64 0, .int .u64 0, .int .u64 0, .int .u64 0] 141)))
      have kX := ((Chg.refl [] (w3)).trans ((Chg.refl [] w3).alloc (.cells #[.pointer (some ⟨ab, 0, none⟩), .pointer (some ⟨fb, 0, none⟩), .pointer (some ⟨x, 0, none⟩), .slice (some ⟨(w1).heap.size, 0, none⟩) n n, .int .u64 0, .int .u64 0, .int .u64 0, .int .u64 0] 141)))
      have kM := (((Chg.refl [] ((w1.alloc (.cells R 27)))).trans cX).trans ((Chg.refl [] w3).alloc (.cells #[.pointer (some ⟨ab, 0, none⟩), .pointer (some ⟨fb, 0, none⟩), .pointer (some ⟨x, 0, none⟩), .slice (some ⟨(w1).heap.size, 0, none⟩) n n, .int .u64 0, .int .u64 0, .int .u64 0, .int .u64 0] 141)))
      have hB : Blk (w3.alloc (.cells #[.pointer (some ⟨ab, 0, none⟩), .pointer (some ⟨fb, 0, none⟩), .pointer (some ⟨x, 0, none⟩), .slice (some ⟨(w1).heap.size, 0, none⟩) n n, .int .u64 0, .int .u64 0, .int .u64 0, .int .u64 0] 141)) (w3).heap.size 141 [.pointer (some ⟨ab, 0, none⟩), .pointer (some ⟨fb, 0, none⟩), .pointer (some ⟨x, 0, none⟩), .slice (some ⟨(w1).heap.size, 0, none⟩) n n, .int .u64 0, .int .u64 0, .int .u64 0, .int .u64 0] := Blk.new (w3) _ _
      have eAll : (w3).heap.size < (w3.alloc (.cells #[.pointer (some ⟨ab, 0, none⟩), .pointer (some ⟨fb, 0, none⟩), .pointer (some ⟨x, 0, none⟩), .slice (some ⟨(w1).heap.size, 0, none⟩) n n, .int .u64 0, .int .u64 0, .int .u64 0, .int .u64 0] 141)).heap.size := hB.lt
      have hF2 := hF.chg kF (by simp) (by simp) (by simp) (by simp)
      have hX2 := hX.to kX
      have hM2 := (hM.chg kM (by simp)).beg
      have sB := HW.out.size
      have sW : W.heap.size = W.drew.heap.size := rfl
      have sl := cl.size
      have aA := HA.out.lt
      exact hQ _ _ _ _ _ _ _ _ (led_make hn hB hX2 hF2 hM2 (by omega) (by omega) (by omega) (by omega) (by omega) (fun z hz => by have := lF z hz; have := eX5 z hz; omega) (by omega) (by omega) (by omega) (by omega)) ((c_3).trans cl) _ _ _ _ _ _ _ _ _
  · skip
    have hM := Blk.new (W.drew) (zeros n |>.map (Value.int .u64)) 27
    have cM : Chg [] (W.drew) ((W.drew).alloc (.cells R 27)) := (Chg.refl _ _).alloc _
    rw [HR.out] at hM
    have c_1 := ((Chg.refl [] W).drew).trans cM
    have sM := cM.size
    have eM := hM.lt
    have hns : ∃ z, z = (W.drew).heap.size := ⟨_, rfl⟩
    go_simp
    refine hK _ _ ?_
    try clear hK
    try clear K
    try simp only [Act.put, List.setIfInBounds_toArray, List.set_cons_succ, List.set_cons_zero]
    refine wpAny_ready (rs := [2]) (by kernel_rfl) (by simp) (AllReady.cons rfl (fun K hK => ?_) (AllReady.nil))
    go_simp
    refine (feeNew_any (HA.out.chg (c_1) (by simp) (by simp))).mono ?_
    rintro e w2 ⟨fb, mb, rfl, hF, cF, lfb, lmb⟩
    have c_2 := (c_1).trans cF
    have sF := cF.size
    have eF1 := hF.hd.lt
    have eF2 := hF.mp.lt
    go_wp2_with fail
    try (refine hK _ _ ?_)
    try clear hK
    try clear K
    refine wpAny_ready (rs := [4]) (by kernel_rfl) (by simp) (AllReady.cons rfl (fun K hK => ?_) (AllReady.nil))
    go_simp
    refine (exNewC (w := w) (HA.out.chg (c_2) (by simp) (by simp)) (HW.out.trans (c_2)) lb ls).mono ?_
    rintro e w3 ⟨x, kb, F, rfl, hX, cX, lx, lF⟩
    have c_3 := (c_2).trans cX
    have sX := cX.size
    obtain ⟨eX1, eX2, eX3, eX4, eX5⟩ := hX.lt
    go_wp2_with fail
    try (refine hK _ _ ?_)
    try clear hK
    try clear K
    refine wpAny_take (i := 7) (v := ?_) rfl (by kernel_rfl) (by kernel_rfl) (by kernel_rfl) (fun c a w h => hP c a _ _ w h) (Or.inl ⟨by rfl, ?_⟩) ?_
    rotate_left
    · (intro w; go_simp; (try (with_reducible rfl)))
    change wpAny _ _ _ _ _ _ (Act.put _ (some 19) _) _
    simp only [Act.put, List.setIfInBounds_toArray, List.set_cons_succ, List.set_cons_zero]
    refine wpAny_ready (rs := [8]) (by kernel_rfl) (by simp) (AllReady.cons rfl (fun K hK => ?_) (AllReady.nil))
    go_simp
    refine hK _ _ ?_
    try clear hK
    try clear K
    try simp only [Act.put, List.setIfInBounds_toArray, List.set_cons_succ, List.set_cons_zero]
    refine wpAny_take (i := 9) (v := ?_) rfl (by kernel_rfl) (by kernel_rfl) (by kernel_rfl) (fun c a w h => hP c a _ _ w h) (Or.inl ⟨by rfl, ?_⟩) ?_
    rotate_left
    · (intro w; go_simp; (try (with_reducible rfl)))
    change wpAny _ _ _ _ _ _ (Act.put _ (some 4) _) _
    simp only [Act.put, List.setIfInBounds_toArray, List.set_cons_succ, List.set_cons_zero]
    refine wpAny_done (by kernel_rfl) ?_ _
    have cl : Chg [] (w3) (w3.alloc (.cells #[.pointer (some ⟨ab, 0, none⟩), .pointer (some ⟨fb, 0, none⟩), .pointer (some ⟨x, 0, none⟩), .slice (some ⟨(W.drew).heap.size, 0, none⟩) n n, .int .u64 0, .int .u64 0, .int .u64 0, .int .u64 0] 141)) := (Chg.refl [] w3).alloc (.cells #[.pointer (some ⟨ab, 0, none⟩), .pointer (some ⟨fb, 0, none⟩), .pointer (some ⟨x, 0, none⟩), .slice (some ⟨(W.drew).heap.size, 0, none⟩) n n, .int .u64 0, .int .u64 0, .int .u64 0, .int .u64 0] 141)
    have kF := (((Chg.refl [] (w2)).trans cX).trans ((Chg.refl [] w3).alloc (.cells #[.pointer (some ⟨ab, 0, none⟩), .pointer (some ⟨fb, 0, none⟩), .pointer (some ⟨x, 0, none⟩), .slice (some ⟨(W.drew).heap.size, 0, none⟩) n n, .int .u64 0, .int .u64 0, .int .u64 0, .int .u64 0] 141)))
    have kX := ((Chg.refl [] (w3)).trans ((Chg.refl [] w3).alloc (.cells #[.pointer (some ⟨ab, 0, none⟩), .pointer (some ⟨fb, 0, none⟩), .pointer (some ⟨x, 0, none⟩), .slice (some ⟨(W.drew).heap.size, 0, none⟩) n n, .int .u64 0, .int .u64 0, .int .u64 0, .int .u64 0] 141)))
    have kM := ((((Chg.refl [] ((W.drew.alloc (.cells R 27)))).trans cF).trans cX).trans ((Chg.refl [] w3).alloc (.cells #[.pointer (some ⟨ab, 0, none⟩), .pointer (some ⟨fb, 0, none⟩), .pointer (some ⟨x, 0, none⟩), .slice (some ⟨(W.drew).heap.size, 0, none⟩) n n, .int .u64 0, .int .u64 0, .int .u64 0, .int .u64 0] 141)))
    have hB : Blk (w3.alloc (.cells #[.pointer (some ⟨ab, 0, none⟩), .pointer (some ⟨fb, 0, none⟩), .pointer (some ⟨x, 0, none⟩), .slice (some ⟨(W.drew).heap.size, 0, none⟩) n n, .int .u64 0, .int .u64 0, .int .u64 0, .int .u64 0] 141)) (w3).heap.size 141 [.pointer (some ⟨ab, 0, none⟩), .pointer (some ⟨fb, 0, none⟩), .pointer (some ⟨x, 0, none⟩), .slice (some ⟨(W.drew).heap.size, 0, none⟩) n n, .int .u64 0, .int .u64 0, .int .u64 0, .int .u64 0] := Blk.new (w3) _ _
    have eAll : (w3).heap.size < (w3.alloc (.cells #[.pointer (some ⟨ab, 0, none⟩), .pointer (some ⟨fb, 0, none⟩), .pointer (some ⟨x, 0, none⟩), .slice (some ⟨(W.drew).heap.size, 0, none⟩) n n, .int .u64 0, .int .u64 0, .int .u64 0, .int .u64 0] 141)).heap.size := hB.lt
    have hF2 := hF.chg kF (by simp) (by simp) (by simp) (by simp)
    have hX2 := hX.to kX
    have hM2 := (hM.chg kM (by simp)).beg
    have sB := HW.out.size
    have sW : W.heap.size = W.drew.heap.size := rfl
    have sl := cl.size
    have aA := HA.out.lt
    exact hQ _ _ _ _ _ _ _ _ (led_make hn hB hX2 hF2 hM2 (by omega) (by omega) (by omega) (by omega) (by omega) (fun z hz => by have := lF z hz; have := eX5 z hz; omega) (by omega) (by omega) (by omega) (by omega)) ((c_3).trans cl) _ _ _ _ _ _ _ _ _
end Go.Proofs.YteabcpmpcbjicaaGreat

namespace Go.Proofs.YteabcpmpcbjicaaGreat
set_option linter.unusedVariables false
open Go Go.Proofs Go.RowKit
attribute [local go_sem ↓] Go.wp_at_zero Go.wp_at_succ

def preL (n : Nat) (a : Int) (xs : List Int) : Nat → List Int
  | 0 => xs
  | j + 1 => aPut n (preL n a xs j) (j : Int) a 1000
/-- A new ledger's state. -/
def LS1 (n : Nat) : LS := ⟨preL n 1 (preL n 0 (zeros (n * 2)) n) n, fun _ => 0, 0, [], [], 0, zeros n, (n : Int) * 1000, (n : Int) * 1000, 0, 0⟩
/-- A ledger, by its pointer; F: its blocks; t: how much was done. -/
def LedX (w wr : World) (l n : Nat) (F : List Nat) (S : LS) (t : Nat) : Prop :=
  ∃ ab s fb mb x kb ns F0 m, Led w wr l ab s fb mb x kb ns n F0 m S ∧ F = l :: fb :: mb :: ns :: x :: ab :: s :: F0 ∧ m ≤ 4 * t ∧ S.k ≤ t
theorem LedX.to {w' : World} {w wr : World} {l n : Nat} {F : List Nat} {S : LS} {t : Nat} (h : LedX w wr l n F S t) (c : Chg [] wr w') : LedX w w' l n F S t := by
  obtain ⟨ab, s, fb, mb, x, kb, ns, F0, m, h, e⟩ := h
  exact ⟨ab, s, fb, mb, x, kb, ns, F0, m, h.to c, e⟩
theorem LedX.c {w wr : World} {l n : Nat} {F : List Nat} {S : LS} {t : Nat} (h : LedX w wr l n F S t) : Chg [] w wr := by
  obtain ⟨ab, s, fb, mb, x, kb, ns, F0, m, h, e⟩ := h
  exact h.ex.b.c
theorem LedX.lt {w wr : World} {l n : Nat} {F : List Nat} {S : LS} {t : Nat} (h : LedX w wr l n F S t) : ∀ z ∈ F, w.heap.size ≤ z ∧ z < wr.heap.size := by
  obtain ⟨ab, s, fb, mb, x, kb, ns, F0, m, h, e, e2⟩ := h
  subst e
  obtain ⟨z1, z2, z3, z4⟩ := h.lt
  obtain ⟨y1, y2, y3, y4, y5⟩ := h.ex.lt
  have lo := h.ex.lo
  intro z hz
  simp only [List.mem_cons] at hz
  rcases hz with rfl | rfl | rfl | rfl | rfl | rfl | rfl | hz
  · exact ⟨(h.off _ (by simp)).2.2.2.2, z1⟩
  · exact ⟨(h.off _ (by simp)).2.2.2.2, z2⟩
  · exact ⟨(h.off _ (by simp)).2.2.2.2, z3⟩
  · exact ⟨(h.off _ (by simp)).2.2.2.2, z4⟩
  · exact ⟨lo.1, y1⟩
  · exact ⟨lo.2.1, y2⟩
  · exact ⟨lo.2.2, y3⟩
  · exact ⟨h.ex.b.lo _ hz, y5 _ hz⟩
theorem LedX.aside {w' : World} {T : List Nat} {w wr : World} {l n : Nat} {F : List Nat} {S : LS} {t : Nat} (h : LedX w wr l n F S t) (c : Chg T wr w') (hT : ∀ z ∈ T, z ∉ F ∧ w.heap.size ≤ z) : LedX w w' l n F S t := by
  obtain ⟨ab, s, fb, mb, x, kb, ns, F0, m, h, e, e2⟩ := h
  subst e
  have k : ∀ z, z ∈ l :: fb :: mb :: ns :: x :: ab :: s :: F0 → z ∉ T := fun z hz hm => (hT z hm).1 hz
  refine ⟨ab, s, fb, mb, x, kb, ns, F0, m, ⟨h.hd.imp fun cap e => ⟨e.1, e.2.1, e.2.2.chg c (k _ (by simp))⟩, h.ex.asideL c (fun z hz => ?_), h.fe.chg c (k _ (by simp)) (k _ (by simp)) (k _ (by simp)) (k _ (by simp)), h.nx.chg c (k _ (by simp)), h.nl, h.nu, h.ug, h.ne, h.off⟩, rfl, e2⟩
  have := hT z hz
  simp only [List.mem_cons, not_or] at this
  exact ⟨this.1.2.2.2.2.2.2.2, this.1.2.2.2.2.1, this.1.2.2.2.2.2.1, this.1.2.2.2.2.2.2.1, this.2⟩
theorem lAct_k (n : Nat) (S : LS) (c : Int) (t : Txx) : (lAct n S c t).1.k ≤ S.k + 1 := by
  unfold lAct lDep lWd lTr lLim lNow lCan no
  repeat (first | exact Nat.le_refl _ | exact Nat.le_succ _ | split)
theorem lDo_k (n : Nat) (S : LS) (e : Ent) : (lDo n S e).1.k ≤ S.k + 1 := by
  have h1 : ∀ S : LS, (lDone n S e).1.k ≤ S.k + 1 := fun S => by
    unfold lDone
    split
    · split
      · split
        · exact lAct_k _ _ _ _
        · exact Nat.le_succ _
      · exact Nat.le_succ _
    · exact Nat.le_succ _
  have h2 := h1 (lHeld n S e)
  unfold lDo lEnd
  split
  · exact h2
  · exact h2
theorem lxDo {w wr : World} {l n : Nat} {F : List Nat} {S : LS} {t : Nat} (h : LedX w wr l n F S t) (ht : t ≤ 100000) (e : Ent) (he : e.Ok) (S' : LS) (r : Rcp) (hr : lDo n S e = (S', r)) :
    Calls Tryz.prog 26 #[.pointer (some ⟨l, 0, none⟩), ev e] wr fun y w' => ∃ a cap F', y = .returned (rcv r a r.T.length cap) ∧ NewF tc w' wr.heap.size 99 a r.T ∧ LedX w w' l n F' S' (t + 1) ∧ Chg F wr w' ∧ Grw wr.heap.size F F' := by
  obtain ⟨ab, s, fb, mb, x, kb, ns, F0, m, h, e0, e1, e2⟩ := h
  subst e0
  have hmx : m + 8 < maxLen := by unfold maxLen; omega
  refine (do_any h (by omega) hmx e he).mono ?_
  rintro y w' ⟨a, cap, F', rfl, hN, hL, hC, hG⟩
  have hk := lDo_k n S e
  rw [hr] at hN hL hk ⊢
  refine ⟨a, cap, _, rfl, hN, ⟨ab, s, fb, mb, x, kb, ns, F', m + 4, hL, rfl, by omega, by dsimp only at hk; omega⟩, hC.mono (by intro z hz; simp at hz ⊢; rcases hz with e | e | e | e | e | e | e <;> simp [e]), ?_⟩
  intro z hz
  simp only [List.mem_cons] at hz ⊢
  rcases hz with e | e | e | e | e | e | e | e
  · simp [e]
  · simp [e]
  · simp [e]
  · simp [e]
  · simp [e]
  · simp [e]
  · simp [e]
  · rcases hG z e with e | e
    · simp [e]
    · exact .inr e
/-! What a ledger tells. -/
def lNextV (n : Nat) (S : LS) (c : Int) : Int := if aHas n c = true then S.nx.getD c.toNat 0 else 0
def lGivenV (S : LS) (a : Int) : Int := if aAsset a = true then uW ((if a = 0 then S.g0 else S.g1) - (if a = 0 then S.b0 else S.b1)) else 0
set_option maxRecDepth 100000 in
theorem lxFree {w wr : World} {l n : Nat} {F : List Nat} {S : LS} {t : Nat} (h : LedX w wr l n F S t) (c a r : Int) (hr : aFree n S.xs c a = r) : Calls Tryz.prog 37 #[.pointer (some ⟨l, 0, none⟩), .int .i64 c, .int .i64 a] wr fun y w' => y = .returned (.int .u64 r) ∧ Chg [] wr w' := by
  obtain ⟨ab, s, fb, mb, x, kb, ns, F0, m, h, e0, e1, e2⟩ := h
  obtain ⟨cap, _, _, hd⟩ := h.hd
  have d0 := hd.at (i := 0) rfl
  have HR := Lib.hid hr
  clear hr e0
  go_enter Tryz.func37, Tryz.ntmps37
  go_wp2_with fail
  refine (free_is h.ex.a c a r HR.out).mono ?_
  rintro e w2 ⟨rfl, rfl⟩
  go_wp2_with fail
  go_ret
  exact ⟨rfl, Chg.refl _ _⟩
set_option maxRecDepth 100000 in
theorem lxGot {w wr : World} {l n : Nat} {F : List Nat} {S : LS} {t : Nat} (h : LedX w wr l n F S t) (r : Int) (hr : S.got = r) : Calls Tryz.prog 42 #[.pointer (some ⟨l, 0, none⟩)] wr fun y w' => y = .returned (.int .u64 r) ∧ Chg [] wr w' := by
  obtain ⟨ab, s, fb, mb, x, kb, ns, F0, m, h, e0, e1, e2⟩ := h
  obtain ⟨cap, _, _, hd⟩ := h.hd
  have d0 := hd.at (i := 1) rfl
  have HR := Lib.hid hr
  clear hr e0
  go_enter Tryz.func42, Tryz.ntmps42
  go_wp2_with fail
  refine (got_any h.fe).mono ?_
  rw [HR.out]
  rintro e w2 ⟨rfl, rfl⟩
  go_wp2_with fail
  go_ret
  exact ⟨rfl, Chg.refl _ _⟩
set_option maxRecDepth 100000 in
theorem lxBook {w wr : World} {l n : Nat} {F : List Nat} {S : LS} {t : Nat} (h : LedX w wr l n F S t) : Calls Tryz.prog 39 #[.pointer (some ⟨l, 0, none⟩)] wr fun y w' => ∃ kb FB, y = .returned (.pointer (some ⟨kb, 0, none⟩)) ∧ Chg [] wr w' ∧ BkS w w' FB kb S.L S.M ∧ (∀ z ∈ FB, z ∈ F) := by
  obtain ⟨ab, s, fb, mb, x, kb, ns, F0, m, h, e0, e1, e2⟩ := h
  obtain ⟨cap, _, _, hd⟩ := h.hd
  have d0 := hd.at (i := 2) rfl
  have HE := Lib.hid e0
  clear e0
  go_enter Tryz.func39, Tryz.ntmps39
  go_wp2_with fail
  refine (exBook h.ex).mono ?_
  rintro e w2 ⟨rfl, rfl⟩
  go_wp2_with fail
  go_ret
  exact ⟨kb, F0, rfl, Chg.refl _ _, h.ex.b, fun z hz => by rw [HE.out]; simp [hz]⟩
set_option maxRecDepth 100000 in
theorem lxNext {w wr : World} {l n : Nat} {F : List Nat} {S : LS} {t : Nat} (h : LedX w wr l n F S t) (c r : Int) (hr : lNextV n S c = r) : Calls Tryz.prog 32 #[.pointer (some ⟨l, 0, none⟩), .int .i64 c] wr fun y w' => y = .returned (.int .u64 r) ∧ Chg [] wr w' := by
  obtain ⟨ab, s, fb, mb, x, kb, ns, F0, m, h, e0, e1, e2⟩ := h
  obtain ⟨cap, hc1, hc2, hd⟩ := h.hd
  have d0 := hd.at (i := 0) rfl
  have d3 := hd.at (i := 3) rfl
  clear e0
  obtain ⟨hh, hh0⟩ : ∃ z, aHas n c = z := ⟨_, rfl⟩
  cases hh
  · have hr0 : r = 0 := by rw [← hr]; unfold lNextV; rw [hh0]; rfl
    subst hr0
    have HH := Lib.hid hh0
    clear hh0 hr
    go_enter Tryz.func32, Tryz.ntmps32
    go_wp2_with fail
    refine (has_is h.ex.a c false HH.out).mono ?_
    rintro e w2 ⟨rfl, rfl⟩
    go_wp2_with fail
    go_ret
    exact ⟨rfl, Chg.refl _ _⟩
  · have HH := Lib.hid hh0
    obtain ⟨k, rfl, hk⟩ := aHas_nat hh0
    have hvk : (S.nx.map (Value.int .u64))[k]? = some (.int .u64 r) := by
      have hkl : k < S.nx.length := by rw [h.nl]; exact hk
      rw [← hr]
      unfold lNextV
      rw [hh0]
      simp [List.getD, hkl]
    have hnc := h.nx.at hvk
    have hk1 : (0 : Int) ≤ (k : Int) := by omega
    have hk2 : (k : Int) < (n : Int) := by omega
    clear hh0 hr hvk
    go_enter Tryz.func32, Tryz.ntmps32
    go_wp2_with fail
    refine (has_is h.ex.a (k : Int) true HH.out).mono ?_
    rintro e w2 ⟨rfl, rfl⟩
    go_wp2_with fail
    go_ret
    exact ⟨rfl, Chg.refl _ _⟩
theorem uW_sub (a b : Int) : IntKind.u64.wrap (a - b) = uW (a - b) := uW_wrap _
set_option maxRecDepth 100000 in
theorem lxGiven {w wr : World} {l n : Nat} {F : List Nat} {S : LS} {t : Nat} (h : LedX w wr l n F S t) (a r : Int) (hr : lGivenV S a = r) : Calls Tryz.prog 43 #[.pointer (some ⟨l, 0, none⟩), .int .i64 a] wr fun y w' => y = .returned (.int .u64 r) ∧ Chg [] wr w' := by
  obtain ⟨ab, s, fb, mb, x, kb, ns, F0, m, h, e0, e1, e2⟩ := h
  obtain ⟨cap, hc1, hc2, hd⟩ := h.hd
  have d4 := hd.at (i := 4) rfl
  have d5 := hd.at (i := 5) rfl
  have d6 := hd.at (i := 6) rfl
  have d7 := hd.at (i := 7) rfl
  clear e0
  obtain ⟨hh, hh0⟩ : ∃ z, aAsset a = z := ⟨_, rfl⟩
  have HH := Lib.hid hh0
  cases hh
  · have hr0 : r = 0 := by rw [← hr]; unfold lGivenV; rw [hh0]; rfl
    subst hr0
    clear hh0 hr
    go_enter Tryz.func43, Tryz.ntmps43
    go_wp2_with fail
    refine (asset_any a wr).mono ?_
    rw [HH.out]
    rintro e w2 ⟨rfl, rfl⟩
    go_wp2_with fail
    go_ret
    exact ⟨rfl, Chg.refl _ _⟩
  · have h01 : a = 0 ∨ a = 1 := by unfold aAsset at hh0; simp at hh0; omega
    rcases h01 with rfl | rfl
    · have w1 := uW_sub S.g0 S.b0
      have HR : Hid (uW (S.g0 - S.b0) = r) := by rw [← hr]; rfl
      clear hh0 hr
      go_enter Tryz.func43, Tryz.ntmps43
      go_wp2_with fail
      refine (asset_any 0 wr).mono ?_
      rw [HH.out]
      rintro e w2 ⟨rfl, rfl⟩
      go_upto_region 3 with (fail)
      go_quiet (fail)
      go_wp2_with fail
      go_ret
      exact ⟨ret_int HR.out, (Chg.refl [] _).drewN _⟩
    · have w1 := uW_sub S.g1 S.b1
      have HR : Hid (uW (S.g1 - S.b1) = r) := by rw [← hr]; rfl
      clear hh0 hr
      go_enter Tryz.func43, Tryz.ntmps43
      go_wp2_with fail
      refine (asset_any 1 wr).mono ?_
      rw [HH.out]
      rintro e w2 ⟨rfl, rfl⟩
      go_upto_region 3 with (fail)
      go_quiet (fail)
      go_wp2_with fail
      go_ret
      exact ⟨ret_int HR.out, (Chg.refl [] _).drewN _⟩
end Go.Proofs.YteabcpmpcbjicaaGreat

namespace Go.Proofs.YteabcpmpcbjicaaGreat
set_option linter.unusedVariables false
open Go Go.Proofs Go.RowKit
attribute [local go_sem ↓] Go.wp_at_zero Go.wp_at_succ

theorem Led.s0 {w wr : World} {l ab s fb mb x kb ns n : Nat} {F : List Nat} {m : Nat} {S S' : LS} (h : Led w wr l ab s fb mb x kb ns n F m S) (e : S = S') : Led w wr l ab s fb mb x kb ns n F m S' := e ▸ h
set_option maxRecDepth 100000 in
set_option maxHeartbeats 4000000 in
theorem ledNew (n : Nat) (hn0 : 0 < n) (hn1 : n < 1000) (w : World) : Calls Tryz.prog 25 #[.int .i64 (n : Int)] w fun y w' => ∃ l F, y = .returned (.pointer (some ⟨l, 0, none⟩)) ∧ LedX w w' l n F (LS1 n) 0 := by
  have q1 : IntKind.u64.wrap (n : Int) = (n : Int) := by simp [IntKind.wrap, IntKind.bits, IntKind.signed]; omega
  have q2 : IntKind.u64.wrap ((n : Int) * 1000) = (n : Int) * 1000 := by simp [IntKind.wrap, IntKind.bits, IntKind.signed]; omega
  have HG1 : Hid (U ((n : Int) * 1000)) := ⟨by omega, by omega⟩
  obtain ⟨iu, hi, hz0, hz1, hz2⟩ := info_parts info_u64
  have hmk : ∀ V : World, (Instr.makeSlice 57 (.int .i64 (n : Int)) (.int .i64 (n : Int))).run Tryz.prog V = .ok (.slice (some ⟨V.heap.size, 0, none⟩) n n) (V.alloc (.cells ((zeros n).map (Value.int .u64)).toArray 27)) := by
    intro V
    have := run_make (P := Tryz.prog) (w := V) 57 27 iu (.int .u64 0) Tryz.underlying57 hi hz0 .i64 .i64 (n : Int) (n : Int) (by omega) (by omega) (by rw [hz2]; omega) (by omega)
    rw [this]
    congr 3
    rw [hz1]; apply Array.ext
    · simp [madeCells, zeros]
    · intro i h1 h2; simp [madeCells, zeros, Value.cells, Nat.mod_one]
  have HMK := Lib.hid hmk
  clear hmk
  go_enter Tryz.func25, Tryz.ntmps25
  go_wp2_with fail
  refine (new_is (n : Int) n (zeros (n * 2)) w (by unfold aN; rw [if_neg (by omega), if_pos (by omega)]; simp) rfl).mono ?_
  rintro e w1 ⟨ab, s, rfl, ha1, c1, ls, lb⟩
  go_upto_region 3 with (fail)
  refine new_reg (n := n) (by intro c a d v w h; cases d <;> exact h) (by omega) (Lib.hid ha1) (Lib.hid c1) lb ls (Lib.hid rfl) HMK.out ?_
  intro wf l fb mb x kb ns F h c
  intros
  clear ha1 c1
  have h : Led w wf l ab s fb mb x kb ns n F 0 (⟨zeros (n * 2), fun _ => 0, 0, [], [], 0, zeros n, 0, 0, 0, 0⟩ : LS) := h
  go_wp2_with fail
  go_loopw [21] (fun i wx => ∃ S : LS, Led w wx l ab s fb mb x kb ns n F 0 S ∧ ((i = .int .i64 0 ∧ S = (⟨zeros (n * 2), fun _ => 0, 0, [], [], 0, zeros n, 0, 0, 0, 0⟩ : LS)) ∨ (i = .int .i64 1 ∧ S = (⟨preL n 0 (zeros (n * 2)) n, fun _ => 0, 0, [], [], 0, zeros n, ((n : Int) * 1000), 0, 0, 0⟩ : LS)) ∨ (i = .int .i64 2 ∧ S = (⟨preL n 1 (preL n 0 (zeros (n * 2)) n) n, fun _ => 0, 0, [], [], 0, zeros n, ((n : Int) * 1000), ((n : Int) * 1000), 0, 0⟩ : LS)))) (fun i _ => 2 - (intOf i).toNat)
  case atStart => exact ⟨_, h, .inl ⟨rfl, rfl⟩⟩
  case round =>
    clear h
    obtain ⟨S, h, hcs⟩ := hrel
    rcases hcs with ⟨rfl, rfl⟩ | ⟨rfl, rfl⟩ | ⟨rfl, rfl⟩
    · have j0 : (0 : Int) ≤ (n : Int) := by omega
      go_wp2_with fail
      go_loopw [25] (fun i wx => ∃ j : Nat, j ≤ n ∧ i = .int .i64 j ∧ Led w wx l ab s fb mb x kb ns n F 0 (⟨preL n 0 (zeros (n * 2)) j, fun _ => 0, 0, [], [], 0, zeros n, 0, 0, 0, 0⟩ : LS)) (fun i _ => n - (intOf i).toNat)
      case atStart => exact ⟨0, by omega, rfl, h⟩
      case round =>
        clear h
        obtain ⟨j, hj, rfl, h⟩ := hrel
        by_cases hjn : j < n
        · have j1 : decide ((j : Int) < (n : Int)) = true := by simp; omega
          go_wp2_with fail
          refine (put_is h.ex.a (j : Int) 0 1000 _ _ ⟨by omega, by omega⟩ rfl rfl).mono ?_
          rintro e w8 ⟨rfl, ha8, c8⟩
          have h8 := h.acct ha8 c8
          clear h ha8 c8
          go_wp2_with fail
          go_roundw
          case rel => exact ⟨j + 1, by omega, by go_num, h8⟩
          case measure => simp [intOf]; omega
        · obtain rfl : j = n := by omega
          obtain ⟨cap, hc1, hc2, hd⟩ := h.hd
          have fl := hd.free 4
          have gd := hd.at (i := 4) rfl
          go_upto_region 13 with (fail)
          have cs : Chg [l] wr (wr.setCell ⟨l, 4, none⟩ (.int .u64 ((j : Int) * 1000))) := (Chg.refl _ _).setCell _ _ (by simp)
          have h3 : Led w (wr.setCell ⟨l, 4, none⟩ (.int .u64 ((j : Int) * 1000))) l ab s fb mb x kb ns j F 0 (⟨preL j 0 (zeros (j * 2)) j, fun _ => 0, 0, [], [], 0, zeros j, ((j : Int) * 1000), 0, 0, 0⟩ : LS) := h.own ⟨cap, hc1, hc2, hd.set 4 _⟩ cs ⟨rfl, rfl, rfl, rfl, rfl, rfl, rfl⟩ ⟨HG1.out, h.ug.2⟩
          clear h fl gd cs hd
          generalize wr.setCell _ _ = V at *
          go_wp2_with fail
          go_roundw
          case rel => exact ⟨_, h3, .inr (.inl ⟨rfl, rfl⟩)⟩
          case measure => simp [intOf]
    · have j0 : (0 : Int) ≤ (n : Int) := by omega
      go_wp2_with fail
      go_loopw [25] (fun i wx => ∃ j : Nat, j ≤ n ∧ i = .int .i64 j ∧ Led w wx l ab s fb mb x kb ns n F 0 (⟨preL n 1 (preL n 0 (zeros (n * 2)) n) j, fun _ => 0, 0, [], [], 0, zeros n, ((n : Int) * 1000), 0, 0, 0⟩ : LS)) (fun i _ => n - (intOf i).toNat)
      case atStart => exact ⟨0, by omega, rfl, h⟩
      case round =>
        clear h
        obtain ⟨j, hj, rfl, h⟩ := hrel
        by_cases hjn : j < n
        · have j1 : decide ((j : Int) < (n : Int)) = true := by simp; omega
          go_wp2_with fail
          refine (put_is h.ex.a (j : Int) 1 1000 _ _ ⟨by omega, by omega⟩ rfl rfl).mono ?_
          rintro e w8 ⟨rfl, ha8, c8⟩
          have h8 := h.acct ha8 c8
          clear h ha8 c8
          go_wp2_with fail
          go_roundw
          case rel => exact ⟨j + 1, by omega, by go_num, h8⟩
          case measure => simp [intOf]; omega
        · obtain rfl : j = n := by omega
          obtain ⟨cap, hc1, hc2, hd⟩ := h.hd
          have fl := hd.free 5
          have gd := hd.at (i := 5) rfl
          go_upto_region 13 with (fail)
          have cs : Chg [l] wr (wr.setCell ⟨l, 5, none⟩ (.int .u64 ((j : Int) * 1000))) := (Chg.refl _ _).setCell _ _ (by simp)
          have h3 : Led w (wr.setCell ⟨l, 5, none⟩ (.int .u64 ((j : Int) * 1000))) l ab s fb mb x kb ns j F 0 (⟨preL j 1 (preL j 0 (zeros (j * 2)) j) j, fun _ => 0, 0, [], [], 0, zeros j, ((j : Int) * 1000), ((j : Int) * 1000), 0, 0⟩ : LS) := h.own ⟨cap, hc1, hc2, hd.set 5 _⟩ cs ⟨rfl, rfl, rfl, rfl, rfl, rfl, rfl⟩ ⟨h.ug.1, HG1.out, h.ug.2.2⟩
          clear h fl gd cs hd
          generalize wr.setCell _ _ = V at *
          go_wp2_with fail
          go_roundw
          case rel => exact ⟨_, h3, .inr (.inr ⟨rfl, rfl⟩)⟩
          case measure => simp [intOf]
    · go_wp2_with fail
      go_ret
      exact ⟨l, _, rfl, ab, s, fb, mb, x, kb, ns, F, 0, h, rfl, by omega, Nat.zero_le _⟩
set_option maxRecDepth 100000 in
set_option maxHeartbeats 4000000 in
theorem ledNew0 (w : World) : Calls Tryz.prog 25 #[.int .i64 0] w fun y w' => ∃ l F, y = .returned (.pointer (some ⟨l, 0, none⟩)) ∧ LedX w w' l 0 F (LS1 0) 0 := by
  obtain ⟨iu, hi, hz0, hz1, hz2⟩ := info_parts info_u64
  have hmk : ∀ V : World, (Instr.makeSlice 57 (.int .i64 0) (.int .i64 0)).run Tryz.prog V = .ok (.slice (some ⟨V.heap.size, 0, none⟩) 0 0) (V.alloc (.cells ((zeros 0).map (Value.int .u64)).toArray 27)) := by
    intro V
    have := run_make (P := Tryz.prog) (w := V) 57 27 iu (.int .u64 0) Tryz.underlying57 hi hz0 .i64 .i64 0 0 (by omega) (by omega) (by rw [hz2]; omega) (by omega)
    rw [this]
    congr 3
    rw [hz1]; simp [madeCells, zeros]


  have HMK := Lib.hid hmk
  clear hmk
  go_enter Tryz.func25, Tryz.ntmps25
  go_wp2_with fail
  refine (new_is 0 0 (zeros (0 * 2)) w (by decide) rfl).mono ?_
  rintro e w1 ⟨ab, s, rfl, ha1, c1, ls, lb⟩
  go_upto_region 3 with (fail)
  refine new_reg (n := 0) (by intro c a d v w h; cases d <;> exact h) (by omega) (Lib.hid ha1) (Lib.hid c1) lb ls (Lib.hid rfl) HMK.out ?_
  intro wf l fb mb x kb ns F h c
  intros
  clear ha1 c1
  have h : Led w wf l ab s fb mb x kb ns 0 F 0 (⟨zeros (0 * 2), fun _ => 0, 0, [], [], 0, zeros 0, 0, 0, 0, 0⟩ : LS) := h
  go_wp2_with fail
  go_loopw [21] (fun i wx => ∃ S : LS, Led w wx l ab s fb mb x kb ns 0 F 0 S ∧ ((i = .int .i64 0 ∧ S = (⟨zeros (0 * 2), fun _ => 0, 0, [], [], 0, zeros 0, 0, 0, 0, 0⟩ : LS)) ∨ (i = .int .i64 1 ∧ S = (⟨preL 0 0 (zeros (0 * 2)) 0, fun _ => 0, 0, [], [], 0, zeros 0, 0, 0, 0, 0⟩ : LS)) ∨ (i = .int .i64 2 ∧ S = (⟨preL 0 1 (preL 0 0 (zeros (0 * 2)) 0) 0, fun _ => 0, 0, [], [], 0, zeros 0, 0, 0, 0, 0⟩ : LS)))) (fun i _ => 2 - (intOf i).toNat)
  case atStart => exact ⟨_, h, .inl ⟨rfl, rfl⟩⟩
  case round =>
    clear h
    obtain ⟨S, h, hcs⟩ := hrel
    rcases hcs with ⟨rfl, rfl⟩ | ⟨rfl, rfl⟩ | ⟨rfl, rfl⟩
    · go_wp2_with fail
      go_loopw [25] (fun i wx => i = .int .i64 0 ∧ Led w wx l ab s fb mb x kb ns 0 F 0 (⟨zeros (0 * 2), fun _ => 0, 0, [], [], 0, zeros 0, 0, 0, 0, 0⟩ : LS)) (fun _ _ => 0)
      case atStart => exact ⟨rfl, h⟩
      case round =>
        clear h
        obtain ⟨rfl, h⟩ := hrel
        go_upto_region 12 with (fail)
        obtain ⟨cap, hc1, hc2, hd⟩ := h.hd
        have fl := hd.free 4
        have gd := hd.at (i := 4) rfl
        go_upto_region 13 with (fail)
        have cs : Chg [l] wr (wr.setCell ⟨l, 4, none⟩ (.int .u64 0)) := (Chg.refl _ _).setCell _ _ (by simp)
        have h3 : Led w (wr.setCell ⟨l, 4, none⟩ (.int .u64 0)) l ab s fb mb x kb ns 0 F 0 (⟨preL 0 0 (zeros (0 * 2)) 0, fun _ => 0, 0, [], [], 0, zeros 0, 0, 0, 0, 0⟩ : LS) := h.own ⟨cap, hc1, hc2, hd.set 4 _⟩ cs ⟨rfl, rfl, rfl, rfl, rfl, rfl, rfl⟩ h.ug
        clear h fl gd cs hd
        generalize wr.setCell _ _ = V at *
        go_wp2_with fail
        go_roundw
        case rel => exact ⟨_, h3, .inr (.inl ⟨rfl, rfl⟩)⟩
        case measure => simp [intOf]
    · go_wp2_with fail
      go_loopw [25] (fun i wx => i = .int .i64 0 ∧ Led w wx l ab s fb mb x kb ns 0 F 0 (⟨preL 0 0 (zeros (0 * 2)) 0, fun _ => 0, 0, [], [], 0, zeros 0, 0, 0, 0, 0⟩ : LS)) (fun _ _ => 0)
      case atStart => exact ⟨rfl, h⟩
      case round =>
        clear h
        obtain ⟨rfl, h⟩ := hrel
        go_upto_region 12 with (fail)
        obtain ⟨cap, hc1, hc2, hd⟩ := h.hd
        have fl := hd.free 5
        have gd := hd.at (i := 5) rfl
        go_upto_region 13 with (fail)
        have cs : Chg [l] wr (wr.setCell ⟨l, 5, none⟩ (.int .u64 0)) := (Chg.refl _ _).setCell _ _ (by simp)
        have h3 : Led w (wr.setCell ⟨l, 5, none⟩ (.int .u64 0)) l ab s fb mb x kb ns 0 F 0 (⟨preL 0 1 (preL 0 0 (zeros (0 * 2)) 0) 0, fun _ => 0, 0, [], [], 0, zeros 0, 0, 0, 0, 0⟩ : LS) := h.own ⟨cap, hc1, hc2, hd.set 5 _⟩ cs ⟨rfl, rfl, rfl, rfl, rfl, rfl, rfl⟩ h.ug
        clear h fl gd cs hd
        generalize wr.setCell _ _ = V at *
        go_wp2_with fail
        go_roundw
        case rel => exact ⟨_, h3, .inr (.inr ⟨rfl, rfl⟩)⟩
        case measure => simp [intOf]
    · go_wp2_with fail
      go_ret
      exact ⟨l, _, rfl, ab, s, fb, mb, x, kb, ns, F, 0, h, rfl, by omega, Nat.zero_le _⟩
end Go.Proofs.YteabcpmpcbjicaaGreat
