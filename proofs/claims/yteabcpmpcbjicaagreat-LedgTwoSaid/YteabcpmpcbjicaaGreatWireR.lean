
import Derived.Test.YteabcpmpcbjicaaGreatSidA
import Derived.Deep.DrawnRows
import Derived.Deep.RegionHeld3
import Derived.Deep.RegionLaw
import Derived.Deep.AppendLies
namespace Go.Proofs.YteabcpmpcbjicaaGreat
set_option linter.unusedVariables false
open Go Go.Proofs Go.RowKit
attribute [local go_sem ↓] Go.wp_at_zero Go.wp_at_succ

theorem info_u8 : (Tryz.prog.info? 5).map (fun i => (i.zero, i.size, i.bytes)) = some (some (.int .u8 0), 1, 1) := by kernel_rfl
def bys (l : List Int) : List Value := l.map (Value.int .u8)
/-- A writer: its struct's block g; its row lies behind it. -/
structure Wri (w : World) (g : Nat) (F : List Nat) (l : List Int) : Prop where
  hd : ∃ v, Blk w g 236 [v] ∧ w.ownsRow (g + 1) 5 1 v l.length (bys l) ∧ ∀ k, v.ownBlock = some k → k ∈ F
  inF : g ∈ F
  lo : ∀ z ∈ F, g ≤ z
theorem Wri.lt {w : World} {g : Nat} {F : List Nat} {l : List Int} (h : Wri w g F l) : g < w.heap.size := h.hd.elim fun _ e => e.1.lt
def num8 (n : Int) : List Int := [n / 72057594037927936 % 256, n / 281474976710656 % 256, n / 1099511627776 % 256, n / 4294967296 % 256, n / 16777216 % 256, n / 65536 % 256, n / 256 % 256, n % 256]
set_option maxRecDepth 1000000 in
set_option maxHeartbeats 8000000 in
theorem wnum_reg0 {Q : Exit → Act → World → Prop} {u2 u3 u5 u6 u7 u8 u9 u10 u11 u12 u13 u14 u15 u16 u17 u18 u19 u20 u21 : Value} (hP : ∀ c a d v w, Q (.panic c) (Act.put a d v) w → Q (.panic c) a w) {g m : Nat} {n b : Int} {v : Value} {xs : List Value} {W : World} {i0 : TypeInfo} (hi : Tryz.prog.info? 5 = some i0) (hz0 : i0.zero = some (.int .u8 0)) (hz1 : i0.size = 1) (hz2 : i0.bytes = 1) (hm : m < 1000000000) (hgl : g < W.heap.size) (hb : IntKind.u8.wrap (n / 72057594037927936) = b) (HO : Hid (W.ownsRow (g + 1) 5 1 v m xs)) (hA : ∀ ob, (W.drew.alloc ob).cell? ⟨g, 0, none⟩ = some v) (hFr : ∀ ob, (W.drew.alloc ob).frozen? ⟨g, 0, none⟩ = false) (y0 : W.cell? ⟨g, 0, none⟩ = some v)
    (hQ : ∀ (v1 : Value) (w1 : World) (_ : w1.ownsRow (g + 1) 5 1 v1 (m + 1) (xs ++ [.int .u8 b])) (_ : w1.heap[g]? = W.heap[g]?) (_ : ∀ S : List Nat, (∀ k, v.ownBlock = some k → k ∈ S) → Chg S W w1) (_ : ∀ k, v1.ownBlock = some k → v.ownBlock = some k ∨ W.heap.size ≤ k) (x9 x10 x11 x12 x13 x14 x15 x16 x17 x18 x19 x20 x21 : Value), Q .normal ⟨#[.pointer (some ⟨g, 0, none⟩), .int .u64 n, u2, u3, .int .i64 56, u5, u6, u7, u8, x9, x10, x11, x12, x13, x14, x15, x16, x17, x18, x19, x20, x21], []⟩ (w1.setCell ⟨g, 0, none⟩ v1)) :
    Code.wp Tryz.prog (regionOf Tryz.f107 3) Q ⟨#[.pointer (some ⟨g, 0, none⟩), .int .u64 n, u2, u3, .int .i64 56, u5, u6, u7, u8, u9, u10, u11, u12, u13, u14, u15, u16, u17, u18, u19, u20, u21], []⟩ W := by
  conv => arg 2; whnf
  refine wp_region_any (by kernel_rfl) ?_
  change wpAny _ _ _ _ _ _ _ (World.drew _)
  refine wpAny_take (i := 0) (v := ?_) rfl (by kernel_rfl) (by kernel_rfl) (by kernel_rfl) (fun c a w h => hP c a _ _ w h) (Or.inl ⟨by rfl, ?_⟩) ?_
  rotate_left
  · (intro w; go_simp; (try (with_reducible rfl)))
  change wpAny _ _ _ _ _ _ (Act.put _ (some 9) _) _
  repeat (first | simp only [Act.put] | simp only [List.setIfInBounds_toArray] | simp only [List.set_cons_succ] | simp only [List.set_cons_zero])
  refine wpAny_take (i := 1) (v := ?_) rfl (by kernel_rfl) (by kernel_rfl) (by kernel_rfl) (fun c a w h => hP c a _ _ w h) (Or.inl ⟨by rfl, ?_⟩) ?_
  rotate_left
  · (intro w; go_simp; (try (with_reducible rfl)))
  change wpAny _ _ _ _ _ _ (Act.put _ (some 10) _) _
  repeat (first | simp only [Act.put] | simp only [List.setIfInBounds_toArray] | simp only [List.set_cons_succ] | simp only [List.set_cons_zero])
  refine wpAny_take (i := 2) (v := ?_) rfl (by kernel_rfl) (by kernel_rfl) (by kernel_rfl) (fun c a w h => hP c a _ _ w h) (Or.inl ⟨by rfl, ?_⟩) ?_
  rotate_left
  · (intro w; go_simp; (try (with_reducible rfl)))
  change wpAny _ _ _ _ _ _ (Act.put _ (some 11) _) _
  repeat (first | simp only [Act.put] | simp only [List.setIfInBounds_toArray] | simp only [List.set_cons_succ] | simp only [List.set_cons_zero])
  refine wpAny_take (i := 3) (v := ?_) rfl (by kernel_rfl) (by kernel_rfl) (by kernel_rfl) (fun c a w h => hP c a _ _ w h) (Or.inl ⟨by rfl, ?_⟩) ?_
  rotate_left
  · (intro w; go_simp; (try (with_reducible rfl)))
  change wpAny _ _ _ _ _ _ (Act.put _ (some 12) _) _
  repeat (first | simp only [Act.put] | simp only [List.setIfInBounds_toArray] | simp only [List.set_cons_succ] | simp only [List.set_cons_zero])
  refine wpAny_take (i := 5) (v := ?_) rfl (by kernel_rfl) (by kernel_rfl) (by kernel_rfl) (fun c a w h => hP c a _ _ w h) (Or.inl ⟨by rfl, ?_⟩) ?_
  rotate_left
  · (intro w; go_simp; (try (with_reducible rfl)))
  change wpAny _ _ _ _ _ _ (Act.put _ (some 14) _) _
  repeat (first | simp only [Act.put] | simp only [List.setIfInBounds_toArray] | simp only [List.set_cons_succ] | simp only [List.set_cons_zero])
  refine wpAny_take (i := 6) (v := ?_) rfl (by kernel_rfl) (by kernel_rfl) (by kernel_rfl) (fun c a w h => hP c a _ _ w h) (Or.inl ⟨by rfl, ?_⟩) ?_
  rotate_left
  · (intro w; go_simp; (try (with_reducible rfl)))
  change wpAny _ _ _ _ _ _ (Act.put _ (some 15) _) _
  repeat (first | simp only [Act.put] | simp only [List.setIfInBounds_toArray] | simp only [List.set_cons_succ] | simp only [List.set_cons_zero])
  refine wpAny_take (i := 7) (v := ?_) rfl (by kernel_rfl) (by kernel_rfl) (by kernel_rfl) (fun c a w h => hP c a _ _ w h) (Or.inl ⟨by rfl, ?_⟩) ?_
  rotate_left
  · (intro w; go_simp; (try (with_reducible rfl)))
  change wpAny _ _ _ _ _ _ (Act.put _ (some 16) _) _
  repeat (first | simp only [Act.put] | simp only [List.setIfInBounds_toArray] | simp only [List.set_cons_succ] | simp only [List.set_cons_zero])
  refine wpAny_take (i := 8) (v := ?_) rfl (by kernel_rfl) (by kernel_rfl) (by kernel_rfl) (fun c a w h => hP c a _ _ w h) (Or.inl ⟨by rfl, ?_⟩) ?_
  rotate_left
  · (intro w; go_simp; (try (with_reducible rfl)))
  change wpAny _ _ _ _ _ _ (Act.put _ (some 17) _) _
  repeat (first | simp only [Act.put] | simp only [List.setIfInBounds_toArray] | simp only [List.set_cons_succ] | simp only [List.set_cons_zero])
  refine wpAny_ready (rs := [4, 9]) (by kernel_rfl) (by simp) (AllReady.cons rfl (fun K hK => ?_) (AllReady.cons rfl (fun K hK => ?_) (AllReady.nil)))
  · skip
    go_simp
    refine hK _ _ ?_
    try clear hK
    try clear K
    repeat (first | simp only [Act.put] | simp only [List.setIfInBounds_toArray] | simp only [List.set_cons_succ] | simp only [List.set_cons_zero])
    refine wpAny_ready (rs := [9]) (by kernel_rfl) (by simp) (AllReady.cons rfl (fun K hK => ?_) (AllReady.nil))
    go_simp
    refine hK _ _ ?_
    try clear hK
    try clear K
    repeat (first | simp only [Act.put] | simp only [List.setIfInBounds_toArray] | simp only [List.set_cons_succ] | simp only [List.set_cons_zero])
    refine wpAny_ready (rs := [10]) (by kernel_rfl) (by simp) (AllReady.cons rfl (fun K hK => ?_) (AllReady.nil))
    refine step_append_own _ rfl (.tmp 13) (.tmp 18) 95 rfl (g + 1) 5 i0 (.int .u8 0) 1 1 Tryz.underlying95 hi hz0 hz1 hz2 rfl (by decide) v m xs rfl (((HO.out.drew).alloc _)) ⟨W.heap.size, 0, none⟩ 1 1 [.int .u8 b] rfl rfl (fun j u hj => by first | exact one_new _ _ _ j u hj) (by simp [Value.oneCell']) (by unfold maxLen; omega) (by omega) (by simp; omega) ?_
    intro v1 w1 hown1 hg1 hat1
    obtain ⟨a1, c1, rfl⟩ := own_slice hown1
    have hE1 : w1.heap[g]? = W.heap[g]? := (hg1.block g (by simp; omega) (fun e => by have := own_base HO.out g e.symm; omega)).trans (Below.heap_alloc _ _ _ (by show g < W.heap.size; omega))
    have hS1 : w1.cell? ⟨g, 0, none⟩ = some v := (World.cell?_of_block (hg1.block g (by simp; omega) (fun e => by have := own_base HO.out g e.symm; omega))).trans (hA _)
    have hbl : ∀ S : List Nat, (∀ k, v.ownBlock = some k → k ∈ S) → Chg S W w1 := fun S hS => (((Chg.refl S W).drew).alloc _).grown hg1 (fun k hk => .inl (hS k hk))
    have hat2 : ∀ k, Value.ownBlock (.slice a1 (m + 1) c1) = some k → v.ownBlock = some k ∨ W.heap.size ≤ k := fun k hk => hat1.elim (fun e => .inl (e ▸ hk)) (fun e => .inr (by rw [hk] at e; injection e with e; rw [e]; simp))
    have hf1 : w1.frozen? ⟨g, 0, none⟩ = false := (World.frozen?_of_block (hg1.block g (by simp; omega) (fun e => by have := own_base HO.out g e.symm; omega))).trans (hFr _)
    refine hK _ _ ?_
    try clear hK
    try clear K
    repeat (first | simp only [Act.put] | simp only [List.setIfInBounds_toArray] | simp only [List.set_cons_succ] | simp only [List.set_cons_zero])
    refine wpAny_take (i := 11) (v := ?_) rfl (by kernel_rfl) (by kernel_rfl) (by kernel_rfl) (fun c a w h => hP c a _ _ w h) (Or.inl ⟨by rfl, ?_⟩) ?_
    rotate_left
    · (intro w; go_simp; (try (with_reducible rfl)))
    change wpAny _ _ _ _ _ _ (Act.put _ (some 20) _) _
    repeat (first | simp only [Act.put] | simp only [List.setIfInBounds_toArray] | simp only [List.set_cons_succ] | simp only [List.set_cons_zero])
    refine wpAny_take (i := 12) (v := ?_) rfl (by kernel_rfl) (by kernel_rfl) (by kernel_rfl) (fun c a w h => hP c a _ _ w h) (Or.inl ⟨by rfl, ?_⟩) ?_
    rotate_left
    · (intro w; go_simp; (try (with_reducible rfl)))
    change wpAny _ _ _ _ _ _ (Act.put _ (some 21) _) _
    repeat (first | simp only [Act.put] | simp only [List.setIfInBounds_toArray] | simp only [List.set_cons_succ] | simp only [List.set_cons_zero])
    refine wpAny_ready (rs := [13]) (by kernel_rfl) (by simp) (AllReady.cons rfl (fun K hK => ?_) (AllReady.nil))
    go_simp
    refine hK _ _ ?_
    try clear hK
    try clear K
    repeat (first | simp only [Act.put] | simp only [List.setIfInBounds_toArray] | simp only [List.set_cons_succ] | simp only [List.set_cons_zero])
    refine wpAny_done (by kernel_rfl) ?_ _
    exact hQ _ _ hown1 hE1 hbl hat2 _ _ _ _ _ _ _ _ _ _ _ _ _
  · skip
    go_simp
    refine hK _ _ ?_
    try clear hK
    try clear K
    repeat (first | simp only [Act.put] | simp only [List.setIfInBounds_toArray] | simp only [List.set_cons_succ] | simp only [List.set_cons_zero])
    refine wpAny_ready (rs := [4]) (by kernel_rfl) (by simp) (AllReady.cons rfl (fun K hK => ?_) (AllReady.nil))
    go_simp
    refine hK _ _ ?_
    try clear hK
    try clear K
    repeat (first | simp only [Act.put] | simp only [List.setIfInBounds_toArray] | simp only [List.set_cons_succ] | simp only [List.set_cons_zero])
    refine wpAny_ready (rs := [10]) (by kernel_rfl) (by simp) (AllReady.cons rfl (fun K hK => ?_) (AllReady.nil))
    refine step_append_own _ rfl (.tmp 13) (.tmp 18) 95 rfl (g + 1) 5 i0 (.int .u8 0) 1 1 Tryz.underlying95 hi hz0 hz1 hz2 rfl (by decide) v m xs rfl (((HO.out.drew).alloc _)) ⟨W.heap.size, 0, none⟩ 1 1 [.int .u8 b] rfl rfl (fun j u hj => by first | exact one_new _ _ _ j u hj) (by simp [Value.oneCell']) (by unfold maxLen; omega) (by omega) (by simp; omega) ?_
    intro v1 w1 hown1 hg1 hat1
    obtain ⟨a1, c1, rfl⟩ := own_slice hown1
    have hE1 : w1.heap[g]? = W.heap[g]? := (hg1.block g (by simp; omega) (fun e => by have := own_base HO.out g e.symm; omega)).trans (Below.heap_alloc _ _ _ (by show g < W.heap.size; omega))
    have hS1 : w1.cell? ⟨g, 0, none⟩ = some v := (World.cell?_of_block (hg1.block g (by simp; omega) (fun e => by have := own_base HO.out g e.symm; omega))).trans (hA _)
    have hbl : ∀ S : List Nat, (∀ k, v.ownBlock = some k → k ∈ S) → Chg S W w1 := fun S hS => (((Chg.refl S W).drew).alloc _).grown hg1 (fun k hk => .inl (hS k hk))
    have hat2 : ∀ k, Value.ownBlock (.slice a1 (m + 1) c1) = some k → v.ownBlock = some k ∨ W.heap.size ≤ k := fun k hk => hat1.elim (fun e => .inl (e ▸ hk)) (fun e => .inr (by rw [hk] at e; injection e with e; rw [e]; simp))
    have hf1 : w1.frozen? ⟨g, 0, none⟩ = false := (World.frozen?_of_block (hg1.block g (by simp; omega) (fun e => by have := own_base HO.out g e.symm; omega))).trans (hFr _)
    refine hK _ _ ?_
    try clear hK
    try clear K
    repeat (first | simp only [Act.put] | simp only [List.setIfInBounds_toArray] | simp only [List.set_cons_succ] | simp only [List.set_cons_zero])
    refine wpAny_take (i := 11) (v := ?_) rfl (by kernel_rfl) (by kernel_rfl) (by kernel_rfl) (fun c a w h => hP c a _ _ w h) (Or.inl ⟨by rfl, ?_⟩) ?_
    rotate_left
    · (intro w; go_simp; (try (with_reducible rfl)))
    change wpAny _ _ _ _ _ _ (Act.put _ (some 20) _) _
    repeat (first | simp only [Act.put] | simp only [List.setIfInBounds_toArray] | simp only [List.set_cons_succ] | simp only [List.set_cons_zero])
    refine wpAny_take (i := 12) (v := ?_) rfl (by kernel_rfl) (by kernel_rfl) (by kernel_rfl) (fun c a w h => hP c a _ _ w h) (Or.inl ⟨by rfl, ?_⟩) ?_
    rotate_left
    · (intro w; go_simp; (try (with_reducible rfl)))
    change wpAny _ _ _ _ _ _ (Act.put _ (some 21) _) _
    repeat (first | simp only [Act.put] | simp only [List.setIfInBounds_toArray] | simp only [List.set_cons_succ] | simp only [List.set_cons_zero])
    refine wpAny_ready (rs := [13]) (by kernel_rfl) (by simp) (AllReady.cons rfl (fun K hK => ?_) (AllReady.nil))
    go_simp
    refine hK _ _ ?_
    try clear hK
    try clear K
    repeat (first | simp only [Act.put] | simp only [List.setIfInBounds_toArray] | simp only [List.set_cons_succ] | simp only [List.set_cons_zero])
    refine wpAny_done (by kernel_rfl) ?_ _
    exact hQ _ _ hown1 hE1 hbl hat2 _ _ _ _ _ _ _ _ _ _ _ _ _
set_option maxRecDepth 1000000 in
set_option maxHeartbeats 8000000 in
theorem wnum_reg1 {Q : Exit → Act → World → Prop} {u2 u3 u5 u6 u7 u8 u9 u10 u11 u12 u13 u14 u15 u16 u17 u18 u19 u20 u21 : Value} (hP : ∀ c a d v w, Q (.panic c) (Act.put a d v) w → Q (.panic c) a w) {g m : Nat} {n b : Int} {v : Value} {xs : List Value} {W : World} {i0 : TypeInfo} (hi : Tryz.prog.info? 5 = some i0) (hz0 : i0.zero = some (.int .u8 0)) (hz1 : i0.size = 1) (hz2 : i0.bytes = 1) (hm : m < 1000000000) (hgl : g < W.heap.size) (hb : IntKind.u8.wrap (n / 281474976710656) = b) (HO : Hid (W.ownsRow (g + 1) 5 1 v m xs)) (hA : ∀ ob, (W.drew.alloc ob).cell? ⟨g, 0, none⟩ = some v) (hFr : ∀ ob, (W.drew.alloc ob).frozen? ⟨g, 0, none⟩ = false) (y0 : W.cell? ⟨g, 0, none⟩ = some v)
    (hQ : ∀ (v1 : Value) (w1 : World) (_ : w1.ownsRow (g + 1) 5 1 v1 (m + 1) (xs ++ [.int .u8 b])) (_ : w1.heap[g]? = W.heap[g]?) (_ : ∀ S : List Nat, (∀ k, v.ownBlock = some k → k ∈ S) → Chg S W w1) (_ : ∀ k, v1.ownBlock = some k → v.ownBlock = some k ∨ W.heap.size ≤ k) (x9 x10 x11 x12 x13 x14 x15 x16 x17 x18 x19 x20 x21 : Value), Q .normal ⟨#[.pointer (some ⟨g, 0, none⟩), .int .u64 n, u2, u3, .int .i64 48, u5, u6, u7, u8, x9, x10, x11, x12, x13, x14, x15, x16, x17, x18, x19, x20, x21], []⟩ (w1.setCell ⟨g, 0, none⟩ v1)) :
    Code.wp Tryz.prog (regionOf Tryz.f107 3) Q ⟨#[.pointer (some ⟨g, 0, none⟩), .int .u64 n, u2, u3, .int .i64 48, u5, u6, u7, u8, u9, u10, u11, u12, u13, u14, u15, u16, u17, u18, u19, u20, u21], []⟩ W := by
  conv => arg 2; whnf
  refine wp_region_any (by kernel_rfl) ?_
  change wpAny _ _ _ _ _ _ _ (World.drew _)
  refine wpAny_take (i := 0) (v := ?_) rfl (by kernel_rfl) (by kernel_rfl) (by kernel_rfl) (fun c a w h => hP c a _ _ w h) (Or.inl ⟨by rfl, ?_⟩) ?_
  rotate_left
  · (intro w; go_simp; (try (with_reducible rfl)))
  change wpAny _ _ _ _ _ _ (Act.put _ (some 9) _) _
  repeat (first | simp only [Act.put] | simp only [List.setIfInBounds_toArray] | simp only [List.set_cons_succ] | simp only [List.set_cons_zero])
  refine wpAny_take (i := 1) (v := ?_) rfl (by kernel_rfl) (by kernel_rfl) (by kernel_rfl) (fun c a w h => hP c a _ _ w h) (Or.inl ⟨by rfl, ?_⟩) ?_
  rotate_left
  · (intro w; go_simp; (try (with_reducible rfl)))
  change wpAny _ _ _ _ _ _ (Act.put _ (some 10) _) _
  repeat (first | simp only [Act.put] | simp only [List.setIfInBounds_toArray] | simp only [List.set_cons_succ] | simp only [List.set_cons_zero])
  refine wpAny_take (i := 2) (v := ?_) rfl (by kernel_rfl) (by kernel_rfl) (by kernel_rfl) (fun c a w h => hP c a _ _ w h) (Or.inl ⟨by rfl, ?_⟩) ?_
  rotate_left
  · (intro w; go_simp; (try (with_reducible rfl)))
  change wpAny _ _ _ _ _ _ (Act.put _ (some 11) _) _
  repeat (first | simp only [Act.put] | simp only [List.setIfInBounds_toArray] | simp only [List.set_cons_succ] | simp only [List.set_cons_zero])
  refine wpAny_take (i := 3) (v := ?_) rfl (by kernel_rfl) (by kernel_rfl) (by kernel_rfl) (fun c a w h => hP c a _ _ w h) (Or.inl ⟨by rfl, ?_⟩) ?_
  rotate_left
  · (intro w; go_simp; (try (with_reducible rfl)))
  change wpAny _ _ _ _ _ _ (Act.put _ (some 12) _) _
  repeat (first | simp only [Act.put] | simp only [List.setIfInBounds_toArray] | simp only [List.set_cons_succ] | simp only [List.set_cons_zero])
  refine wpAny_take (i := 5) (v := ?_) rfl (by kernel_rfl) (by kernel_rfl) (by kernel_rfl) (fun c a w h => hP c a _ _ w h) (Or.inl ⟨by rfl, ?_⟩) ?_
  rotate_left
  · (intro w; go_simp; (try (with_reducible rfl)))
  change wpAny _ _ _ _ _ _ (Act.put _ (some 14) _) _
  repeat (first | simp only [Act.put] | simp only [List.setIfInBounds_toArray] | simp only [List.set_cons_succ] | simp only [List.set_cons_zero])
  refine wpAny_take (i := 6) (v := ?_) rfl (by kernel_rfl) (by kernel_rfl) (by kernel_rfl) (fun c a w h => hP c a _ _ w h) (Or.inl ⟨by rfl, ?_⟩) ?_
  rotate_left
  · (intro w; go_simp; (try (with_reducible rfl)))
  change wpAny _ _ _ _ _ _ (Act.put _ (some 15) _) _
  repeat (first | simp only [Act.put] | simp only [List.setIfInBounds_toArray] | simp only [List.set_cons_succ] | simp only [List.set_cons_zero])
  refine wpAny_take (i := 7) (v := ?_) rfl (by kernel_rfl) (by kernel_rfl) (by kernel_rfl) (fun c a w h => hP c a _ _ w h) (Or.inl ⟨by rfl, ?_⟩) ?_
  rotate_left
  · (intro w; go_simp; (try (with_reducible rfl)))
  change wpAny _ _ _ _ _ _ (Act.put _ (some 16) _) _
  repeat (first | simp only [Act.put] | simp only [List.setIfInBounds_toArray] | simp only [List.set_cons_succ] | simp only [List.set_cons_zero])
  refine wpAny_take (i := 8) (v := ?_) rfl (by kernel_rfl) (by kernel_rfl) (by kernel_rfl) (fun c a w h => hP c a _ _ w h) (Or.inl ⟨by rfl, ?_⟩) ?_
  rotate_left
  · (intro w; go_simp; (try (with_reducible rfl)))
  change wpAny _ _ _ _ _ _ (Act.put _ (some 17) _) _
  repeat (first | simp only [Act.put] | simp only [List.setIfInBounds_toArray] | simp only [List.set_cons_succ] | simp only [List.set_cons_zero])
  refine wpAny_ready (rs := [4, 9]) (by kernel_rfl) (by simp) (AllReady.cons rfl (fun K hK => ?_) (AllReady.cons rfl (fun K hK => ?_) (AllReady.nil)))
  · skip
    go_simp
    refine hK _ _ ?_
    try clear hK
    try clear K
    repeat (first | simp only [Act.put] | simp only [List.setIfInBounds_toArray] | simp only [List.set_cons_succ] | simp only [List.set_cons_zero])
    refine wpAny_ready (rs := [9]) (by kernel_rfl) (by simp) (AllReady.cons rfl (fun K hK => ?_) (AllReady.nil))
    go_simp
    refine hK _ _ ?_
    try clear hK
    try clear K
    repeat (first | simp only [Act.put] | simp only [List.setIfInBounds_toArray] | simp only [List.set_cons_succ] | simp only [List.set_cons_zero])
    refine wpAny_ready (rs := [10]) (by kernel_rfl) (by simp) (AllReady.cons rfl (fun K hK => ?_) (AllReady.nil))
    refine step_append_own _ rfl (.tmp 13) (.tmp 18) 95 rfl (g + 1) 5 i0 (.int .u8 0) 1 1 Tryz.underlying95 hi hz0 hz1 hz2 rfl (by decide) v m xs rfl (((HO.out.drew).alloc _)) ⟨W.heap.size, 0, none⟩ 1 1 [.int .u8 b] rfl rfl (fun j u hj => by first | exact one_new _ _ _ j u hj) (by simp [Value.oneCell']) (by unfold maxLen; omega) (by omega) (by simp; omega) ?_
    intro v1 w1 hown1 hg1 hat1
    obtain ⟨a1, c1, rfl⟩ := own_slice hown1
    have hE1 : w1.heap[g]? = W.heap[g]? := (hg1.block g (by simp; omega) (fun e => by have := own_base HO.out g e.symm; omega)).trans (Below.heap_alloc _ _ _ (by show g < W.heap.size; omega))
    have hS1 : w1.cell? ⟨g, 0, none⟩ = some v := (World.cell?_of_block (hg1.block g (by simp; omega) (fun e => by have := own_base HO.out g e.symm; omega))).trans (hA _)
    have hbl : ∀ S : List Nat, (∀ k, v.ownBlock = some k → k ∈ S) → Chg S W w1 := fun S hS => (((Chg.refl S W).drew).alloc _).grown hg1 (fun k hk => .inl (hS k hk))
    have hat2 : ∀ k, Value.ownBlock (.slice a1 (m + 1) c1) = some k → v.ownBlock = some k ∨ W.heap.size ≤ k := fun k hk => hat1.elim (fun e => .inl (e ▸ hk)) (fun e => .inr (by rw [hk] at e; injection e with e; rw [e]; simp))
    have hf1 : w1.frozen? ⟨g, 0, none⟩ = false := (World.frozen?_of_block (hg1.block g (by simp; omega) (fun e => by have := own_base HO.out g e.symm; omega))).trans (hFr _)
    refine hK _ _ ?_
    try clear hK
    try clear K
    repeat (first | simp only [Act.put] | simp only [List.setIfInBounds_toArray] | simp only [List.set_cons_succ] | simp only [List.set_cons_zero])
    refine wpAny_take (i := 11) (v := ?_) rfl (by kernel_rfl) (by kernel_rfl) (by kernel_rfl) (fun c a w h => hP c a _ _ w h) (Or.inl ⟨by rfl, ?_⟩) ?_
    rotate_left
    · (intro w; go_simp; (try (with_reducible rfl)))
    change wpAny _ _ _ _ _ _ (Act.put _ (some 20) _) _
    repeat (first | simp only [Act.put] | simp only [List.setIfInBounds_toArray] | simp only [List.set_cons_succ] | simp only [List.set_cons_zero])
    refine wpAny_take (i := 12) (v := ?_) rfl (by kernel_rfl) (by kernel_rfl) (by kernel_rfl) (fun c a w h => hP c a _ _ w h) (Or.inl ⟨by rfl, ?_⟩) ?_
    rotate_left
    · (intro w; go_simp; (try (with_reducible rfl)))
    change wpAny _ _ _ _ _ _ (Act.put _ (some 21) _) _
    repeat (first | simp only [Act.put] | simp only [List.setIfInBounds_toArray] | simp only [List.set_cons_succ] | simp only [List.set_cons_zero])
    refine wpAny_ready (rs := [13]) (by kernel_rfl) (by simp) (AllReady.cons rfl (fun K hK => ?_) (AllReady.nil))
    go_simp
    refine hK _ _ ?_
    try clear hK
    try clear K
    repeat (first | simp only [Act.put] | simp only [List.setIfInBounds_toArray] | simp only [List.set_cons_succ] | simp only [List.set_cons_zero])
    refine wpAny_done (by kernel_rfl) ?_ _
    exact hQ _ _ hown1 hE1 hbl hat2 _ _ _ _ _ _ _ _ _ _ _ _ _
  · skip
    go_simp
    refine hK _ _ ?_
    try clear hK
    try clear K
    repeat (first | simp only [Act.put] | simp only [List.setIfInBounds_toArray] | simp only [List.set_cons_succ] | simp only [List.set_cons_zero])
    refine wpAny_ready (rs := [4]) (by kernel_rfl) (by simp) (AllReady.cons rfl (fun K hK => ?_) (AllReady.nil))
    go_simp
    refine hK _ _ ?_
    try clear hK
    try clear K
    repeat (first | simp only [Act.put] | simp only [List.setIfInBounds_toArray] | simp only [List.set_cons_succ] | simp only [List.set_cons_zero])
    refine wpAny_ready (rs := [10]) (by kernel_rfl) (by simp) (AllReady.cons rfl (fun K hK => ?_) (AllReady.nil))
    refine step_append_own _ rfl (.tmp 13) (.tmp 18) 95 rfl (g + 1) 5 i0 (.int .u8 0) 1 1 Tryz.underlying95 hi hz0 hz1 hz2 rfl (by decide) v m xs rfl (((HO.out.drew).alloc _)) ⟨W.heap.size, 0, none⟩ 1 1 [.int .u8 b] rfl rfl (fun j u hj => by first | exact one_new _ _ _ j u hj) (by simp [Value.oneCell']) (by unfold maxLen; omega) (by omega) (by simp; omega) ?_
    intro v1 w1 hown1 hg1 hat1
    obtain ⟨a1, c1, rfl⟩ := own_slice hown1
    have hE1 : w1.heap[g]? = W.heap[g]? := (hg1.block g (by simp; omega) (fun e => by have := own_base HO.out g e.symm; omega)).trans (Below.heap_alloc _ _ _ (by show g < W.heap.size; omega))
    have hS1 : w1.cell? ⟨g, 0, none⟩ = some v := (World.cell?_of_block (hg1.block g (by simp; omega) (fun e => by have := own_base HO.out g e.symm; omega))).trans (hA _)
    have hbl : ∀ S : List Nat, (∀ k, v.ownBlock = some k → k ∈ S) → Chg S W w1 := fun S hS => (((Chg.refl S W).drew).alloc _).grown hg1 (fun k hk => .inl (hS k hk))
    have hat2 : ∀ k, Value.ownBlock (.slice a1 (m + 1) c1) = some k → v.ownBlock = some k ∨ W.heap.size ≤ k := fun k hk => hat1.elim (fun e => .inl (e ▸ hk)) (fun e => .inr (by rw [hk] at e; injection e with e; rw [e]; simp))
    have hf1 : w1.frozen? ⟨g, 0, none⟩ = false := (World.frozen?_of_block (hg1.block g (by simp; omega) (fun e => by have := own_base HO.out g e.symm; omega))).trans (hFr _)
    refine hK _ _ ?_
    try clear hK
    try clear K
    repeat (first | simp only [Act.put] | simp only [List.setIfInBounds_toArray] | simp only [List.set_cons_succ] | simp only [List.set_cons_zero])
    refine wpAny_take (i := 11) (v := ?_) rfl (by kernel_rfl) (by kernel_rfl) (by kernel_rfl) (fun c a w h => hP c a _ _ w h) (Or.inl ⟨by rfl, ?_⟩) ?_
    rotate_left
    · (intro w; go_simp; (try (with_reducible rfl)))
    change wpAny _ _ _ _ _ _ (Act.put _ (some 20) _) _
    repeat (first | simp only [Act.put] | simp only [List.setIfInBounds_toArray] | simp only [List.set_cons_succ] | simp only [List.set_cons_zero])
    refine wpAny_take (i := 12) (v := ?_) rfl (by kernel_rfl) (by kernel_rfl) (by kernel_rfl) (fun c a w h => hP c a _ _ w h) (Or.inl ⟨by rfl, ?_⟩) ?_
    rotate_left
    · (intro w; go_simp; (try (with_reducible rfl)))
    change wpAny _ _ _ _ _ _ (Act.put _ (some 21) _) _
    repeat (first | simp only [Act.put] | simp only [List.setIfInBounds_toArray] | simp only [List.set_cons_succ] | simp only [List.set_cons_zero])
    refine wpAny_ready (rs := [13]) (by kernel_rfl) (by simp) (AllReady.cons rfl (fun K hK => ?_) (AllReady.nil))
    go_simp
    refine hK _ _ ?_
    try clear hK
    try clear K
    repeat (first | simp only [Act.put] | simp only [List.setIfInBounds_toArray] | simp only [List.set_cons_succ] | simp only [List.set_cons_zero])
    refine wpAny_done (by kernel_rfl) ?_ _
    exact hQ _ _ hown1 hE1 hbl hat2 _ _ _ _ _ _ _ _ _ _ _ _ _
set_option maxRecDepth 1000000 in
set_option maxHeartbeats 8000000 in
theorem wnum_reg2 {Q : Exit → Act → World → Prop} {u2 u3 u5 u6 u7 u8 u9 u10 u11 u12 u13 u14 u15 u16 u17 u18 u19 u20 u21 : Value} (hP : ∀ c a d v w, Q (.panic c) (Act.put a d v) w → Q (.panic c) a w) {g m : Nat} {n b : Int} {v : Value} {xs : List Value} {W : World} {i0 : TypeInfo} (hi : Tryz.prog.info? 5 = some i0) (hz0 : i0.zero = some (.int .u8 0)) (hz1 : i0.size = 1) (hz2 : i0.bytes = 1) (hm : m < 1000000000) (hgl : g < W.heap.size) (hb : IntKind.u8.wrap (n / 1099511627776) = b) (HO : Hid (W.ownsRow (g + 1) 5 1 v m xs)) (hA : ∀ ob, (W.drew.alloc ob).cell? ⟨g, 0, none⟩ = some v) (hFr : ∀ ob, (W.drew.alloc ob).frozen? ⟨g, 0, none⟩ = false) (y0 : W.cell? ⟨g, 0, none⟩ = some v)
    (hQ : ∀ (v1 : Value) (w1 : World) (_ : w1.ownsRow (g + 1) 5 1 v1 (m + 1) (xs ++ [.int .u8 b])) (_ : w1.heap[g]? = W.heap[g]?) (_ : ∀ S : List Nat, (∀ k, v.ownBlock = some k → k ∈ S) → Chg S W w1) (_ : ∀ k, v1.ownBlock = some k → v.ownBlock = some k ∨ W.heap.size ≤ k) (x9 x10 x11 x12 x13 x14 x15 x16 x17 x18 x19 x20 x21 : Value), Q .normal ⟨#[.pointer (some ⟨g, 0, none⟩), .int .u64 n, u2, u3, .int .i64 40, u5, u6, u7, u8, x9, x10, x11, x12, x13, x14, x15, x16, x17, x18, x19, x20, x21], []⟩ (w1.setCell ⟨g, 0, none⟩ v1)) :
    Code.wp Tryz.prog (regionOf Tryz.f107 3) Q ⟨#[.pointer (some ⟨g, 0, none⟩), .int .u64 n, u2, u3, .int .i64 40, u5, u6, u7, u8, u9, u10, u11, u12, u13, u14, u15, u16, u17, u18, u19, u20, u21], []⟩ W := by
  conv => arg 2; whnf
  refine wp_region_any (by kernel_rfl) ?_
  change wpAny _ _ _ _ _ _ _ (World.drew _)
  refine wpAny_take (i := 0) (v := ?_) rfl (by kernel_rfl) (by kernel_rfl) (by kernel_rfl) (fun c a w h => hP c a _ _ w h) (Or.inl ⟨by rfl, ?_⟩) ?_
  rotate_left
  · (intro w; go_simp; (try (with_reducible rfl)))
  change wpAny _ _ _ _ _ _ (Act.put _ (some 9) _) _
  repeat (first | simp only [Act.put] | simp only [List.setIfInBounds_toArray] | simp only [List.set_cons_succ] | simp only [List.set_cons_zero])
  refine wpAny_take (i := 1) (v := ?_) rfl (by kernel_rfl) (by kernel_rfl) (by kernel_rfl) (fun c a w h => hP c a _ _ w h) (Or.inl ⟨by rfl, ?_⟩) ?_
  rotate_left
  · (intro w; go_simp; (try (with_reducible rfl)))
  change wpAny _ _ _ _ _ _ (Act.put _ (some 10) _) _
  repeat (first | simp only [Act.put] | simp only [List.setIfInBounds_toArray] | simp only [List.set_cons_succ] | simp only [List.set_cons_zero])
  refine wpAny_take (i := 2) (v := ?_) rfl (by kernel_rfl) (by kernel_rfl) (by kernel_rfl) (fun c a w h => hP c a _ _ w h) (Or.inl ⟨by rfl, ?_⟩) ?_
  rotate_left
  · (intro w; go_simp; (try (with_reducible rfl)))
  change wpAny _ _ _ _ _ _ (Act.put _ (some 11) _) _
  repeat (first | simp only [Act.put] | simp only [List.setIfInBounds_toArray] | simp only [List.set_cons_succ] | simp only [List.set_cons_zero])
  refine wpAny_take (i := 3) (v := ?_) rfl (by kernel_rfl) (by kernel_rfl) (by kernel_rfl) (fun c a w h => hP c a _ _ w h) (Or.inl ⟨by rfl, ?_⟩) ?_
  rotate_left
  · (intro w; go_simp; (try (with_reducible rfl)))
  change wpAny _ _ _ _ _ _ (Act.put _ (some 12) _) _
  repeat (first | simp only [Act.put] | simp only [List.setIfInBounds_toArray] | simp only [List.set_cons_succ] | simp only [List.set_cons_zero])
  refine wpAny_take (i := 5) (v := ?_) rfl (by kernel_rfl) (by kernel_rfl) (by kernel_rfl) (fun c a w h => hP c a _ _ w h) (Or.inl ⟨by rfl, ?_⟩) ?_
  rotate_left
  · (intro w; go_simp; (try (with_reducible rfl)))
  change wpAny _ _ _ _ _ _ (Act.put _ (some 14) _) _
  repeat (first | simp only [Act.put] | simp only [List.setIfInBounds_toArray] | simp only [List.set_cons_succ] | simp only [List.set_cons_zero])
  refine wpAny_take (i := 6) (v := ?_) rfl (by kernel_rfl) (by kernel_rfl) (by kernel_rfl) (fun c a w h => hP c a _ _ w h) (Or.inl ⟨by rfl, ?_⟩) ?_
  rotate_left
  · (intro w; go_simp; (try (with_reducible rfl)))
  change wpAny _ _ _ _ _ _ (Act.put _ (some 15) _) _
  repeat (first | simp only [Act.put] | simp only [List.setIfInBounds_toArray] | simp only [List.set_cons_succ] | simp only [List.set_cons_zero])
  refine wpAny_take (i := 7) (v := ?_) rfl (by kernel_rfl) (by kernel_rfl) (by kernel_rfl) (fun c a w h => hP c a _ _ w h) (Or.inl ⟨by rfl, ?_⟩) ?_
  rotate_left
  · (intro w; go_simp; (try (with_reducible rfl)))
  change wpAny _ _ _ _ _ _ (Act.put _ (some 16) _) _
  repeat (first | simp only [Act.put] | simp only [List.setIfInBounds_toArray] | simp only [List.set_cons_succ] | simp only [List.set_cons_zero])
  refine wpAny_take (i := 8) (v := ?_) rfl (by kernel_rfl) (by kernel_rfl) (by kernel_rfl) (fun c a w h => hP c a _ _ w h) (Or.inl ⟨by rfl, ?_⟩) ?_
  rotate_left
  · (intro w; go_simp; (try (with_reducible rfl)))
  change wpAny _ _ _ _ _ _ (Act.put _ (some 17) _) _
  repeat (first | simp only [Act.put] | simp only [List.setIfInBounds_toArray] | simp only [List.set_cons_succ] | simp only [List.set_cons_zero])
  refine wpAny_ready (rs := [4, 9]) (by kernel_rfl) (by simp) (AllReady.cons rfl (fun K hK => ?_) (AllReady.cons rfl (fun K hK => ?_) (AllReady.nil)))
  · skip
    go_simp
    refine hK _ _ ?_
    try clear hK
    try clear K
    repeat (first | simp only [Act.put] | simp only [List.setIfInBounds_toArray] | simp only [List.set_cons_succ] | simp only [List.set_cons_zero])
    refine wpAny_ready (rs := [9]) (by kernel_rfl) (by simp) (AllReady.cons rfl (fun K hK => ?_) (AllReady.nil))
    go_simp
    refine hK _ _ ?_
    try clear hK
    try clear K
    repeat (first | simp only [Act.put] | simp only [List.setIfInBounds_toArray] | simp only [List.set_cons_succ] | simp only [List.set_cons_zero])
    refine wpAny_ready (rs := [10]) (by kernel_rfl) (by simp) (AllReady.cons rfl (fun K hK => ?_) (AllReady.nil))
    refine step_append_own _ rfl (.tmp 13) (.tmp 18) 95 rfl (g + 1) 5 i0 (.int .u8 0) 1 1 Tryz.underlying95 hi hz0 hz1 hz2 rfl (by decide) v m xs rfl (((HO.out.drew).alloc _)) ⟨W.heap.size, 0, none⟩ 1 1 [.int .u8 b] rfl rfl (fun j u hj => by first | exact one_new _ _ _ j u hj) (by simp [Value.oneCell']) (by unfold maxLen; omega) (by omega) (by simp; omega) ?_
    intro v1 w1 hown1 hg1 hat1
    obtain ⟨a1, c1, rfl⟩ := own_slice hown1
    have hE1 : w1.heap[g]? = W.heap[g]? := (hg1.block g (by simp; omega) (fun e => by have := own_base HO.out g e.symm; omega)).trans (Below.heap_alloc _ _ _ (by show g < W.heap.size; omega))
    have hS1 : w1.cell? ⟨g, 0, none⟩ = some v := (World.cell?_of_block (hg1.block g (by simp; omega) (fun e => by have := own_base HO.out g e.symm; omega))).trans (hA _)
    have hbl : ∀ S : List Nat, (∀ k, v.ownBlock = some k → k ∈ S) → Chg S W w1 := fun S hS => (((Chg.refl S W).drew).alloc _).grown hg1 (fun k hk => .inl (hS k hk))
    have hat2 : ∀ k, Value.ownBlock (.slice a1 (m + 1) c1) = some k → v.ownBlock = some k ∨ W.heap.size ≤ k := fun k hk => hat1.elim (fun e => .inl (e ▸ hk)) (fun e => .inr (by rw [hk] at e; injection e with e; rw [e]; simp))
    have hf1 : w1.frozen? ⟨g, 0, none⟩ = false := (World.frozen?_of_block (hg1.block g (by simp; omega) (fun e => by have := own_base HO.out g e.symm; omega))).trans (hFr _)
    refine hK _ _ ?_
    try clear hK
    try clear K
    repeat (first | simp only [Act.put] | simp only [List.setIfInBounds_toArray] | simp only [List.set_cons_succ] | simp only [List.set_cons_zero])
    refine wpAny_take (i := 11) (v := ?_) rfl (by kernel_rfl) (by kernel_rfl) (by kernel_rfl) (fun c a w h => hP c a _ _ w h) (Or.inl ⟨by rfl, ?_⟩) ?_
    rotate_left
    · (intro w; go_simp; (try (with_reducible rfl)))
    change wpAny _ _ _ _ _ _ (Act.put _ (some 20) _) _
    repeat (first | simp only [Act.put] | simp only [List.setIfInBounds_toArray] | simp only [List.set_cons_succ] | simp only [List.set_cons_zero])
    refine wpAny_take (i := 12) (v := ?_) rfl (by kernel_rfl) (by kernel_rfl) (by kernel_rfl) (fun c a w h => hP c a _ _ w h) (Or.inl ⟨by rfl, ?_⟩) ?_
    rotate_left
    · (intro w; go_simp; (try (with_reducible rfl)))
    change wpAny _ _ _ _ _ _ (Act.put _ (some 21) _) _
    repeat (first | simp only [Act.put] | simp only [List.setIfInBounds_toArray] | simp only [List.set_cons_succ] | simp only [List.set_cons_zero])
    refine wpAny_ready (rs := [13]) (by kernel_rfl) (by simp) (AllReady.cons rfl (fun K hK => ?_) (AllReady.nil))
    go_simp
    refine hK _ _ ?_
    try clear hK
    try clear K
    repeat (first | simp only [Act.put] | simp only [List.setIfInBounds_toArray] | simp only [List.set_cons_succ] | simp only [List.set_cons_zero])
    refine wpAny_done (by kernel_rfl) ?_ _
    exact hQ _ _ hown1 hE1 hbl hat2 _ _ _ _ _ _ _ _ _ _ _ _ _
  · skip
    go_simp
    refine hK _ _ ?_
    try clear hK
    try clear K
    repeat (first | simp only [Act.put] | simp only [List.setIfInBounds_toArray] | simp only [List.set_cons_succ] | simp only [List.set_cons_zero])
    refine wpAny_ready (rs := [4]) (by kernel_rfl) (by simp) (AllReady.cons rfl (fun K hK => ?_) (AllReady.nil))
    go_simp
    refine hK _ _ ?_
    try clear hK
    try clear K
    repeat (first | simp only [Act.put] | simp only [List.setIfInBounds_toArray] | simp only [List.set_cons_succ] | simp only [List.set_cons_zero])
    refine wpAny_ready (rs := [10]) (by kernel_rfl) (by simp) (AllReady.cons rfl (fun K hK => ?_) (AllReady.nil))
    refine step_append_own _ rfl (.tmp 13) (.tmp 18) 95 rfl (g + 1) 5 i0 (.int .u8 0) 1 1 Tryz.underlying95 hi hz0 hz1 hz2 rfl (by decide) v m xs rfl (((HO.out.drew).alloc _)) ⟨W.heap.size, 0, none⟩ 1 1 [.int .u8 b] rfl rfl (fun j u hj => by first | exact one_new _ _ _ j u hj) (by simp [Value.oneCell']) (by unfold maxLen; omega) (by omega) (by simp; omega) ?_
    intro v1 w1 hown1 hg1 hat1
    obtain ⟨a1, c1, rfl⟩ := own_slice hown1
    have hE1 : w1.heap[g]? = W.heap[g]? := (hg1.block g (by simp; omega) (fun e => by have := own_base HO.out g e.symm; omega)).trans (Below.heap_alloc _ _ _ (by show g < W.heap.size; omega))
    have hS1 : w1.cell? ⟨g, 0, none⟩ = some v := (World.cell?_of_block (hg1.block g (by simp; omega) (fun e => by have := own_base HO.out g e.symm; omega))).trans (hA _)
    have hbl : ∀ S : List Nat, (∀ k, v.ownBlock = some k → k ∈ S) → Chg S W w1 := fun S hS => (((Chg.refl S W).drew).alloc _).grown hg1 (fun k hk => .inl (hS k hk))
    have hat2 : ∀ k, Value.ownBlock (.slice a1 (m + 1) c1) = some k → v.ownBlock = some k ∨ W.heap.size ≤ k := fun k hk => hat1.elim (fun e => .inl (e ▸ hk)) (fun e => .inr (by rw [hk] at e; injection e with e; rw [e]; simp))
    have hf1 : w1.frozen? ⟨g, 0, none⟩ = false := (World.frozen?_of_block (hg1.block g (by simp; omega) (fun e => by have := own_base HO.out g e.symm; omega))).trans (hFr _)
    refine hK _ _ ?_
    try clear hK
    try clear K
    repeat (first | simp only [Act.put] | simp only [List.setIfInBounds_toArray] | simp only [List.set_cons_succ] | simp only [List.set_cons_zero])
    refine wpAny_take (i := 11) (v := ?_) rfl (by kernel_rfl) (by kernel_rfl) (by kernel_rfl) (fun c a w h => hP c a _ _ w h) (Or.inl ⟨by rfl, ?_⟩) ?_
    rotate_left
    · (intro w; go_simp; (try (with_reducible rfl)))
    change wpAny _ _ _ _ _ _ (Act.put _ (some 20) _) _
    repeat (first | simp only [Act.put] | simp only [List.setIfInBounds_toArray] | simp only [List.set_cons_succ] | simp only [List.set_cons_zero])
    refine wpAny_take (i := 12) (v := ?_) rfl (by kernel_rfl) (by kernel_rfl) (by kernel_rfl) (fun c a w h => hP c a _ _ w h) (Or.inl ⟨by rfl, ?_⟩) ?_
    rotate_left
    · (intro w; go_simp; (try (with_reducible rfl)))
    change wpAny _ _ _ _ _ _ (Act.put _ (some 21) _) _
    repeat (first | simp only [Act.put] | simp only [List.setIfInBounds_toArray] | simp only [List.set_cons_succ] | simp only [List.set_cons_zero])
    refine wpAny_ready (rs := [13]) (by kernel_rfl) (by simp) (AllReady.cons rfl (fun K hK => ?_) (AllReady.nil))
    go_simp
    refine hK _ _ ?_
    try clear hK
    try clear K
    repeat (first | simp only [Act.put] | simp only [List.setIfInBounds_toArray] | simp only [List.set_cons_succ] | simp only [List.set_cons_zero])
    refine wpAny_done (by kernel_rfl) ?_ _
    exact hQ _ _ hown1 hE1 hbl hat2 _ _ _ _ _ _ _ _ _ _ _ _ _
set_option maxRecDepth 1000000 in
set_option maxHeartbeats 8000000 in
theorem wnum_reg3 {Q : Exit → Act → World → Prop} {u2 u3 u5 u6 u7 u8 u9 u10 u11 u12 u13 u14 u15 u16 u17 u18 u19 u20 u21 : Value} (hP : ∀ c a d v w, Q (.panic c) (Act.put a d v) w → Q (.panic c) a w) {g m : Nat} {n b : Int} {v : Value} {xs : List Value} {W : World} {i0 : TypeInfo} (hi : Tryz.prog.info? 5 = some i0) (hz0 : i0.zero = some (.int .u8 0)) (hz1 : i0.size = 1) (hz2 : i0.bytes = 1) (hm : m < 1000000000) (hgl : g < W.heap.size) (hb : IntKind.u8.wrap (n / 4294967296) = b) (HO : Hid (W.ownsRow (g + 1) 5 1 v m xs)) (hA : ∀ ob, (W.drew.alloc ob).cell? ⟨g, 0, none⟩ = some v) (hFr : ∀ ob, (W.drew.alloc ob).frozen? ⟨g, 0, none⟩ = false) (y0 : W.cell? ⟨g, 0, none⟩ = some v)
    (hQ : ∀ (v1 : Value) (w1 : World) (_ : w1.ownsRow (g + 1) 5 1 v1 (m + 1) (xs ++ [.int .u8 b])) (_ : w1.heap[g]? = W.heap[g]?) (_ : ∀ S : List Nat, (∀ k, v.ownBlock = some k → k ∈ S) → Chg S W w1) (_ : ∀ k, v1.ownBlock = some k → v.ownBlock = some k ∨ W.heap.size ≤ k) (x9 x10 x11 x12 x13 x14 x15 x16 x17 x18 x19 x20 x21 : Value), Q .normal ⟨#[.pointer (some ⟨g, 0, none⟩), .int .u64 n, u2, u3, .int .i64 32, u5, u6, u7, u8, x9, x10, x11, x12, x13, x14, x15, x16, x17, x18, x19, x20, x21], []⟩ (w1.setCell ⟨g, 0, none⟩ v1)) :
    Code.wp Tryz.prog (regionOf Tryz.f107 3) Q ⟨#[.pointer (some ⟨g, 0, none⟩), .int .u64 n, u2, u3, .int .i64 32, u5, u6, u7, u8, u9, u10, u11, u12, u13, u14, u15, u16, u17, u18, u19, u20, u21], []⟩ W := by
  conv => arg 2; whnf
  refine wp_region_any (by kernel_rfl) ?_
  change wpAny _ _ _ _ _ _ _ (World.drew _)
  refine wpAny_take (i := 0) (v := ?_) rfl (by kernel_rfl) (by kernel_rfl) (by kernel_rfl) (fun c a w h => hP c a _ _ w h) (Or.inl ⟨by rfl, ?_⟩) ?_
  rotate_left
  · (intro w; go_simp; (try (with_reducible rfl)))
  change wpAny _ _ _ _ _ _ (Act.put _ (some 9) _) _
  repeat (first | simp only [Act.put] | simp only [List.setIfInBounds_toArray] | simp only [List.set_cons_succ] | simp only [List.set_cons_zero])
  refine wpAny_take (i := 1) (v := ?_) rfl (by kernel_rfl) (by kernel_rfl) (by kernel_rfl) (fun c a w h => hP c a _ _ w h) (Or.inl ⟨by rfl, ?_⟩) ?_
  rotate_left
  · (intro w; go_simp; (try (with_reducible rfl)))
  change wpAny _ _ _ _ _ _ (Act.put _ (some 10) _) _
  repeat (first | simp only [Act.put] | simp only [List.setIfInBounds_toArray] | simp only [List.set_cons_succ] | simp only [List.set_cons_zero])
  refine wpAny_take (i := 2) (v := ?_) rfl (by kernel_rfl) (by kernel_rfl) (by kernel_rfl) (fun c a w h => hP c a _ _ w h) (Or.inl ⟨by rfl, ?_⟩) ?_
  rotate_left
  · (intro w; go_simp; (try (with_reducible rfl)))
  change wpAny _ _ _ _ _ _ (Act.put _ (some 11) _) _
  repeat (first | simp only [Act.put] | simp only [List.setIfInBounds_toArray] | simp only [List.set_cons_succ] | simp only [List.set_cons_zero])
  refine wpAny_take (i := 3) (v := ?_) rfl (by kernel_rfl) (by kernel_rfl) (by kernel_rfl) (fun c a w h => hP c a _ _ w h) (Or.inl ⟨by rfl, ?_⟩) ?_
  rotate_left
  · (intro w; go_simp; (try (with_reducible rfl)))
  change wpAny _ _ _ _ _ _ (Act.put _ (some 12) _) _
  repeat (first | simp only [Act.put] | simp only [List.setIfInBounds_toArray] | simp only [List.set_cons_succ] | simp only [List.set_cons_zero])
  refine wpAny_take (i := 5) (v := ?_) rfl (by kernel_rfl) (by kernel_rfl) (by kernel_rfl) (fun c a w h => hP c a _ _ w h) (Or.inl ⟨by rfl, ?_⟩) ?_
  rotate_left
  · (intro w; go_simp; (try (with_reducible rfl)))
  change wpAny _ _ _ _ _ _ (Act.put _ (some 14) _) _
  repeat (first | simp only [Act.put] | simp only [List.setIfInBounds_toArray] | simp only [List.set_cons_succ] | simp only [List.set_cons_zero])
  refine wpAny_take (i := 6) (v := ?_) rfl (by kernel_rfl) (by kernel_rfl) (by kernel_rfl) (fun c a w h => hP c a _ _ w h) (Or.inl ⟨by rfl, ?_⟩) ?_
  rotate_left
  · (intro w; go_simp; (try (with_reducible rfl)))
  change wpAny _ _ _ _ _ _ (Act.put _ (some 15) _) _
  repeat (first | simp only [Act.put] | simp only [List.setIfInBounds_toArray] | simp only [List.set_cons_succ] | simp only [List.set_cons_zero])
  refine wpAny_take (i := 7) (v := ?_) rfl (by kernel_rfl) (by kernel_rfl) (by kernel_rfl) (fun c a w h => hP c a _ _ w h) (Or.inl ⟨by rfl, ?_⟩) ?_
  rotate_left
  · (intro w; go_simp; (try (with_reducible rfl)))
  change wpAny _ _ _ _ _ _ (Act.put _ (some 16) _) _
  repeat (first | simp only [Act.put] | simp only [List.setIfInBounds_toArray] | simp only [List.set_cons_succ] | simp only [List.set_cons_zero])
  refine wpAny_take (i := 8) (v := ?_) rfl (by kernel_rfl) (by kernel_rfl) (by kernel_rfl) (fun c a w h => hP c a _ _ w h) (Or.inl ⟨by rfl, ?_⟩) ?_
  rotate_left
  · (intro w; go_simp; (try (with_reducible rfl)))
  change wpAny _ _ _ _ _ _ (Act.put _ (some 17) _) _
  repeat (first | simp only [Act.put] | simp only [List.setIfInBounds_toArray] | simp only [List.set_cons_succ] | simp only [List.set_cons_zero])
  refine wpAny_ready (rs := [4, 9]) (by kernel_rfl) (by simp) (AllReady.cons rfl (fun K hK => ?_) (AllReady.cons rfl (fun K hK => ?_) (AllReady.nil)))
  · skip
    go_simp
    refine hK _ _ ?_
    try clear hK
    try clear K
    repeat (first | simp only [Act.put] | simp only [List.setIfInBounds_toArray] | simp only [List.set_cons_succ] | simp only [List.set_cons_zero])
    refine wpAny_ready (rs := [9]) (by kernel_rfl) (by simp) (AllReady.cons rfl (fun K hK => ?_) (AllReady.nil))
    go_simp
    refine hK _ _ ?_
    try clear hK
    try clear K
    repeat (first | simp only [Act.put] | simp only [List.setIfInBounds_toArray] | simp only [List.set_cons_succ] | simp only [List.set_cons_zero])
    refine wpAny_ready (rs := [10]) (by kernel_rfl) (by simp) (AllReady.cons rfl (fun K hK => ?_) (AllReady.nil))
    refine step_append_own _ rfl (.tmp 13) (.tmp 18) 95 rfl (g + 1) 5 i0 (.int .u8 0) 1 1 Tryz.underlying95 hi hz0 hz1 hz2 rfl (by decide) v m xs rfl (((HO.out.drew).alloc _)) ⟨W.heap.size, 0, none⟩ 1 1 [.int .u8 b] rfl rfl (fun j u hj => by first | exact one_new _ _ _ j u hj) (by simp [Value.oneCell']) (by unfold maxLen; omega) (by omega) (by simp; omega) ?_
    intro v1 w1 hown1 hg1 hat1
    obtain ⟨a1, c1, rfl⟩ := own_slice hown1
    have hE1 : w1.heap[g]? = W.heap[g]? := (hg1.block g (by simp; omega) (fun e => by have := own_base HO.out g e.symm; omega)).trans (Below.heap_alloc _ _ _ (by show g < W.heap.size; omega))
    have hS1 : w1.cell? ⟨g, 0, none⟩ = some v := (World.cell?_of_block (hg1.block g (by simp; omega) (fun e => by have := own_base HO.out g e.symm; omega))).trans (hA _)
    have hbl : ∀ S : List Nat, (∀ k, v.ownBlock = some k → k ∈ S) → Chg S W w1 := fun S hS => (((Chg.refl S W).drew).alloc _).grown hg1 (fun k hk => .inl (hS k hk))
    have hat2 : ∀ k, Value.ownBlock (.slice a1 (m + 1) c1) = some k → v.ownBlock = some k ∨ W.heap.size ≤ k := fun k hk => hat1.elim (fun e => .inl (e ▸ hk)) (fun e => .inr (by rw [hk] at e; injection e with e; rw [e]; simp))
    have hf1 : w1.frozen? ⟨g, 0, none⟩ = false := (World.frozen?_of_block (hg1.block g (by simp; omega) (fun e => by have := own_base HO.out g e.symm; omega))).trans (hFr _)
    refine hK _ _ ?_
    try clear hK
    try clear K
    repeat (first | simp only [Act.put] | simp only [List.setIfInBounds_toArray] | simp only [List.set_cons_succ] | simp only [List.set_cons_zero])
    refine wpAny_take (i := 11) (v := ?_) rfl (by kernel_rfl) (by kernel_rfl) (by kernel_rfl) (fun c a w h => hP c a _ _ w h) (Or.inl ⟨by rfl, ?_⟩) ?_
    rotate_left
    · (intro w; go_simp; (try (with_reducible rfl)))
    change wpAny _ _ _ _ _ _ (Act.put _ (some 20) _) _
    repeat (first | simp only [Act.put] | simp only [List.setIfInBounds_toArray] | simp only [List.set_cons_succ] | simp only [List.set_cons_zero])
    refine wpAny_take (i := 12) (v := ?_) rfl (by kernel_rfl) (by kernel_rfl) (by kernel_rfl) (fun c a w h => hP c a _ _ w h) (Or.inl ⟨by rfl, ?_⟩) ?_
    rotate_left
    · (intro w; go_simp; (try (with_reducible rfl)))
    change wpAny _ _ _ _ _ _ (Act.put _ (some 21) _) _
    repeat (first | simp only [Act.put] | simp only [List.setIfInBounds_toArray] | simp only [List.set_cons_succ] | simp only [List.set_cons_zero])
    refine wpAny_ready (rs := [13]) (by kernel_rfl) (by simp) (AllReady.cons rfl (fun K hK => ?_) (AllReady.nil))
    go_simp
    refine hK _ _ ?_
    try clear hK
    try clear K
    repeat (first | simp only [Act.put] | simp only [List.setIfInBounds_toArray] | simp only [List.set_cons_succ] | simp only [List.set_cons_zero])
    refine wpAny_done (by kernel_rfl) ?_ _
    exact hQ _ _ hown1 hE1 hbl hat2 _ _ _ _ _ _ _ _ _ _ _ _ _
  · skip
    go_simp
    refine hK _ _ ?_
    try clear hK
    try clear K
    repeat (first | simp only [Act.put] | simp only [List.setIfInBounds_toArray] | simp only [List.set_cons_succ] | simp only [List.set_cons_zero])
    refine wpAny_ready (rs := [4]) (by kernel_rfl) (by simp) (AllReady.cons rfl (fun K hK => ?_) (AllReady.nil))
    go_simp
    refine hK _ _ ?_
    try clear hK
    try clear K
    repeat (first | simp only [Act.put] | simp only [List.setIfInBounds_toArray] | simp only [List.set_cons_succ] | simp only [List.set_cons_zero])
    refine wpAny_ready (rs := [10]) (by kernel_rfl) (by simp) (AllReady.cons rfl (fun K hK => ?_) (AllReady.nil))
    refine step_append_own _ rfl (.tmp 13) (.tmp 18) 95 rfl (g + 1) 5 i0 (.int .u8 0) 1 1 Tryz.underlying95 hi hz0 hz1 hz2 rfl (by decide) v m xs rfl (((HO.out.drew).alloc _)) ⟨W.heap.size, 0, none⟩ 1 1 [.int .u8 b] rfl rfl (fun j u hj => by first | exact one_new _ _ _ j u hj) (by simp [Value.oneCell']) (by unfold maxLen; omega) (by omega) (by simp; omega) ?_
    intro v1 w1 hown1 hg1 hat1
    obtain ⟨a1, c1, rfl⟩ := own_slice hown1
    have hE1 : w1.heap[g]? = W.heap[g]? := (hg1.block g (by simp; omega) (fun e => by have := own_base HO.out g e.symm; omega)).trans (Below.heap_alloc _ _ _ (by show g < W.heap.size; omega))
    have hS1 : w1.cell? ⟨g, 0, none⟩ = some v := (World.cell?_of_block (hg1.block g (by simp; omega) (fun e => by have := own_base HO.out g e.symm; omega))).trans (hA _)
    have hbl : ∀ S : List Nat, (∀ k, v.ownBlock = some k → k ∈ S) → Chg S W w1 := fun S hS => (((Chg.refl S W).drew).alloc _).grown hg1 (fun k hk => .inl (hS k hk))
    have hat2 : ∀ k, Value.ownBlock (.slice a1 (m + 1) c1) = some k → v.ownBlock = some k ∨ W.heap.size ≤ k := fun k hk => hat1.elim (fun e => .inl (e ▸ hk)) (fun e => .inr (by rw [hk] at e; injection e with e; rw [e]; simp))
    have hf1 : w1.frozen? ⟨g, 0, none⟩ = false := (World.frozen?_of_block (hg1.block g (by simp; omega) (fun e => by have := own_base HO.out g e.symm; omega))).trans (hFr _)
    refine hK _ _ ?_
    try clear hK
    try clear K
    repeat (first | simp only [Act.put] | simp only [List.setIfInBounds_toArray] | simp only [List.set_cons_succ] | simp only [List.set_cons_zero])
    refine wpAny_take (i := 11) (v := ?_) rfl (by kernel_rfl) (by kernel_rfl) (by kernel_rfl) (fun c a w h => hP c a _ _ w h) (Or.inl ⟨by rfl, ?_⟩) ?_
    rotate_left
    · (intro w; go_simp; (try (with_reducible rfl)))
    change wpAny _ _ _ _ _ _ (Act.put _ (some 20) _) _
    repeat (first | simp only [Act.put] | simp only [List.setIfInBounds_toArray] | simp only [List.set_cons_succ] | simp only [List.set_cons_zero])
    refine wpAny_take (i := 12) (v := ?_) rfl (by kernel_rfl) (by kernel_rfl) (by kernel_rfl) (fun c a w h => hP c a _ _ w h) (Or.inl ⟨by rfl, ?_⟩) ?_
    rotate_left
    · (intro w; go_simp; (try (with_reducible rfl)))
    change wpAny _ _ _ _ _ _ (Act.put _ (some 21) _) _
    repeat (first | simp only [Act.put] | simp only [List.setIfInBounds_toArray] | simp only [List.set_cons_succ] | simp only [List.set_cons_zero])
    refine wpAny_ready (rs := [13]) (by kernel_rfl) (by simp) (AllReady.cons rfl (fun K hK => ?_) (AllReady.nil))
    go_simp
    refine hK _ _ ?_
    try clear hK
    try clear K
    repeat (first | simp only [Act.put] | simp only [List.setIfInBounds_toArray] | simp only [List.set_cons_succ] | simp only [List.set_cons_zero])
    refine wpAny_done (by kernel_rfl) ?_ _
    exact hQ _ _ hown1 hE1 hbl hat2 _ _ _ _ _ _ _ _ _ _ _ _ _
set_option maxRecDepth 1000000 in
set_option maxHeartbeats 8000000 in
theorem wnum_reg4 {Q : Exit → Act → World → Prop} {u2 u3 u5 u6 u7 u8 u9 u10 u11 u12 u13 u14 u15 u16 u17 u18 u19 u20 u21 : Value} (hP : ∀ c a d v w, Q (.panic c) (Act.put a d v) w → Q (.panic c) a w) {g m : Nat} {n b : Int} {v : Value} {xs : List Value} {W : World} {i0 : TypeInfo} (hi : Tryz.prog.info? 5 = some i0) (hz0 : i0.zero = some (.int .u8 0)) (hz1 : i0.size = 1) (hz2 : i0.bytes = 1) (hm : m < 1000000000) (hgl : g < W.heap.size) (hb : IntKind.u8.wrap (n / 16777216) = b) (HO : Hid (W.ownsRow (g + 1) 5 1 v m xs)) (hA : ∀ ob, (W.drew.alloc ob).cell? ⟨g, 0, none⟩ = some v) (hFr : ∀ ob, (W.drew.alloc ob).frozen? ⟨g, 0, none⟩ = false) (y0 : W.cell? ⟨g, 0, none⟩ = some v)
    (hQ : ∀ (v1 : Value) (w1 : World) (_ : w1.ownsRow (g + 1) 5 1 v1 (m + 1) (xs ++ [.int .u8 b])) (_ : w1.heap[g]? = W.heap[g]?) (_ : ∀ S : List Nat, (∀ k, v.ownBlock = some k → k ∈ S) → Chg S W w1) (_ : ∀ k, v1.ownBlock = some k → v.ownBlock = some k ∨ W.heap.size ≤ k) (x9 x10 x11 x12 x13 x14 x15 x16 x17 x18 x19 x20 x21 : Value), Q .normal ⟨#[.pointer (some ⟨g, 0, none⟩), .int .u64 n, u2, u3, .int .i64 24, u5, u6, u7, u8, x9, x10, x11, x12, x13, x14, x15, x16, x17, x18, x19, x20, x21], []⟩ (w1.setCell ⟨g, 0, none⟩ v1)) :
    Code.wp Tryz.prog (regionOf Tryz.f107 3) Q ⟨#[.pointer (some ⟨g, 0, none⟩), .int .u64 n, u2, u3, .int .i64 24, u5, u6, u7, u8, u9, u10, u11, u12, u13, u14, u15, u16, u17, u18, u19, u20, u21], []⟩ W := by
  conv => arg 2; whnf
  refine wp_region_any (by kernel_rfl) ?_
  change wpAny _ _ _ _ _ _ _ (World.drew _)
  refine wpAny_take (i := 0) (v := ?_) rfl (by kernel_rfl) (by kernel_rfl) (by kernel_rfl) (fun c a w h => hP c a _ _ w h) (Or.inl ⟨by rfl, ?_⟩) ?_
  rotate_left
  · (intro w; go_simp; (try (with_reducible rfl)))
  change wpAny _ _ _ _ _ _ (Act.put _ (some 9) _) _
  repeat (first | simp only [Act.put] | simp only [List.setIfInBounds_toArray] | simp only [List.set_cons_succ] | simp only [List.set_cons_zero])
  refine wpAny_take (i := 1) (v := ?_) rfl (by kernel_rfl) (by kernel_rfl) (by kernel_rfl) (fun c a w h => hP c a _ _ w h) (Or.inl ⟨by rfl, ?_⟩) ?_
  rotate_left
  · (intro w; go_simp; (try (with_reducible rfl)))
  change wpAny _ _ _ _ _ _ (Act.put _ (some 10) _) _
  repeat (first | simp only [Act.put] | simp only [List.setIfInBounds_toArray] | simp only [List.set_cons_succ] | simp only [List.set_cons_zero])
  refine wpAny_take (i := 2) (v := ?_) rfl (by kernel_rfl) (by kernel_rfl) (by kernel_rfl) (fun c a w h => hP c a _ _ w h) (Or.inl ⟨by rfl, ?_⟩) ?_
  rotate_left
  · (intro w; go_simp; (try (with_reducible rfl)))
  change wpAny _ _ _ _ _ _ (Act.put _ (some 11) _) _
  repeat (first | simp only [Act.put] | simp only [List.setIfInBounds_toArray] | simp only [List.set_cons_succ] | simp only [List.set_cons_zero])
  refine wpAny_take (i := 3) (v := ?_) rfl (by kernel_rfl) (by kernel_rfl) (by kernel_rfl) (fun c a w h => hP c a _ _ w h) (Or.inl ⟨by rfl, ?_⟩) ?_
  rotate_left
  · (intro w; go_simp; (try (with_reducible rfl)))
  change wpAny _ _ _ _ _ _ (Act.put _ (some 12) _) _
  repeat (first | simp only [Act.put] | simp only [List.setIfInBounds_toArray] | simp only [List.set_cons_succ] | simp only [List.set_cons_zero])
  refine wpAny_take (i := 5) (v := ?_) rfl (by kernel_rfl) (by kernel_rfl) (by kernel_rfl) (fun c a w h => hP c a _ _ w h) (Or.inl ⟨by rfl, ?_⟩) ?_
  rotate_left
  · (intro w; go_simp; (try (with_reducible rfl)))
  change wpAny _ _ _ _ _ _ (Act.put _ (some 14) _) _
  repeat (first | simp only [Act.put] | simp only [List.setIfInBounds_toArray] | simp only [List.set_cons_succ] | simp only [List.set_cons_zero])
  refine wpAny_take (i := 6) (v := ?_) rfl (by kernel_rfl) (by kernel_rfl) (by kernel_rfl) (fun c a w h => hP c a _ _ w h) (Or.inl ⟨by rfl, ?_⟩) ?_
  rotate_left
  · (intro w; go_simp; (try (with_reducible rfl)))
  change wpAny _ _ _ _ _ _ (Act.put _ (some 15) _) _
  repeat (first | simp only [Act.put] | simp only [List.setIfInBounds_toArray] | simp only [List.set_cons_succ] | simp only [List.set_cons_zero])
  refine wpAny_take (i := 7) (v := ?_) rfl (by kernel_rfl) (by kernel_rfl) (by kernel_rfl) (fun c a w h => hP c a _ _ w h) (Or.inl ⟨by rfl, ?_⟩) ?_
  rotate_left
  · (intro w; go_simp; (try (with_reducible rfl)))
  change wpAny _ _ _ _ _ _ (Act.put _ (some 16) _) _
  repeat (first | simp only [Act.put] | simp only [List.setIfInBounds_toArray] | simp only [List.set_cons_succ] | simp only [List.set_cons_zero])
  refine wpAny_take (i := 8) (v := ?_) rfl (by kernel_rfl) (by kernel_rfl) (by kernel_rfl) (fun c a w h => hP c a _ _ w h) (Or.inl ⟨by rfl, ?_⟩) ?_
  rotate_left
  · (intro w; go_simp; (try (with_reducible rfl)))
  change wpAny _ _ _ _ _ _ (Act.put _ (some 17) _) _
  repeat (first | simp only [Act.put] | simp only [List.setIfInBounds_toArray] | simp only [List.set_cons_succ] | simp only [List.set_cons_zero])
  refine wpAny_ready (rs := [4, 9]) (by kernel_rfl) (by simp) (AllReady.cons rfl (fun K hK => ?_) (AllReady.cons rfl (fun K hK => ?_) (AllReady.nil)))
  · skip
    go_simp
    refine hK _ _ ?_
    try clear hK
    try clear K
    repeat (first | simp only [Act.put] | simp only [List.setIfInBounds_toArray] | simp only [List.set_cons_succ] | simp only [List.set_cons_zero])
    refine wpAny_ready (rs := [9]) (by kernel_rfl) (by simp) (AllReady.cons rfl (fun K hK => ?_) (AllReady.nil))
    go_simp
    refine hK _ _ ?_
    try clear hK
    try clear K
    repeat (first | simp only [Act.put] | simp only [List.setIfInBounds_toArray] | simp only [List.set_cons_succ] | simp only [List.set_cons_zero])
    refine wpAny_ready (rs := [10]) (by kernel_rfl) (by simp) (AllReady.cons rfl (fun K hK => ?_) (AllReady.nil))
    refine step_append_own _ rfl (.tmp 13) (.tmp 18) 95 rfl (g + 1) 5 i0 (.int .u8 0) 1 1 Tryz.underlying95 hi hz0 hz1 hz2 rfl (by decide) v m xs rfl (((HO.out.drew).alloc _)) ⟨W.heap.size, 0, none⟩ 1 1 [.int .u8 b] rfl rfl (fun j u hj => by first | exact one_new _ _ _ j u hj) (by simp [Value.oneCell']) (by unfold maxLen; omega) (by omega) (by simp; omega) ?_
    intro v1 w1 hown1 hg1 hat1
    obtain ⟨a1, c1, rfl⟩ := own_slice hown1
    have hE1 : w1.heap[g]? = W.heap[g]? := (hg1.block g (by simp; omega) (fun e => by have := own_base HO.out g e.symm; omega)).trans (Below.heap_alloc _ _ _ (by show g < W.heap.size; omega))
    have hS1 : w1.cell? ⟨g, 0, none⟩ = some v := (World.cell?_of_block (hg1.block g (by simp; omega) (fun e => by have := own_base HO.out g e.symm; omega))).trans (hA _)
    have hbl : ∀ S : List Nat, (∀ k, v.ownBlock = some k → k ∈ S) → Chg S W w1 := fun S hS => (((Chg.refl S W).drew).alloc _).grown hg1 (fun k hk => .inl (hS k hk))
    have hat2 : ∀ k, Value.ownBlock (.slice a1 (m + 1) c1) = some k → v.ownBlock = some k ∨ W.heap.size ≤ k := fun k hk => hat1.elim (fun e => .inl (e ▸ hk)) (fun e => .inr (by rw [hk] at e; injection e with e; rw [e]; simp))
    have hf1 : w1.frozen? ⟨g, 0, none⟩ = false := (World.frozen?_of_block (hg1.block g (by simp; omega) (fun e => by have := own_base HO.out g e.symm; omega))).trans (hFr _)
    refine hK _ _ ?_
    try clear hK
    try clear K
    repeat (first | simp only [Act.put] | simp only [List.setIfInBounds_toArray] | simp only [List.set_cons_succ] | simp only [List.set_cons_zero])
    refine wpAny_take (i := 11) (v := ?_) rfl (by kernel_rfl) (by kernel_rfl) (by kernel_rfl) (fun c a w h => hP c a _ _ w h) (Or.inl ⟨by rfl, ?_⟩) ?_
    rotate_left
    · (intro w; go_simp; (try (with_reducible rfl)))
    change wpAny _ _ _ _ _ _ (Act.put _ (some 20) _) _
    repeat (first | simp only [Act.put] | simp only [List.setIfInBounds_toArray] | simp only [List.set_cons_succ] | simp only [List.set_cons_zero])
    refine wpAny_take (i := 12) (v := ?_) rfl (by kernel_rfl) (by kernel_rfl) (by kernel_rfl) (fun c a w h => hP c a _ _ w h) (Or.inl ⟨by rfl, ?_⟩) ?_
    rotate_left
    · (intro w; go_simp; (try (with_reducible rfl)))
    change wpAny _ _ _ _ _ _ (Act.put _ (some 21) _) _
    repeat (first | simp only [Act.put] | simp only [List.setIfInBounds_toArray] | simp only [List.set_cons_succ] | simp only [List.set_cons_zero])
    refine wpAny_ready (rs := [13]) (by kernel_rfl) (by simp) (AllReady.cons rfl (fun K hK => ?_) (AllReady.nil))
    go_simp
    refine hK _ _ ?_
    try clear hK
    try clear K
    repeat (first | simp only [Act.put] | simp only [List.setIfInBounds_toArray] | simp only [List.set_cons_succ] | simp only [List.set_cons_zero])
    refine wpAny_done (by kernel_rfl) ?_ _
    exact hQ _ _ hown1 hE1 hbl hat2 _ _ _ _ _ _ _ _ _ _ _ _ _
  · skip
    go_simp
    refine hK _ _ ?_
    try clear hK
    try clear K
    repeat (first | simp only [Act.put] | simp only [List.setIfInBounds_toArray] | simp only [List.set_cons_succ] | simp only [List.set_cons_zero])
    refine wpAny_ready (rs := [4]) (by kernel_rfl) (by simp) (AllReady.cons rfl (fun K hK => ?_) (AllReady.nil))
    go_simp
    refine hK _ _ ?_
    try clear hK
    try clear K
    repeat (first | simp only [Act.put] | simp only [List.setIfInBounds_toArray] | simp only [List.set_cons_succ] | simp only [List.set_cons_zero])
    refine wpAny_ready (rs := [10]) (by kernel_rfl) (by simp) (AllReady.cons rfl (fun K hK => ?_) (AllReady.nil))
    refine step_append_own _ rfl (.tmp 13) (.tmp 18) 95 rfl (g + 1) 5 i0 (.int .u8 0) 1 1 Tryz.underlying95 hi hz0 hz1 hz2 rfl (by decide) v m xs rfl (((HO.out.drew).alloc _)) ⟨W.heap.size, 0, none⟩ 1 1 [.int .u8 b] rfl rfl (fun j u hj => by first | exact one_new _ _ _ j u hj) (by simp [Value.oneCell']) (by unfold maxLen; omega) (by omega) (by simp; omega) ?_
    intro v1 w1 hown1 hg1 hat1
    obtain ⟨a1, c1, rfl⟩ := own_slice hown1
    have hE1 : w1.heap[g]? = W.heap[g]? := (hg1.block g (by simp; omega) (fun e => by have := own_base HO.out g e.symm; omega)).trans (Below.heap_alloc _ _ _ (by show g < W.heap.size; omega))
    have hS1 : w1.cell? ⟨g, 0, none⟩ = some v := (World.cell?_of_block (hg1.block g (by simp; omega) (fun e => by have := own_base HO.out g e.symm; omega))).trans (hA _)
    have hbl : ∀ S : List Nat, (∀ k, v.ownBlock = some k → k ∈ S) → Chg S W w1 := fun S hS => (((Chg.refl S W).drew).alloc _).grown hg1 (fun k hk => .inl (hS k hk))
    have hat2 : ∀ k, Value.ownBlock (.slice a1 (m + 1) c1) = some k → v.ownBlock = some k ∨ W.heap.size ≤ k := fun k hk => hat1.elim (fun e => .inl (e ▸ hk)) (fun e => .inr (by rw [hk] at e; injection e with e; rw [e]; simp))
    have hf1 : w1.frozen? ⟨g, 0, none⟩ = false := (World.frozen?_of_block (hg1.block g (by simp; omega) (fun e => by have := own_base HO.out g e.symm; omega))).trans (hFr _)
    refine hK _ _ ?_
    try clear hK
    try clear K
    repeat (first | simp only [Act.put] | simp only [List.setIfInBounds_toArray] | simp only [List.set_cons_succ] | simp only [List.set_cons_zero])
    refine wpAny_take (i := 11) (v := ?_) rfl (by kernel_rfl) (by kernel_rfl) (by kernel_rfl) (fun c a w h => hP c a _ _ w h) (Or.inl ⟨by rfl, ?_⟩) ?_
    rotate_left
    · (intro w; go_simp; (try (with_reducible rfl)))
    change wpAny _ _ _ _ _ _ (Act.put _ (some 20) _) _
    repeat (first | simp only [Act.put] | simp only [List.setIfInBounds_toArray] | simp only [List.set_cons_succ] | simp only [List.set_cons_zero])
    refine wpAny_take (i := 12) (v := ?_) rfl (by kernel_rfl) (by kernel_rfl) (by kernel_rfl) (fun c a w h => hP c a _ _ w h) (Or.inl ⟨by rfl, ?_⟩) ?_
    rotate_left
    · (intro w; go_simp; (try (with_reducible rfl)))
    change wpAny _ _ _ _ _ _ (Act.put _ (some 21) _) _
    repeat (first | simp only [Act.put] | simp only [List.setIfInBounds_toArray] | simp only [List.set_cons_succ] | simp only [List.set_cons_zero])
    refine wpAny_ready (rs := [13]) (by kernel_rfl) (by simp) (AllReady.cons rfl (fun K hK => ?_) (AllReady.nil))
    go_simp
    refine hK _ _ ?_
    try clear hK
    try clear K
    repeat (first | simp only [Act.put] | simp only [List.setIfInBounds_toArray] | simp only [List.set_cons_succ] | simp only [List.set_cons_zero])
    refine wpAny_done (by kernel_rfl) ?_ _
    exact hQ _ _ hown1 hE1 hbl hat2 _ _ _ _ _ _ _ _ _ _ _ _ _
set_option maxRecDepth 1000000 in
set_option maxHeartbeats 8000000 in
theorem wnum_reg5 {Q : Exit → Act → World → Prop} {u2 u3 u5 u6 u7 u8 u9 u10 u11 u12 u13 u14 u15 u16 u17 u18 u19 u20 u21 : Value} (hP : ∀ c a d v w, Q (.panic c) (Act.put a d v) w → Q (.panic c) a w) {g m : Nat} {n b : Int} {v : Value} {xs : List Value} {W : World} {i0 : TypeInfo} (hi : Tryz.prog.info? 5 = some i0) (hz0 : i0.zero = some (.int .u8 0)) (hz1 : i0.size = 1) (hz2 : i0.bytes = 1) (hm : m < 1000000000) (hgl : g < W.heap.size) (hb : IntKind.u8.wrap (n / 65536) = b) (HO : Hid (W.ownsRow (g + 1) 5 1 v m xs)) (hA : ∀ ob, (W.drew.alloc ob).cell? ⟨g, 0, none⟩ = some v) (hFr : ∀ ob, (W.drew.alloc ob).frozen? ⟨g, 0, none⟩ = false) (y0 : W.cell? ⟨g, 0, none⟩ = some v)
    (hQ : ∀ (v1 : Value) (w1 : World) (_ : w1.ownsRow (g + 1) 5 1 v1 (m + 1) (xs ++ [.int .u8 b])) (_ : w1.heap[g]? = W.heap[g]?) (_ : ∀ S : List Nat, (∀ k, v.ownBlock = some k → k ∈ S) → Chg S W w1) (_ : ∀ k, v1.ownBlock = some k → v.ownBlock = some k ∨ W.heap.size ≤ k) (x9 x10 x11 x12 x13 x14 x15 x16 x17 x18 x19 x20 x21 : Value), Q .normal ⟨#[.pointer (some ⟨g, 0, none⟩), .int .u64 n, u2, u3, .int .i64 16, u5, u6, u7, u8, x9, x10, x11, x12, x13, x14, x15, x16, x17, x18, x19, x20, x21], []⟩ (w1.setCell ⟨g, 0, none⟩ v1)) :
    Code.wp Tryz.prog (regionOf Tryz.f107 3) Q ⟨#[.pointer (some ⟨g, 0, none⟩), .int .u64 n, u2, u3, .int .i64 16, u5, u6, u7, u8, u9, u10, u11, u12, u13, u14, u15, u16, u17, u18, u19, u20, u21], []⟩ W := by
  conv => arg 2; whnf
  refine wp_region_any (by kernel_rfl) ?_
  change wpAny _ _ _ _ _ _ _ (World.drew _)
  refine wpAny_take (i := 0) (v := ?_) rfl (by kernel_rfl) (by kernel_rfl) (by kernel_rfl) (fun c a w h => hP c a _ _ w h) (Or.inl ⟨by rfl, ?_⟩) ?_
  rotate_left
  · (intro w; go_simp; (try (with_reducible rfl)))
  change wpAny _ _ _ _ _ _ (Act.put _ (some 9) _) _
  repeat (first | simp only [Act.put] | simp only [List.setIfInBounds_toArray] | simp only [List.set_cons_succ] | simp only [List.set_cons_zero])
  refine wpAny_take (i := 1) (v := ?_) rfl (by kernel_rfl) (by kernel_rfl) (by kernel_rfl) (fun c a w h => hP c a _ _ w h) (Or.inl ⟨by rfl, ?_⟩) ?_
  rotate_left
  · (intro w; go_simp; (try (with_reducible rfl)))
  change wpAny _ _ _ _ _ _ (Act.put _ (some 10) _) _
  repeat (first | simp only [Act.put] | simp only [List.setIfInBounds_toArray] | simp only [List.set_cons_succ] | simp only [List.set_cons_zero])
  refine wpAny_take (i := 2) (v := ?_) rfl (by kernel_rfl) (by kernel_rfl) (by kernel_rfl) (fun c a w h => hP c a _ _ w h) (Or.inl ⟨by rfl, ?_⟩) ?_
  rotate_left
  · (intro w; go_simp; (try (with_reducible rfl)))
  change wpAny _ _ _ _ _ _ (Act.put _ (some 11) _) _
  repeat (first | simp only [Act.put] | simp only [List.setIfInBounds_toArray] | simp only [List.set_cons_succ] | simp only [List.set_cons_zero])
  refine wpAny_take (i := 3) (v := ?_) rfl (by kernel_rfl) (by kernel_rfl) (by kernel_rfl) (fun c a w h => hP c a _ _ w h) (Or.inl ⟨by rfl, ?_⟩) ?_
  rotate_left
  · (intro w; go_simp; (try (with_reducible rfl)))
  change wpAny _ _ _ _ _ _ (Act.put _ (some 12) _) _
  repeat (first | simp only [Act.put] | simp only [List.setIfInBounds_toArray] | simp only [List.set_cons_succ] | simp only [List.set_cons_zero])
  refine wpAny_take (i := 5) (v := ?_) rfl (by kernel_rfl) (by kernel_rfl) (by kernel_rfl) (fun c a w h => hP c a _ _ w h) (Or.inl ⟨by rfl, ?_⟩) ?_
  rotate_left
  · (intro w; go_simp; (try (with_reducible rfl)))
  change wpAny _ _ _ _ _ _ (Act.put _ (some 14) _) _
  repeat (first | simp only [Act.put] | simp only [List.setIfInBounds_toArray] | simp only [List.set_cons_succ] | simp only [List.set_cons_zero])
  refine wpAny_take (i := 6) (v := ?_) rfl (by kernel_rfl) (by kernel_rfl) (by kernel_rfl) (fun c a w h => hP c a _ _ w h) (Or.inl ⟨by rfl, ?_⟩) ?_
  rotate_left
  · (intro w; go_simp; (try (with_reducible rfl)))
  change wpAny _ _ _ _ _ _ (Act.put _ (some 15) _) _
  repeat (first | simp only [Act.put] | simp only [List.setIfInBounds_toArray] | simp only [List.set_cons_succ] | simp only [List.set_cons_zero])
  refine wpAny_take (i := 7) (v := ?_) rfl (by kernel_rfl) (by kernel_rfl) (by kernel_rfl) (fun c a w h => hP c a _ _ w h) (Or.inl ⟨by rfl, ?_⟩) ?_
  rotate_left
  · (intro w; go_simp; (try (with_reducible rfl)))
  change wpAny _ _ _ _ _ _ (Act.put _ (some 16) _) _
  repeat (first | simp only [Act.put] | simp only [List.setIfInBounds_toArray] | simp only [List.set_cons_succ] | simp only [List.set_cons_zero])
  refine wpAny_take (i := 8) (v := ?_) rfl (by kernel_rfl) (by kernel_rfl) (by kernel_rfl) (fun c a w h => hP c a _ _ w h) (Or.inl ⟨by rfl, ?_⟩) ?_
  rotate_left
  · (intro w; go_simp; (try (with_reducible rfl)))
  change wpAny _ _ _ _ _ _ (Act.put _ (some 17) _) _
  repeat (first | simp only [Act.put] | simp only [List.setIfInBounds_toArray] | simp only [List.set_cons_succ] | simp only [List.set_cons_zero])
  refine wpAny_ready (rs := [4, 9]) (by kernel_rfl) (by simp) (AllReady.cons rfl (fun K hK => ?_) (AllReady.cons rfl (fun K hK => ?_) (AllReady.nil)))
  · skip
    go_simp
    refine hK _ _ ?_
    try clear hK
    try clear K
    repeat (first | simp only [Act.put] | simp only [List.setIfInBounds_toArray] | simp only [List.set_cons_succ] | simp only [List.set_cons_zero])
    refine wpAny_ready (rs := [9]) (by kernel_rfl) (by simp) (AllReady.cons rfl (fun K hK => ?_) (AllReady.nil))
    go_simp
    refine hK _ _ ?_
    try clear hK
    try clear K
    repeat (first | simp only [Act.put] | simp only [List.setIfInBounds_toArray] | simp only [List.set_cons_succ] | simp only [List.set_cons_zero])
    refine wpAny_ready (rs := [10]) (by kernel_rfl) (by simp) (AllReady.cons rfl (fun K hK => ?_) (AllReady.nil))
    refine step_append_own _ rfl (.tmp 13) (.tmp 18) 95 rfl (g + 1) 5 i0 (.int .u8 0) 1 1 Tryz.underlying95 hi hz0 hz1 hz2 rfl (by decide) v m xs rfl (((HO.out.drew).alloc _)) ⟨W.heap.size, 0, none⟩ 1 1 [.int .u8 b] rfl rfl (fun j u hj => by first | exact one_new _ _ _ j u hj) (by simp [Value.oneCell']) (by unfold maxLen; omega) (by omega) (by simp; omega) ?_
    intro v1 w1 hown1 hg1 hat1
    obtain ⟨a1, c1, rfl⟩ := own_slice hown1
    have hE1 : w1.heap[g]? = W.heap[g]? := (hg1.block g (by simp; omega) (fun e => by have := own_base HO.out g e.symm; omega)).trans (Below.heap_alloc _ _ _ (by show g < W.heap.size; omega))
    have hS1 : w1.cell? ⟨g, 0, none⟩ = some v := (World.cell?_of_block (hg1.block g (by simp; omega) (fun e => by have := own_base HO.out g e.symm; omega))).trans (hA _)
    have hbl : ∀ S : List Nat, (∀ k, v.ownBlock = some k → k ∈ S) → Chg S W w1 := fun S hS => (((Chg.refl S W).drew).alloc _).grown hg1 (fun k hk => .inl (hS k hk))
    have hat2 : ∀ k, Value.ownBlock (.slice a1 (m + 1) c1) = some k → v.ownBlock = some k ∨ W.heap.size ≤ k := fun k hk => hat1.elim (fun e => .inl (e ▸ hk)) (fun e => .inr (by rw [hk] at e; injection e with e; rw [e]; simp))
    have hf1 : w1.frozen? ⟨g, 0, none⟩ = false := (World.frozen?_of_block (hg1.block g (by simp; omega) (fun e => by have := own_base HO.out g e.symm; omega))).trans (hFr _)
    refine hK _ _ ?_
    try clear hK
    try clear K
    repeat (first | simp only [Act.put] | simp only [List.setIfInBounds_toArray] | simp only [List.set_cons_succ] | simp only [List.set_cons_zero])
    refine wpAny_take (i := 11) (v := ?_) rfl (by kernel_rfl) (by kernel_rfl) (by kernel_rfl) (fun c a w h => hP c a _ _ w h) (Or.inl ⟨by rfl, ?_⟩) ?_
    rotate_left
    · (intro w; go_simp; (try (with_reducible rfl)))
    change wpAny _ _ _ _ _ _ (Act.put _ (some 20) _) _
    repeat (first | simp only [Act.put] | simp only [List.setIfInBounds_toArray] | simp only [List.set_cons_succ] | simp only [List.set_cons_zero])
    refine wpAny_take (i := 12) (v := ?_) rfl (by kernel_rfl) (by kernel_rfl) (by kernel_rfl) (fun c a w h => hP c a _ _ w h) (Or.inl ⟨by rfl, ?_⟩) ?_
    rotate_left
    · (intro w; go_simp; (try (with_reducible rfl)))
    change wpAny _ _ _ _ _ _ (Act.put _ (some 21) _) _
    repeat (first | simp only [Act.put] | simp only [List.setIfInBounds_toArray] | simp only [List.set_cons_succ] | simp only [List.set_cons_zero])
    refine wpAny_ready (rs := [13]) (by kernel_rfl) (by simp) (AllReady.cons rfl (fun K hK => ?_) (AllReady.nil))
    go_simp
    refine hK _ _ ?_
    try clear hK
    try clear K
    repeat (first | simp only [Act.put] | simp only [List.setIfInBounds_toArray] | simp only [List.set_cons_succ] | simp only [List.set_cons_zero])
    refine wpAny_done (by kernel_rfl) ?_ _
    exact hQ _ _ hown1 hE1 hbl hat2 _ _ _ _ _ _ _ _ _ _ _ _ _
  · skip
    go_simp
    refine hK _ _ ?_
    try clear hK
    try clear K
    repeat (first | simp only [Act.put] | simp only [List.setIfInBounds_toArray] | simp only [List.set_cons_succ] | simp only [List.set_cons_zero])
    refine wpAny_ready (rs := [4]) (by kernel_rfl) (by simp) (AllReady.cons rfl (fun K hK => ?_) (AllReady.nil))
    go_simp
    refine hK _ _ ?_
    try clear hK
    try clear K
    repeat (first | simp only [Act.put] | simp only [List.setIfInBounds_toArray] | simp only [List.set_cons_succ] | simp only [List.set_cons_zero])
    refine wpAny_ready (rs := [10]) (by kernel_rfl) (by simp) (AllReady.cons rfl (fun K hK => ?_) (AllReady.nil))
    refine step_append_own _ rfl (.tmp 13) (.tmp 18) 95 rfl (g + 1) 5 i0 (.int .u8 0) 1 1 Tryz.underlying95 hi hz0 hz1 hz2 rfl (by decide) v m xs rfl (((HO.out.drew).alloc _)) ⟨W.heap.size, 0, none⟩ 1 1 [.int .u8 b] rfl rfl (fun j u hj => by first | exact one_new _ _ _ j u hj) (by simp [Value.oneCell']) (by unfold maxLen; omega) (by omega) (by simp; omega) ?_
    intro v1 w1 hown1 hg1 hat1
    obtain ⟨a1, c1, rfl⟩ := own_slice hown1
    have hE1 : w1.heap[g]? = W.heap[g]? := (hg1.block g (by simp; omega) (fun e => by have := own_base HO.out g e.symm; omega)).trans (Below.heap_alloc _ _ _ (by show g < W.heap.size; omega))
    have hS1 : w1.cell? ⟨g, 0, none⟩ = some v := (World.cell?_of_block (hg1.block g (by simp; omega) (fun e => by have := own_base HO.out g e.symm; omega))).trans (hA _)
    have hbl : ∀ S : List Nat, (∀ k, v.ownBlock = some k → k ∈ S) → Chg S W w1 := fun S hS => (((Chg.refl S W).drew).alloc _).grown hg1 (fun k hk => .inl (hS k hk))
    have hat2 : ∀ k, Value.ownBlock (.slice a1 (m + 1) c1) = some k → v.ownBlock = some k ∨ W.heap.size ≤ k := fun k hk => hat1.elim (fun e => .inl (e ▸ hk)) (fun e => .inr (by rw [hk] at e; injection e with e; rw [e]; simp))
    have hf1 : w1.frozen? ⟨g, 0, none⟩ = false := (World.frozen?_of_block (hg1.block g (by simp; omega) (fun e => by have := own_base HO.out g e.symm; omega))).trans (hFr _)
    refine hK _ _ ?_
    try clear hK
    try clear K
    repeat (first | simp only [Act.put] | simp only [List.setIfInBounds_toArray] | simp only [List.set_cons_succ] | simp only [List.set_cons_zero])
    refine wpAny_take (i := 11) (v := ?_) rfl (by kernel_rfl) (by kernel_rfl) (by kernel_rfl) (fun c a w h => hP c a _ _ w h) (Or.inl ⟨by rfl, ?_⟩) ?_
    rotate_left
    · (intro w; go_simp; (try (with_reducible rfl)))
    change wpAny _ _ _ _ _ _ (Act.put _ (some 20) _) _
    repeat (first | simp only [Act.put] | simp only [List.setIfInBounds_toArray] | simp only [List.set_cons_succ] | simp only [List.set_cons_zero])
    refine wpAny_take (i := 12) (v := ?_) rfl (by kernel_rfl) (by kernel_rfl) (by kernel_rfl) (fun c a w h => hP c a _ _ w h) (Or.inl ⟨by rfl, ?_⟩) ?_
    rotate_left
    · (intro w; go_simp; (try (with_reducible rfl)))
    change wpAny _ _ _ _ _ _ (Act.put _ (some 21) _) _
    repeat (first | simp only [Act.put] | simp only [List.setIfInBounds_toArray] | simp only [List.set_cons_succ] | simp only [List.set_cons_zero])
    refine wpAny_ready (rs := [13]) (by kernel_rfl) (by simp) (AllReady.cons rfl (fun K hK => ?_) (AllReady.nil))
    go_simp
    refine hK _ _ ?_
    try clear hK
    try clear K
    repeat (first | simp only [Act.put] | simp only [List.setIfInBounds_toArray] | simp only [List.set_cons_succ] | simp only [List.set_cons_zero])
    refine wpAny_done (by kernel_rfl) ?_ _
    exact hQ _ _ hown1 hE1 hbl hat2 _ _ _ _ _ _ _ _ _ _ _ _ _
set_option maxRecDepth 1000000 in
set_option maxHeartbeats 8000000 in
theorem wnum_reg6 {Q : Exit → Act → World → Prop} {u2 u3 u5 u6 u7 u8 u9 u10 u11 u12 u13 u14 u15 u16 u17 u18 u19 u20 u21 : Value} (hP : ∀ c a d v w, Q (.panic c) (Act.put a d v) w → Q (.panic c) a w) {g m : Nat} {n b : Int} {v : Value} {xs : List Value} {W : World} {i0 : TypeInfo} (hi : Tryz.prog.info? 5 = some i0) (hz0 : i0.zero = some (.int .u8 0)) (hz1 : i0.size = 1) (hz2 : i0.bytes = 1) (hm : m < 1000000000) (hgl : g < W.heap.size) (hb : IntKind.u8.wrap (n / 256) = b) (HO : Hid (W.ownsRow (g + 1) 5 1 v m xs)) (hA : ∀ ob, (W.drew.alloc ob).cell? ⟨g, 0, none⟩ = some v) (hFr : ∀ ob, (W.drew.alloc ob).frozen? ⟨g, 0, none⟩ = false) (y0 : W.cell? ⟨g, 0, none⟩ = some v)
    (hQ : ∀ (v1 : Value) (w1 : World) (_ : w1.ownsRow (g + 1) 5 1 v1 (m + 1) (xs ++ [.int .u8 b])) (_ : w1.heap[g]? = W.heap[g]?) (_ : ∀ S : List Nat, (∀ k, v.ownBlock = some k → k ∈ S) → Chg S W w1) (_ : ∀ k, v1.ownBlock = some k → v.ownBlock = some k ∨ W.heap.size ≤ k) (x9 x10 x11 x12 x13 x14 x15 x16 x17 x18 x19 x20 x21 : Value), Q .normal ⟨#[.pointer (some ⟨g, 0, none⟩), .int .u64 n, u2, u3, .int .i64 8, u5, u6, u7, u8, x9, x10, x11, x12, x13, x14, x15, x16, x17, x18, x19, x20, x21], []⟩ (w1.setCell ⟨g, 0, none⟩ v1)) :
    Code.wp Tryz.prog (regionOf Tryz.f107 3) Q ⟨#[.pointer (some ⟨g, 0, none⟩), .int .u64 n, u2, u3, .int .i64 8, u5, u6, u7, u8, u9, u10, u11, u12, u13, u14, u15, u16, u17, u18, u19, u20, u21], []⟩ W := by
  conv => arg 2; whnf
  refine wp_region_any (by kernel_rfl) ?_
  change wpAny _ _ _ _ _ _ _ (World.drew _)
  refine wpAny_take (i := 0) (v := ?_) rfl (by kernel_rfl) (by kernel_rfl) (by kernel_rfl) (fun c a w h => hP c a _ _ w h) (Or.inl ⟨by rfl, ?_⟩) ?_
  rotate_left
  · (intro w; go_simp; (try (with_reducible rfl)))
  change wpAny _ _ _ _ _ _ (Act.put _ (some 9) _) _
  repeat (first | simp only [Act.put] | simp only [List.setIfInBounds_toArray] | simp only [List.set_cons_succ] | simp only [List.set_cons_zero])
  refine wpAny_take (i := 1) (v := ?_) rfl (by kernel_rfl) (by kernel_rfl) (by kernel_rfl) (fun c a w h => hP c a _ _ w h) (Or.inl ⟨by rfl, ?_⟩) ?_
  rotate_left
  · (intro w; go_simp; (try (with_reducible rfl)))
  change wpAny _ _ _ _ _ _ (Act.put _ (some 10) _) _
  repeat (first | simp only [Act.put] | simp only [List.setIfInBounds_toArray] | simp only [List.set_cons_succ] | simp only [List.set_cons_zero])
  refine wpAny_take (i := 2) (v := ?_) rfl (by kernel_rfl) (by kernel_rfl) (by kernel_rfl) (fun c a w h => hP c a _ _ w h) (Or.inl ⟨by rfl, ?_⟩) ?_
  rotate_left
  · (intro w; go_simp; (try (with_reducible rfl)))
  change wpAny _ _ _ _ _ _ (Act.put _ (some 11) _) _
  repeat (first | simp only [Act.put] | simp only [List.setIfInBounds_toArray] | simp only [List.set_cons_succ] | simp only [List.set_cons_zero])
  refine wpAny_take (i := 3) (v := ?_) rfl (by kernel_rfl) (by kernel_rfl) (by kernel_rfl) (fun c a w h => hP c a _ _ w h) (Or.inl ⟨by rfl, ?_⟩) ?_
  rotate_left
  · (intro w; go_simp; (try (with_reducible rfl)))
  change wpAny _ _ _ _ _ _ (Act.put _ (some 12) _) _
  repeat (first | simp only [Act.put] | simp only [List.setIfInBounds_toArray] | simp only [List.set_cons_succ] | simp only [List.set_cons_zero])
  refine wpAny_take (i := 5) (v := ?_) rfl (by kernel_rfl) (by kernel_rfl) (by kernel_rfl) (fun c a w h => hP c a _ _ w h) (Or.inl ⟨by rfl, ?_⟩) ?_
  rotate_left
  · (intro w; go_simp; (try (with_reducible rfl)))
  change wpAny _ _ _ _ _ _ (Act.put _ (some 14) _) _
  repeat (first | simp only [Act.put] | simp only [List.setIfInBounds_toArray] | simp only [List.set_cons_succ] | simp only [List.set_cons_zero])
  refine wpAny_take (i := 6) (v := ?_) rfl (by kernel_rfl) (by kernel_rfl) (by kernel_rfl) (fun c a w h => hP c a _ _ w h) (Or.inl ⟨by rfl, ?_⟩) ?_
  rotate_left
  · (intro w; go_simp; (try (with_reducible rfl)))
  change wpAny _ _ _ _ _ _ (Act.put _ (some 15) _) _
  repeat (first | simp only [Act.put] | simp only [List.setIfInBounds_toArray] | simp only [List.set_cons_succ] | simp only [List.set_cons_zero])
  refine wpAny_take (i := 7) (v := ?_) rfl (by kernel_rfl) (by kernel_rfl) (by kernel_rfl) (fun c a w h => hP c a _ _ w h) (Or.inl ⟨by rfl, ?_⟩) ?_
  rotate_left
  · (intro w; go_simp; (try (with_reducible rfl)))
  change wpAny _ _ _ _ _ _ (Act.put _ (some 16) _) _
  repeat (first | simp only [Act.put] | simp only [List.setIfInBounds_toArray] | simp only [List.set_cons_succ] | simp only [List.set_cons_zero])
  refine wpAny_take (i := 8) (v := ?_) rfl (by kernel_rfl) (by kernel_rfl) (by kernel_rfl) (fun c a w h => hP c a _ _ w h) (Or.inl ⟨by rfl, ?_⟩) ?_
  rotate_left
  · (intro w; go_simp; (try (with_reducible rfl)))
  change wpAny _ _ _ _ _ _ (Act.put _ (some 17) _) _
  repeat (first | simp only [Act.put] | simp only [List.setIfInBounds_toArray] | simp only [List.set_cons_succ] | simp only [List.set_cons_zero])
  refine wpAny_ready (rs := [4, 9]) (by kernel_rfl) (by simp) (AllReady.cons rfl (fun K hK => ?_) (AllReady.cons rfl (fun K hK => ?_) (AllReady.nil)))
  · skip
    go_simp
    refine hK _ _ ?_
    try clear hK
    try clear K
    repeat (first | simp only [Act.put] | simp only [List.setIfInBounds_toArray] | simp only [List.set_cons_succ] | simp only [List.set_cons_zero])
    refine wpAny_ready (rs := [9]) (by kernel_rfl) (by simp) (AllReady.cons rfl (fun K hK => ?_) (AllReady.nil))
    go_simp
    refine hK _ _ ?_
    try clear hK
    try clear K
    repeat (first | simp only [Act.put] | simp only [List.setIfInBounds_toArray] | simp only [List.set_cons_succ] | simp only [List.set_cons_zero])
    refine wpAny_ready (rs := [10]) (by kernel_rfl) (by simp) (AllReady.cons rfl (fun K hK => ?_) (AllReady.nil))
    refine step_append_own _ rfl (.tmp 13) (.tmp 18) 95 rfl (g + 1) 5 i0 (.int .u8 0) 1 1 Tryz.underlying95 hi hz0 hz1 hz2 rfl (by decide) v m xs rfl (((HO.out.drew).alloc _)) ⟨W.heap.size, 0, none⟩ 1 1 [.int .u8 b] rfl rfl (fun j u hj => by first | exact one_new _ _ _ j u hj) (by simp [Value.oneCell']) (by unfold maxLen; omega) (by omega) (by simp; omega) ?_
    intro v1 w1 hown1 hg1 hat1
    obtain ⟨a1, c1, rfl⟩ := own_slice hown1
    have hE1 : w1.heap[g]? = W.heap[g]? := (hg1.block g (by simp; omega) (fun e => by have := own_base HO.out g e.symm; omega)).trans (Below.heap_alloc _ _ _ (by show g < W.heap.size; omega))
    have hS1 : w1.cell? ⟨g, 0, none⟩ = some v := (World.cell?_of_block (hg1.block g (by simp; omega) (fun e => by have := own_base HO.out g e.symm; omega))).trans (hA _)
    have hbl : ∀ S : List Nat, (∀ k, v.ownBlock = some k → k ∈ S) → Chg S W w1 := fun S hS => (((Chg.refl S W).drew).alloc _).grown hg1 (fun k hk => .inl (hS k hk))
    have hat2 : ∀ k, Value.ownBlock (.slice a1 (m + 1) c1) = some k → v.ownBlock = some k ∨ W.heap.size ≤ k := fun k hk => hat1.elim (fun e => .inl (e ▸ hk)) (fun e => .inr (by rw [hk] at e; injection e with e; rw [e]; simp))
    have hf1 : w1.frozen? ⟨g, 0, none⟩ = false := (World.frozen?_of_block (hg1.block g (by simp; omega) (fun e => by have := own_base HO.out g e.symm; omega))).trans (hFr _)
    refine hK _ _ ?_
    try clear hK
    try clear K
    repeat (first | simp only [Act.put] | simp only [List.setIfInBounds_toArray] | simp only [List.set_cons_succ] | simp only [List.set_cons_zero])
    refine wpAny_take (i := 11) (v := ?_) rfl (by kernel_rfl) (by kernel_rfl) (by kernel_rfl) (fun c a w h => hP c a _ _ w h) (Or.inl ⟨by rfl, ?_⟩) ?_
    rotate_left
    · (intro w; go_simp; (try (with_reducible rfl)))
    change wpAny _ _ _ _ _ _ (Act.put _ (some 20) _) _
    repeat (first | simp only [Act.put] | simp only [List.setIfInBounds_toArray] | simp only [List.set_cons_succ] | simp only [List.set_cons_zero])
    refine wpAny_take (i := 12) (v := ?_) rfl (by kernel_rfl) (by kernel_rfl) (by kernel_rfl) (fun c a w h => hP c a _ _ w h) (Or.inl ⟨by rfl, ?_⟩) ?_
    rotate_left
    · (intro w; go_simp; (try (with_reducible rfl)))
    change wpAny _ _ _ _ _ _ (Act.put _ (some 21) _) _
    repeat (first | simp only [Act.put] | simp only [List.setIfInBounds_toArray] | simp only [List.set_cons_succ] | simp only [List.set_cons_zero])
    refine wpAny_ready (rs := [13]) (by kernel_rfl) (by simp) (AllReady.cons rfl (fun K hK => ?_) (AllReady.nil))
    go_simp
    refine hK _ _ ?_
    try clear hK
    try clear K
    repeat (first | simp only [Act.put] | simp only [List.setIfInBounds_toArray] | simp only [List.set_cons_succ] | simp only [List.set_cons_zero])
    refine wpAny_done (by kernel_rfl) ?_ _
    exact hQ _ _ hown1 hE1 hbl hat2 _ _ _ _ _ _ _ _ _ _ _ _ _
  · skip
    go_simp
    refine hK _ _ ?_
    try clear hK
    try clear K
    repeat (first | simp only [Act.put] | simp only [List.setIfInBounds_toArray] | simp only [List.set_cons_succ] | simp only [List.set_cons_zero])
    refine wpAny_ready (rs := [4]) (by kernel_rfl) (by simp) (AllReady.cons rfl (fun K hK => ?_) (AllReady.nil))
    go_simp
    refine hK _ _ ?_
    try clear hK
    try clear K
    repeat (first | simp only [Act.put] | simp only [List.setIfInBounds_toArray] | simp only [List.set_cons_succ] | simp only [List.set_cons_zero])
    refine wpAny_ready (rs := [10]) (by kernel_rfl) (by simp) (AllReady.cons rfl (fun K hK => ?_) (AllReady.nil))
    refine step_append_own _ rfl (.tmp 13) (.tmp 18) 95 rfl (g + 1) 5 i0 (.int .u8 0) 1 1 Tryz.underlying95 hi hz0 hz1 hz2 rfl (by decide) v m xs rfl (((HO.out.drew).alloc _)) ⟨W.heap.size, 0, none⟩ 1 1 [.int .u8 b] rfl rfl (fun j u hj => by first | exact one_new _ _ _ j u hj) (by simp [Value.oneCell']) (by unfold maxLen; omega) (by omega) (by simp; omega) ?_
    intro v1 w1 hown1 hg1 hat1
    obtain ⟨a1, c1, rfl⟩ := own_slice hown1
    have hE1 : w1.heap[g]? = W.heap[g]? := (hg1.block g (by simp; omega) (fun e => by have := own_base HO.out g e.symm; omega)).trans (Below.heap_alloc _ _ _ (by show g < W.heap.size; omega))
    have hS1 : w1.cell? ⟨g, 0, none⟩ = some v := (World.cell?_of_block (hg1.block g (by simp; omega) (fun e => by have := own_base HO.out g e.symm; omega))).trans (hA _)
    have hbl : ∀ S : List Nat, (∀ k, v.ownBlock = some k → k ∈ S) → Chg S W w1 := fun S hS => (((Chg.refl S W).drew).alloc _).grown hg1 (fun k hk => .inl (hS k hk))
    have hat2 : ∀ k, Value.ownBlock (.slice a1 (m + 1) c1) = some k → v.ownBlock = some k ∨ W.heap.size ≤ k := fun k hk => hat1.elim (fun e => .inl (e ▸ hk)) (fun e => .inr (by rw [hk] at e; injection e with e; rw [e]; simp))
    have hf1 : w1.frozen? ⟨g, 0, none⟩ = false := (World.frozen?_of_block (hg1.block g (by simp; omega) (fun e => by have := own_base HO.out g e.symm; omega))).trans (hFr _)
    refine hK _ _ ?_
    try clear hK
    try clear K
    repeat (first | simp only [Act.put] | simp only [List.setIfInBounds_toArray] | simp only [List.set_cons_succ] | simp only [List.set_cons_zero])
    refine wpAny_take (i := 11) (v := ?_) rfl (by kernel_rfl) (by kernel_rfl) (by kernel_rfl) (fun c a w h => hP c a _ _ w h) (Or.inl ⟨by rfl, ?_⟩) ?_
    rotate_left
    · (intro w; go_simp; (try (with_reducible rfl)))
    change wpAny _ _ _ _ _ _ (Act.put _ (some 20) _) _
    repeat (first | simp only [Act.put] | simp only [List.setIfInBounds_toArray] | simp only [List.set_cons_succ] | simp only [List.set_cons_zero])
    refine wpAny_take (i := 12) (v := ?_) rfl (by kernel_rfl) (by kernel_rfl) (by kernel_rfl) (fun c a w h => hP c a _ _ w h) (Or.inl ⟨by rfl, ?_⟩) ?_
    rotate_left
    · (intro w; go_simp; (try (with_reducible rfl)))
    change wpAny _ _ _ _ _ _ (Act.put _ (some 21) _) _
    repeat (first | simp only [Act.put] | simp only [List.setIfInBounds_toArray] | simp only [List.set_cons_succ] | simp only [List.set_cons_zero])
    refine wpAny_ready (rs := [13]) (by kernel_rfl) (by simp) (AllReady.cons rfl (fun K hK => ?_) (AllReady.nil))
    go_simp
    refine hK _ _ ?_
    try clear hK
    try clear K
    repeat (first | simp only [Act.put] | simp only [List.setIfInBounds_toArray] | simp only [List.set_cons_succ] | simp only [List.set_cons_zero])
    refine wpAny_done (by kernel_rfl) ?_ _
    exact hQ _ _ hown1 hE1 hbl hat2 _ _ _ _ _ _ _ _ _ _ _ _ _
set_option maxRecDepth 1000000 in
set_option maxHeartbeats 8000000 in
theorem wnum_reg7 {Q : Exit → Act → World → Prop} {u2 u3 u5 u6 u7 u8 u9 u10 u11 u12 u13 u14 u15 u16 u17 u18 u19 u20 u21 : Value} (hP : ∀ c a d v w, Q (.panic c) (Act.put a d v) w → Q (.panic c) a w) {g m : Nat} {n b : Int} {v : Value} {xs : List Value} {W : World} {i0 : TypeInfo} (hi : Tryz.prog.info? 5 = some i0) (hz0 : i0.zero = some (.int .u8 0)) (hz1 : i0.size = 1) (hz2 : i0.bytes = 1) (hm : m < 1000000000) (hgl : g < W.heap.size) (hb : IntKind.u8.wrap (n) = b) (HO : Hid (W.ownsRow (g + 1) 5 1 v m xs)) (hA : ∀ ob, (W.drew.alloc ob).cell? ⟨g, 0, none⟩ = some v) (hFr : ∀ ob, (W.drew.alloc ob).frozen? ⟨g, 0, none⟩ = false) (y0 : W.cell? ⟨g, 0, none⟩ = some v)
    (hQ : ∀ (v1 : Value) (w1 : World) (_ : w1.ownsRow (g + 1) 5 1 v1 (m + 1) (xs ++ [.int .u8 b])) (_ : w1.heap[g]? = W.heap[g]?) (_ : ∀ S : List Nat, (∀ k, v.ownBlock = some k → k ∈ S) → Chg S W w1) (_ : ∀ k, v1.ownBlock = some k → v.ownBlock = some k ∨ W.heap.size ≤ k) (x9 x10 x11 x12 x13 x14 x15 x16 x17 x18 x19 x20 x21 : Value), Q .normal ⟨#[.pointer (some ⟨g, 0, none⟩), .int .u64 n, u2, u3, .int .i64 0, u5, u6, u7, u8, x9, x10, x11, x12, x13, x14, x15, x16, x17, x18, x19, x20, x21], []⟩ (w1.setCell ⟨g, 0, none⟩ v1)) :
    Code.wp Tryz.prog (regionOf Tryz.f107 3) Q ⟨#[.pointer (some ⟨g, 0, none⟩), .int .u64 n, u2, u3, .int .i64 0, u5, u6, u7, u8, u9, u10, u11, u12, u13, u14, u15, u16, u17, u18, u19, u20, u21], []⟩ W := by
  conv => arg 2; whnf
  refine wp_region_any (by kernel_rfl) ?_
  change wpAny _ _ _ _ _ _ _ (World.drew _)
  refine wpAny_take (i := 0) (v := ?_) rfl (by kernel_rfl) (by kernel_rfl) (by kernel_rfl) (fun c a w h => hP c a _ _ w h) (Or.inl ⟨by rfl, ?_⟩) ?_
  rotate_left
  · (intro w; go_simp; (try (with_reducible rfl)))
  change wpAny _ _ _ _ _ _ (Act.put _ (some 9) _) _
  repeat (first | simp only [Act.put] | simp only [List.setIfInBounds_toArray] | simp only [List.set_cons_succ] | simp only [List.set_cons_zero])
  refine wpAny_take (i := 1) (v := ?_) rfl (by kernel_rfl) (by kernel_rfl) (by kernel_rfl) (fun c a w h => hP c a _ _ w h) (Or.inl ⟨by rfl, ?_⟩) ?_
  rotate_left
  · (intro w; go_simp; (try (with_reducible rfl)))
  change wpAny _ _ _ _ _ _ (Act.put _ (some 10) _) _
  repeat (first | simp only [Act.put] | simp only [List.setIfInBounds_toArray] | simp only [List.set_cons_succ] | simp only [List.set_cons_zero])
  refine wpAny_take (i := 2) (v := ?_) rfl (by kernel_rfl) (by kernel_rfl) (by kernel_rfl) (fun c a w h => hP c a _ _ w h) (Or.inl ⟨by rfl, ?_⟩) ?_
  rotate_left
  · (intro w; go_simp; (try (with_reducible rfl)))
  change wpAny _ _ _ _ _ _ (Act.put _ (some 11) _) _
  repeat (first | simp only [Act.put] | simp only [List.setIfInBounds_toArray] | simp only [List.set_cons_succ] | simp only [List.set_cons_zero])
  refine wpAny_take (i := 3) (v := ?_) rfl (by kernel_rfl) (by kernel_rfl) (by kernel_rfl) (fun c a w h => hP c a _ _ w h) (Or.inl ⟨by rfl, ?_⟩) ?_
  rotate_left
  · (intro w; go_simp; (try (with_reducible rfl)))
  change wpAny _ _ _ _ _ _ (Act.put _ (some 12) _) _
  repeat (first | simp only [Act.put] | simp only [List.setIfInBounds_toArray] | simp only [List.set_cons_succ] | simp only [List.set_cons_zero])
  refine wpAny_take (i := 5) (v := ?_) rfl (by kernel_rfl) (by kernel_rfl) (by kernel_rfl) (fun c a w h => hP c a _ _ w h) (Or.inl ⟨by rfl, ?_⟩) ?_
  rotate_left
  · (intro w; go_simp; (try (with_reducible rfl)))
  change wpAny _ _ _ _ _ _ (Act.put _ (some 14) _) _
  repeat (first | simp only [Act.put] | simp only [List.setIfInBounds_toArray] | simp only [List.set_cons_succ] | simp only [List.set_cons_zero])
  refine wpAny_take (i := 6) (v := ?_) rfl (by kernel_rfl) (by kernel_rfl) (by kernel_rfl) (fun c a w h => hP c a _ _ w h) (Or.inl ⟨by rfl, ?_⟩) ?_
  rotate_left
  · (intro w; go_simp; (try (with_reducible rfl)))
  change wpAny _ _ _ _ _ _ (Act.put _ (some 15) _) _
  repeat (first | simp only [Act.put] | simp only [List.setIfInBounds_toArray] | simp only [List.set_cons_succ] | simp only [List.set_cons_zero])
  refine wpAny_take (i := 7) (v := ?_) rfl (by kernel_rfl) (by kernel_rfl) (by kernel_rfl) (fun c a w h => hP c a _ _ w h) (Or.inl ⟨by rfl, ?_⟩) ?_
  rotate_left
  · (intro w; go_simp; (try (with_reducible rfl)))
  change wpAny _ _ _ _ _ _ (Act.put _ (some 16) _) _
  repeat (first | simp only [Act.put] | simp only [List.setIfInBounds_toArray] | simp only [List.set_cons_succ] | simp only [List.set_cons_zero])
  refine wpAny_take (i := 8) (v := ?_) rfl (by kernel_rfl) (by kernel_rfl) (by kernel_rfl) (fun c a w h => hP c a _ _ w h) (Or.inl ⟨by rfl, ?_⟩) ?_
  rotate_left
  · (intro w; go_simp; (try (with_reducible rfl)))
  change wpAny _ _ _ _ _ _ (Act.put _ (some 17) _) _
  repeat (first | simp only [Act.put] | simp only [List.setIfInBounds_toArray] | simp only [List.set_cons_succ] | simp only [List.set_cons_zero])
  refine wpAny_ready (rs := [4, 9]) (by kernel_rfl) (by simp) (AllReady.cons rfl (fun K hK => ?_) (AllReady.cons rfl (fun K hK => ?_) (AllReady.nil)))
  · skip
    go_simp
    refine hK _ _ ?_
    try clear hK
    try clear K
    repeat (first | simp only [Act.put] | simp only [List.setIfInBounds_toArray] | simp only [List.set_cons_succ] | simp only [List.set_cons_zero])
    refine wpAny_ready (rs := [9]) (by kernel_rfl) (by simp) (AllReady.cons rfl (fun K hK => ?_) (AllReady.nil))
    go_simp
    refine hK _ _ ?_
    try clear hK
    try clear K
    repeat (first | simp only [Act.put] | simp only [List.setIfInBounds_toArray] | simp only [List.set_cons_succ] | simp only [List.set_cons_zero])
    refine wpAny_ready (rs := [10]) (by kernel_rfl) (by simp) (AllReady.cons rfl (fun K hK => ?_) (AllReady.nil))
    refine step_append_own _ rfl (.tmp 13) (.tmp 18) 95 rfl (g + 1) 5 i0 (.int .u8 0) 1 1 Tryz.underlying95 hi hz0 hz1 hz2 rfl (by decide) v m xs rfl (((HO.out.drew).alloc _)) ⟨W.heap.size, 0, none⟩ 1 1 [.int .u8 b] rfl rfl (fun j u hj => by first | exact one_new _ _ _ j u hj) (by simp [Value.oneCell']) (by unfold maxLen; omega) (by omega) (by simp; omega) ?_
    intro v1 w1 hown1 hg1 hat1
    obtain ⟨a1, c1, rfl⟩ := own_slice hown1
    have hE1 : w1.heap[g]? = W.heap[g]? := (hg1.block g (by simp; omega) (fun e => by have := own_base HO.out g e.symm; omega)).trans (Below.heap_alloc _ _ _ (by show g < W.heap.size; omega))
    have hS1 : w1.cell? ⟨g, 0, none⟩ = some v := (World.cell?_of_block (hg1.block g (by simp; omega) (fun e => by have := own_base HO.out g e.symm; omega))).trans (hA _)
    have hbl : ∀ S : List Nat, (∀ k, v.ownBlock = some k → k ∈ S) → Chg S W w1 := fun S hS => (((Chg.refl S W).drew).alloc _).grown hg1 (fun k hk => .inl (hS k hk))
    have hat2 : ∀ k, Value.ownBlock (.slice a1 (m + 1) c1) = some k → v.ownBlock = some k ∨ W.heap.size ≤ k := fun k hk => hat1.elim (fun e => .inl (e ▸ hk)) (fun e => .inr (by rw [hk] at e; injection e with e; rw [e]; simp))
    have hf1 : w1.frozen? ⟨g, 0, none⟩ = false := (World.frozen?_of_block (hg1.block g (by simp; omega) (fun e => by have := own_base HO.out g e.symm; omega))).trans (hFr _)
    refine hK _ _ ?_
    try clear hK
    try clear K
    repeat (first | simp only [Act.put] | simp only [List.setIfInBounds_toArray] | simp only [List.set_cons_succ] | simp only [List.set_cons_zero])
    refine wpAny_take (i := 11) (v := ?_) rfl (by kernel_rfl) (by kernel_rfl) (by kernel_rfl) (fun c a w h => hP c a _ _ w h) (Or.inl ⟨by rfl, ?_⟩) ?_
    rotate_left
    · (intro w; go_simp; (try (with_reducible rfl)))
    change wpAny _ _ _ _ _ _ (Act.put _ (some 20) _) _
    repeat (first | simp only [Act.put] | simp only [List.setIfInBounds_toArray] | simp only [List.set_cons_succ] | simp only [List.set_cons_zero])
    refine wpAny_take (i := 12) (v := ?_) rfl (by kernel_rfl) (by kernel_rfl) (by kernel_rfl) (fun c a w h => hP c a _ _ w h) (Or.inl ⟨by rfl, ?_⟩) ?_
    rotate_left
    · (intro w; go_simp; (try (with_reducible rfl)))
    change wpAny _ _ _ _ _ _ (Act.put _ (some 21) _) _
    repeat (first | simp only [Act.put] | simp only [List.setIfInBounds_toArray] | simp only [List.set_cons_succ] | simp only [List.set_cons_zero])
    refine wpAny_ready (rs := [13]) (by kernel_rfl) (by simp) (AllReady.cons rfl (fun K hK => ?_) (AllReady.nil))
    go_simp
    refine hK _ _ ?_
    try clear hK
    try clear K
    repeat (first | simp only [Act.put] | simp only [List.setIfInBounds_toArray] | simp only [List.set_cons_succ] | simp only [List.set_cons_zero])
    refine wpAny_done (by kernel_rfl) ?_ _
    exact hQ _ _ hown1 hE1 hbl hat2 _ _ _ _ _ _ _ _ _ _ _ _ _
  · skip
    go_simp
    refine hK _ _ ?_
    try clear hK
    try clear K
    repeat (first | simp only [Act.put] | simp only [List.setIfInBounds_toArray] | simp only [List.set_cons_succ] | simp only [List.set_cons_zero])
    refine wpAny_ready (rs := [4]) (by kernel_rfl) (by simp) (AllReady.cons rfl (fun K hK => ?_) (AllReady.nil))
    go_simp
    refine hK _ _ ?_
    try clear hK
    try clear K
    repeat (first | simp only [Act.put] | simp only [List.setIfInBounds_toArray] | simp only [List.set_cons_succ] | simp only [List.set_cons_zero])
    refine wpAny_ready (rs := [10]) (by kernel_rfl) (by simp) (AllReady.cons rfl (fun K hK => ?_) (AllReady.nil))
    refine step_append_own _ rfl (.tmp 13) (.tmp 18) 95 rfl (g + 1) 5 i0 (.int .u8 0) 1 1 Tryz.underlying95 hi hz0 hz1 hz2 rfl (by decide) v m xs rfl (((HO.out.drew).alloc _)) ⟨W.heap.size, 0, none⟩ 1 1 [.int .u8 b] rfl rfl (fun j u hj => by first | exact one_new _ _ _ j u hj) (by simp [Value.oneCell']) (by unfold maxLen; omega) (by omega) (by simp; omega) ?_
    intro v1 w1 hown1 hg1 hat1
    obtain ⟨a1, c1, rfl⟩ := own_slice hown1
    have hE1 : w1.heap[g]? = W.heap[g]? := (hg1.block g (by simp; omega) (fun e => by have := own_base HO.out g e.symm; omega)).trans (Below.heap_alloc _ _ _ (by show g < W.heap.size; omega))
    have hS1 : w1.cell? ⟨g, 0, none⟩ = some v := (World.cell?_of_block (hg1.block g (by simp; omega) (fun e => by have := own_base HO.out g e.symm; omega))).trans (hA _)
    have hbl : ∀ S : List Nat, (∀ k, v.ownBlock = some k → k ∈ S) → Chg S W w1 := fun S hS => (((Chg.refl S W).drew).alloc _).grown hg1 (fun k hk => .inl (hS k hk))
    have hat2 : ∀ k, Value.ownBlock (.slice a1 (m + 1) c1) = some k → v.ownBlock = some k ∨ W.heap.size ≤ k := fun k hk => hat1.elim (fun e => .inl (e ▸ hk)) (fun e => .inr (by rw [hk] at e; injection e with e; rw [e]; simp))
    have hf1 : w1.frozen? ⟨g, 0, none⟩ = false := (World.frozen?_of_block (hg1.block g (by simp; omega) (fun e => by have := own_base HO.out g e.symm; omega))).trans (hFr _)
    refine hK _ _ ?_
    try clear hK
    try clear K
    repeat (first | simp only [Act.put] | simp only [List.setIfInBounds_toArray] | simp only [List.set_cons_succ] | simp only [List.set_cons_zero])
    refine wpAny_take (i := 11) (v := ?_) rfl (by kernel_rfl) (by kernel_rfl) (by kernel_rfl) (fun c a w h => hP c a _ _ w h) (Or.inl ⟨by rfl, ?_⟩) ?_
    rotate_left
    · (intro w; go_simp; (try (with_reducible rfl)))
    change wpAny _ _ _ _ _ _ (Act.put _ (some 20) _) _
    repeat (first | simp only [Act.put] | simp only [List.setIfInBounds_toArray] | simp only [List.set_cons_succ] | simp only [List.set_cons_zero])
    refine wpAny_take (i := 12) (v := ?_) rfl (by kernel_rfl) (by kernel_rfl) (by kernel_rfl) (fun c a w h => hP c a _ _ w h) (Or.inl ⟨by rfl, ?_⟩) ?_
    rotate_left
    · (intro w; go_simp; (try (with_reducible rfl)))
    change wpAny _ _ _ _ _ _ (Act.put _ (some 21) _) _
    repeat (first | simp only [Act.put] | simp only [List.setIfInBounds_toArray] | simp only [List.set_cons_succ] | simp only [List.set_cons_zero])
    refine wpAny_ready (rs := [13]) (by kernel_rfl) (by simp) (AllReady.cons rfl (fun K hK => ?_) (AllReady.nil))
    go_simp
    refine hK _ _ ?_
    try clear hK
    try clear K
    repeat (first | simp only [Act.put] | simp only [List.setIfInBounds_toArray] | simp only [List.set_cons_succ] | simp only [List.set_cons_zero])
    refine wpAny_done (by kernel_rfl) ?_ _
    exact hQ _ _ hown1 hE1 hbl hat2 _ _ _ _ _ _ _ _ _ _ _ _ _
end Go.Proofs.YteabcpmpcbjicaaGreat
