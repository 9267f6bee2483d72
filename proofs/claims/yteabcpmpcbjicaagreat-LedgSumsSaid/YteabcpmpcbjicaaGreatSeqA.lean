
import Derived.Test.YteabcpmpcbjicaaGreatQueueA
import Derived.RangeFuncNested
import Derived.RangeFuncBound
import Derived.RangeFuncCalls
import Derived.RangeFuncLeaves
import Derived.RangeFuncBox
import Derived.Shelf.Abstract
import Derived.OwnWalkIn
import Derived.TacticsInMore
import Derived.LoopNIn
import Derived.LoopIn
import Derived.Maps.AppendAt
namespace Go.Proofs.YteabcpmpcbjicaaGreat
set_option linter.unusedVariables false
open Go Go.Proofs Go.RowKit Go.Shelf
attribute [local go_sem] Oper.semAt_some

theorem take_snocO {l : List Ord} {k : Nat} (h : k < l.length) : l.take (k + 1) = l.take k ++ [l.getD k Ord.zero] := by
  rw [List.take_succ_eq_append_getElem h]; simp [List.getD, h]

set_option maxRecDepth 100000 in
set_option maxHeartbeats 2000000 in
/-- slices.Values's literal: each order of a row, for every body that keeps what lay below n₀. -/
theorem valuesLit_in (F : Fence) (n : Nat) (hf : F.fn 177) (hro : F.round = none) (hn : 1 ≤ n) (l Bs n₀ s cap B0 : Nat) (zs : List Ord) (hlen : zs.length ≤ 9223372036854775807) (hlc : zs.length ≤ cap) (hs : s < n₀) (J Jx : List Ord → World → Prop) (hJ : AbidesFrom B0 J)
    (hY : ∀ pre x W, J pre W → pre.length < zs.length → YieldAt F (n - 1) Tryz.prog l #[ov x] W fun e W' =>
      (e = .returned (.bool true) ∧ J (pre ++ [x]) W' ∧ Below n₀ W W') ∨ (e = .returned (.bool false) ∧ Jx (pre ++ [x]) W'))
    (W : World) (hn0 : n₀ ≤ W.heap.size) (hBs : W.cell? ⟨Bs, 0, none⟩ = some (.slice (some ⟨s, 0, none⟩) zs.length cap)) (hc : Orow W s zs) (h0 : J [] W) :
    CallsIn F n Tryz.prog 177 #[.func (.yield l) #[] #[], .pointer (some ⟨Bs, 0, none⟩)] W fun e W' => (∃ v, e = .returned v) ∧
      (J zs W' ∨ (∃ pre, pre <+: zs ∧ Jx pre W')) := by
  have HC := Lib.hid hc
  clear hc
  have HY := Lib.hid hY
  clear hY
  refine callsIn_of_wp Tryz.func177 rfl hf ?_ hro
  simp only [Tryz.ntmps177, List.size_toArray, List.length_cons, List.length_nil, Nat.reduceAdd, Nat.reduceSub, Array.replicate_succ, Array.replicate_zero, List.push_toArray, List.append_toArray, List.nil_append, List.cons_append]
  gi_wp2
  gi_loopw [7] (fun i wr => ∃ k : Nat, k ≤ zs.length ∧ i = .int .i64 k ∧ J (zs.take k) wr ∧ Below n₀ W wr) (fun i _ => zs.length - (intOf i).toNat)
  case atStart => exact ⟨0, Nat.zero_le _, rfl, by simpa using h0, Below.refl _ _⟩
  case round =>
    obtain ⟨k, hk, rfl, hJs, hnx⟩ := hrel
    by_cases hlt : k < zs.length
    · obtain ⟨c0, c1, c2, c3, c4⟩ := Orow.at (Beg.same HC.out (hnx.block s hs)) hlt
      have hts := Lib.hid (take_snocO hlt)
      have htl : (zs.take k).length < zs.length := by simp; omega
      obtain ⟨x, hx⟩ : ∃ x, zs.getD k Ord.zero = x := ⟨_, rfl⟩
      rw [hx] at hts c0 c1 c2 c3 c4
      clear hx
      have hJ1 := hJ _ _ _ none hJs (World.grownBy_alloc wr (.cells #[.int .i64 x.id, .int .i64 x.client, .bool x.buy, .int .u64 x.price, .int .u64 x.qty] 73) none) (by simp)
      obtain ⟨fn, tmps, assign, body, hy, hR⟩ := HY.out _ x _ hJ1 htl
      have k1 : (0 : Int) ≤ (k : Int) := by omega
      have k2 : (k : Int) < (zs.length : Int) := by omega
      have hsw := hnx.size
      simp only [ov] at hy
      gi_wp2
      refine hR.mono ?_
      rintro e W3 (⟨rfl, hJ3, hk3⟩ | ⟨rfl, hJx3⟩)
      · gi_wp2
        go_roundw
        case rel => exact ⟨k + 1, by omega, by go_num, by rw [hts.out]; exact hJ3, (hnx.alloc (by omega) _).trans hk3⟩
        case measure => simp [intOf]; omega
      · gi_wp2
        refine bodyPost_ret (results_none rfl _ _ _) rfl ?_
        exact ⟨⟨_, rfl⟩, .inr ⟨_, by rw [← hts.out]; exact List.take_prefix _ _, hJx3⟩⟩
    · have hz : zs.take k = zs := List.take_of_length_le (by omega)
      have HZ := Lib.hid hz
      clear hz
      gi_wp2
      go_end0
      exact ⟨⟨_, rfl⟩, .inl (by rw [← HZ.out]; exact hJs)⟩
end Go.Proofs.YteabcpmpcbjicaaGreat

namespace Go.Proofs.YteabcpmpcbjicaaGreat
set_option linter.unusedVariables false
open Go Go.Proofs Go.RowKit Go.Shelf
attribute [local go_sem] Oper.semAt_some

set_option maxRecDepth 100000 in
set_option maxHeartbeats 1000000 in
theorem valuesLit_nil (F : Fence) (n : Nat) (hf : F.fn 177) (hro : F.round = none) (l Bs : Nat) (J : List Ord → World → Prop) (W : World) (hBs : W.cell? ⟨Bs, 0, none⟩ = some (.slice none 0 0)) (h0 : J [] W) :
    CallsIn F n Tryz.prog 177 #[.func (.yield l) #[] #[], .pointer (some ⟨Bs, 0, none⟩)] W fun e W' => (∃ v, e = .returned v) ∧ J [] W' := by
  refine callsIn_of_wp Tryz.func177 rfl hf ?_ hro
  simp only [Tryz.ntmps177, List.size_toArray, List.length_cons, List.length_nil, Nat.reduceAdd, Nat.reduceSub, Array.replicate_succ, Array.replicate_zero, List.push_toArray, List.append_toArray, List.nil_append, List.cons_append]
  gi_wp2
  gi_loopw [7] (fun i wr => i = .int .i64 0 ∧ J [] wr) (fun _ _ => 0)
  case atStart => exact ⟨rfl, h0⟩
  case round =>
    obtain ⟨rfl, hJs⟩ := hrel
    gi_wp2
    go_end0
    exact ⟨⟨_, rfl⟩, hJs⟩

/-- A slice value that holds orders. -/
def Osl (w : World) (v : Value) (zs : List Ord) : Prop := (v = .slice none 0 0 ∧ zs = []) ∨ ∃ s cap, v = .slice (some ⟨s, 0, none⟩) zs.length cap ∧ zs.length ≤ cap ∧ s < w.heap.size ∧ Orow w s zs
theorem Osl.below {w w' : World} {v : Value} {zs : List Ord} (h : Osl w v zs) (hb : Below w.heap.size w w') : Osl w' v zs := by
  rcases h with h | ⟨s, cap, h1, h2, h3, h4⟩
  · exact .inl h
  · exact .inr ⟨s, cap, h1, h2, Nat.lt_of_lt_of_le h3 hb.size, Beg.same h4 (hb.block s h3)⟩
theorem Row.osl {w : World} {b s : Nat} {up : Bool} {l : List Ord} (h : Row w b s up l) : ∃ v, w.cell? ⟨b, 0, none⟩ = some v ∧ Osl w v l := by
  rcases h.mem with ⟨h1, rfl⟩ | ⟨cap, sp, h1, h2, h3, h4, h5⟩
  · exact ⟨_, h1.at (i := 0) rfl, .inl ⟨rfl, rfl⟩⟩
  · exact ⟨_, h2.at (i := 0) rfl, .inr ⟨s, cap, rfl, by omega, h.lt, sp, h3⟩⟩

theorem values_stops (F : Fence) (n : Nat) (hf : F.fn 177) (hro : F.round = none) (hn : 1 ≤ n) (Bs n₀ : Nat) (sv : Value) (zs : List Ord) (hlen : zs.length ≤ 9223372036854775807) (w : World) (hBs : Bs < w.heap.size) (hn₀ : n₀ ≤ w.heap.size)
    (hc : w.cell? ⟨Bs, 0, none⟩ = some sv) (hI : (sv = .slice none 0 0 ∧ zs = []) ∨ ∃ s cap, sv = .slice (some ⟨s, 0, none⟩) zs.length cap ∧ zs.length ≤ cap ∧ s < n₀ ∧ Orow w s zs) :
    SeqStopsK F n Tryz.prog 177 #[.pointer (some ⟨Bs, 0, none⟩)] (fun x : Ord => #[ov x]) (Below n₀) (fun ys => ys = zs) (fun pre => pre <+: zs) zs.length w := fun l J Jx W hW hJ _ hY h0 => by
  have hc' := (hW.cell (p := ⟨Bs, 0, none⟩) hBs).trans hc
  rcases hI with ⟨rfl, rfl⟩ | ⟨s, cap, rfl, hlc, hs, hr⟩
  · exact (valuesLit_nil F n hf hro l Bs J W hc' h0).mono fun e W' ⟨he, hj⟩ => ⟨he, .inl ⟨_, rfl, hj⟩⟩
  · refine (valuesLit_in F n hf hro hn l Bs n₀ s cap _ zs hlen hlc hs J Jx hJ hY W (Nat.le_trans hn₀ hW.size) hc' (Beg.same hr (hW.block s (by omega))) h0).mono ?_
    rintro e W' ⟨he, hj | ⟨pre, hp, hj⟩⟩
    · exact ⟨he, .inl ⟨_, rfl, hj⟩⟩
    · exact ⟨he, .inr ⟨_, hp, hj⟩⟩

theorem news_new (w : World) (c : Array Value) (T : TypeId) : ∀ (j : Nat) u, c.toList[j]? = some u → (w.alloc (.cells c T)).cell? ((Addr.mk w.heap.size 0 none).add j) = some u :=
  World.news_of_block (cs := c) (t := T) (fr := (0, 0)) (heap_new w _)
theorem blk_own {β : Type} (B : Nat) (T : TypeId) (f : β → List Value) : Own (fun s W => Blk W B T (f s)) := fun s X Y row hs hg hrow => by
  have hb : X.heap[B]? = some (.cells (f s).toArray T (0, 0)) := hs
  refine (hg.block B hs.lt (fun e' => ?_)).trans hb
  obtain ⟨o, ho, hc⟩ := hrow B e'.symm
  rw [hb] at ho; cases ho; cases hc

set_option maxRecDepth 100000 in
set_option maxHeartbeats 4000000 in
/-- slices.AppendSeq onto nothing. -/
theorem appendSeq_in (F : Fence) (n : Nat) (hf : F.fn 191) (hf2 : F.fn 177) (hro : F.round = none) (hn : 3 ≤ n) (Bs : Nat) (sv : Value) (zs : List Ord) (hlen : zs.length < 1000000000000) (w : World)
    (hc : w.cell? ⟨Bs, 0, none⟩ = some sv) (hI : Osl w sv zs) :
    CallsIn F n Tryz.prog 191 #[.slice none 0 0, .func (.func 177) #[] #[.pointer (some ⟨Bs, 0, none⟩)]] w fun e W' => ∃ v, e = .returned v ∧ W'.ownsRow w.heap.size 73 5 v zs.length (ocs zs) ∧ Below w.heap.size w W' := by
  have h1 : 1 ≤ n := by omega
  obtain ⟨i0, hi, hz0, hz1, hz2⟩ := info_parts info_ord
  refine callsIn_of_wp_marks Tryz.func191 rfl hf ?_ hro
  simp only [Tryz.ntmps191, List.size_toArray, List.length_cons, List.length_nil, Nat.reduceAdd, Nat.reduceSub, Array.replicate_succ, Array.replicate_zero, List.push_toArray, List.append_toArray, List.nil_append, List.cons_append]
  gi_wp2
  have hBs : Bs < w.heap.size := cell_block hc
  have bO := Boxed.new w 67 (.slice none 0 0)
  have hB0 : Below w.heap.size w (w.alloc (.cells #[.slice none 0 0] 67)) := (Below.refl _ w).alloc (Nat.le_refl _) _
  have hc0 := cell_alloc hc (.cells #[.slice none 0 0] 67)
  have hI0 : (sv = .slice none 0 0 ∧ zs = []) ∨ ∃ s cap, sv = .slice (some ⟨s, 0, none⟩) zs.length cap ∧ zs.length ≤ cap ∧ s < w.heap.size ∧ Orow (w.alloc (.cells #[.slice none 0 0] 67)) s zs := by
    rcases hI with h | ⟨s, cap, e1, e2, e3, e4⟩
    · exact .inl h
    · exact .inr ⟨s, cap, e1, e2, e3, Beg.alloc e4 _⟩
  refine wpIn_rangeFunc_ownH hro h1 (gf := 177) (lb := #[.pointer (some ⟨Bs, 0, none⟩)]) rfl hf2 (enters_of Tryz.func177 (by kernel_rfl) rfl)
    (values_stops F (n - 1) hf2 hro (by omega) Bs w.heap.size sv zs (by omega) _ (by simp; omega) (by simp) hc0 hI0) belowK_t (belowK_b (by simp)) (Below.refl _ _) (fun _ => rfl)
    (fun pre W => (∃ v, Boxed W w.heap.size 67 v ∧ W.ownsRow w.heap.size 73 5 v pre.length (ocs pre) ∧ True) ∧ Below w.heap.size w W)
    (fun _ _ _ => False)
    (OwnFrom.and (Own.from (holdsRow_own w.heap.size w.heap.size 67 73 5 (fun pre => pre.length) (fun pre => ocs pre) (fun _ _ => True)) _) (ownFrom_below (Nat.le_refl _) (by simp)))
    (fun _ _ _ _ _ hs _ _ => hs)
    ⟨⟨_, bO, World.ownsRow_nil _ _ _ _, trivial⟩, hB0⟩
    (fun x a' W => ∃ Bx, w.heap.size < Bx ∧ Blk W Bx 73 (oc x) ∧ a' = { tmps := #[.slice none 0 0, .func (.func 177) #[] #[.pointer (some ⟨Bs, 0, none⟩)], .pointer (some ⟨w.heap.size, 0, none⟩), undef, .slice none 0 0, .pointer (some ⟨Bx, 0, none⟩), .func (.func 177) #[] #[.pointer (some ⟨Bs, 0, none⟩)], ov x, undef, undef, undef, undef, undef], defers := [] })
    (fun x a' _ X Y row hs hg hr => by obtain ⟨Bx, h1, h2, h3⟩ := hs; exact ⟨Bx, h1, blk_own Bx 73 (fun (_ : Unit) => oc x) () X Y row h2 hg (fun r e => (hr r e).2), h3⟩)
    ?assign ?body ?done ?stop
  case assign =>
    rintro l pre x W K ⟨⟨v, bv, hrow, _⟩, hB⟩ hK
    have hz := hB.size
    simp only [ov]
    gi_wp2
    exact hK _ _ ((KeepsOthers.alloc _ _).from _) ((Below.refl _ W).alloc hB.size _) ⟨⟨v, bv.alloc _, hrow.alloc _, trivial⟩, hB.alloc hB.size _⟩ ⟨W.heap.size, bv.lt, Blk.new W (oc x) _, rfl⟩
  case body =>
    rintro l pre x a' W hl ⟨r, hr⟩ ⟨⟨v, hv, hrow, _⟩, hB⟩ ⟨Bx, hBx, bX, rfl⟩ hlt
    have hcv := hv.cell
    have c0 := bX.at (i := 0) rfl
    have c1 := bX.at (i := 1) rfl
    have c2 := bX.at (i := 2) rfl
    have c3 := bX.at (i := 3) rfl
    have c4 := bX.at (i := 4) rfl
    have e5 : Hid (pre.length + 1 = (pre ++ [x]).length) := by show _ = _; simp
    gi_wp2_with (gi_at_builtin; refine wpListIn_append_own _ rfl _ _ 67 rfl w.heap.size 73 i0 (ov Ord.zero) 5 40 Tryz.underlying67 hi hz0 hz1 hz2 rfl (by decide) _ _ _ rfl (hrow.alloc _) ⟨W.heap.size, 0, none⟩ 1 1 (oc x) rfl rfl (news_new W _ _) (by simp [oc, Value.oneCell']) (by unfold maxLen; omega) (by omega) (by have := hB.size; simp; omega) ?_; intro v' w1 hown' hgrow _; obtain ⟨g', cap', rfl⟩ := ownsRow_succ hown'; obtain ⟨hv1, hv2, hr2, hk2, hb2⟩ := hv.appended (by decide) hrow hB.size (Nat.le_refl _) hown' hgrow; have hc1 := hv1.cell; have hf1 := hv1.frozen)
    exact ⟨hk2.from _, hb2, ⟨⟨_, hv2, by rw [← e5.out, ocs_snoc]; exact hr2, trivial⟩, hB.trans hb2⟩⟩
  case done =>
    rintro D ys W hD rfl ⟨⟨v, hv, hrow, _⟩, hB⟩ hK
    have hcv := hv.cell
    gi_wp2
    refine ⟨by simp, .inl ⟨_, _, rfl, run_takeDeferred hK, ?_⟩⟩
    exact ⟨_, results_tmp rfl _ _ _, v, rfl, ownsRow_putObj hrow _ hK rfl, hB.trans (belowK_b (w := w) (Nat.le_refl _) W D _ _ (by simp at hD; omega) hK rfl rfl)⟩
  case stop =>
    rintro D c pre W _ _ h _
    exact h.elim
end Go.Proofs.YteabcpmpcbjicaaGreat
