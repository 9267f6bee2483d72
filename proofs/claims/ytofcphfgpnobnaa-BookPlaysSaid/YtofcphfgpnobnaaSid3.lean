import Derived.Test.YtofcphfgpnobnaaSid2
import Derived.BigRegion
import Derived.Deep.AppendLies
import Derived.Deep.RegionLaw
import Derived.RegionTactic
import Derived.Deep.CutBlock
import Derived.Deep.DeepCutAuto
namespace Go.Proofs.Ytofcphfgpnobnaa
set_option linter.unusedVariables false
open Go Go.Proofs Go.RowKit
attribute [local go_sem ↓] Go.wp_at_zero Go.wp_at_succ

theorem wp_append_own {P : Program} {o : Oper} {a : Act} (w : World) {K : Act → World → Prop} {Q : Exit → Act → World → Prop} (s x : Operand) (t : TypeId)
    (ho : o.op = .call { callee := .builtin .append, args := #[s, x], argTypes := #[t, t] })
    (base : Nat) (e : TypeId) (i : TypeInfo) (z : Value) (size bytes : Nat) (ht : P.underlying t = some (.slice e)) (hi : P.info? e = some i) (hz : i.zero = some z)
    (hsize : i.size = size) (hby : i.bytes = bytes) (hzs : z.cells.size = size) (hsz : 0 < size)
    (v : Value) (n : Nat) (xs : List Value) (hs : a.eval s = v) (hown : w.ownsRow base e size v n xs)
    (ad : Addr) (m c : Nat) (news : List Value) (hx : a.eval x = .slice (some ad) m c) (hl : news.length = m * size) (hnews : ∀ j u, news[j]? = some u → w.cell? (ad.add j) = some u) (h1 : ∀ u ∈ news, u.oneCell' = true)
    (h63 : n + m ≤ maxLen) (hbytes : (n + m) * bytes ≤ 140737488355328) (hbase : base ≤ w.heap.size)
    (h : ∀ v' w', w'.ownsRow base e size v' (n + m) (xs ++ news) → w.grownBy w' v.ownBlock → (v'.ownBlock = v.ownBlock ∨ v'.ownBlock = some w.heap.size) → K (a.put o.dst v') w') : Oper.wp P o a w K Q := by
  obtain ⟨v', w', hr, h2, h3, h4, h5⟩ := run_append_own_at (P := P) w base t o.type e i z size bytes ht hi hz hsize hby hzs hsz v n xs hown ad m c news hl hnews h1 h63 hbytes hbase
  unfold Oper.wp execOp
  simp only [ho, resolve, invoke, builtin, Sem.run_bind, Sem.run_pure, Result.andThen_ok, List.map_toArray, List.map_cons, List.map_nil, hs, hx, hr]
  exact h v' w' h2 h3 h5

theorem step_append_own {P : Program} {ops : Array Oper} {o : Oper} {a : Act} (w : World) {K : Act → World → Prop} {Q : Exit → Act → World → Prop} {E : Prop} (hgd : o.guard = none) (s x : Operand) (t : TypeId)
    (ho : o.op = .call { callee := .builtin .append, args := #[s, x], argTypes := #[t, t] })
    (base : Nat) (e : TypeId) (i : TypeInfo) (z : Value) (size bytes : Nat) (ht : P.underlying t = some (.slice e)) (hi : P.info? e = some i) (hz : i.zero = some z)
    (hsize : i.size = size) (hby : i.bytes = bytes) (hzs : z.cells.size = size) (hsz : 0 < size)
    (v : Value) (n : Nat) (xs : List Value) (hs : a.eval s = v) (hown : w.ownsRow base e size v n xs)
    (ad : Addr) (m c : Nat) (news : List Value) (hx : a.eval x = .slice (some ad) m c) (hl : news.length = m * size) (hnews : ∀ j u, news[j]? = some u → w.cell? (ad.add j) = some u) (h1 : ∀ u ∈ news, u.oneCell' = true)
    (h63 : n + m ≤ maxLen) (hbytes : (n + m) * bytes ≤ 140737488355328) (hbase : base ≤ w.heap.size)
    (h : ∀ v' w', w'.ownsRow base e size v' (n + m) (xs ++ news) → w.grownBy w' v.ownBlock → (v'.ownBlock = v.ownBlock ∨ v'.ownBlock = some w.heap.size) → K (a.put o.dst v') w') : if Region.wanted o (yielded ops a.tmps) = true then Oper.wp P o a w K Q else E := by
  have hw : Region.wanted o (yielded ops a.tmps) = true := by simp [Region.wanted, hgd]
  rw [if_pos hw]
  exact wp_append_own w s x t ho base e i z size bytes ht hi hz hsize hby hzs hsz v n xs hs hown ad m c news hx hl hnews h1 h63 hbytes hbase h

/-- A row that is owned is laid into a side. -/
theorem Sid.layOwn {w w2 : World} {g o s B : Nat} {up : Bool} {L M : List Ord} {v : Value} (h : Sid w g o s up L) (k : Chg [] w w2) (hB : g < B) (ho : w2.ownsRow B 28 5 v M.length (ocs M)) :
    ∃ s', Sid (w2.setCell ⟨g, o + 1, none⟩ v) g o s' up M ∧ (s' = s ∨ B ≤ s') := by
  by_cases hv : v = .slice none 0 0
  · subst hv
    have hM : M = [] := by
      rcases ho.2 with ⟨_, e⟩ | ⟨_, _, _, e, _⟩
      · exact List.eq_nil_of_length_eq_zero e
      · cases e
    subst hM
    have hb := Sid.chg h k (by simp) (by simp)
    obtain ⟨_, _, hc, _⟩ := hb.row
    refine ⟨s, ⟨?_, fun j => ?_, by simpa using hb.sl, none, 0, ?_, Nat.le_refl _, by unfold maxLen; omega, .inl rfl⟩, .inl rfl⟩
    · rw [World.cell?_setCell_other (h := by simp)]; exact hb.c0
    · rw [World.frozen?_setCell]; exact hb.fr j
    · rw [World.cell?_setCell_same (h := hc)]; rfl
  · obtain ⟨s', cap, rfl, p1, p2, p3, p4, _⟩ := own_beg ho hv
    exact ⟨s', h.lay k (by omega) p4 p2 p3, .inr p1⟩
theorem erase_eq (L : List Ord) (i : Nat) : L.take i ++ L.drop (i + 1) = L.eraseIdx i := (List.eraseIdx_eq_take_drop_succ L i).symm

set_option maxRecDepth 100000 in
set_option maxHeartbeats 4000000 in
/-- Drop. -/
theorem rDrop {w : World} {g o s : Nat} {up : Bool} {L : List Ord} (h : Sid w g o s up L) {i : Nat} (hi : i < L.length) (hm : L.length ≤ 1000000000000) :
    Calls Try.prog 22 #[.pointer (some ⟨g, o, none⟩), .int .i64 i] w fun e w' => e = .returned (ov (L.getD i Ord.zero)) ∧ ∃ s', Sid w' g o s' up (L.eraseIdx i) ∧ Chg [g] w w' ∧ But g (o + 1) w w' ∧ (s' = s ∨ w.heap.size ≤ s') := by
  obtain ⟨i0, hin, iz0, iz1, iz2⟩ := info_parts info_ord
  obtain ⟨c, h1, h2, h3, hr, x0, x1, x2, x3, x4⟩ := h.at hi
  have HH := Lib.hid h
  have hlt := h.lt
  generalize hx : L.getD i Ord.zero = x at *
  have HX := Lib.hid hx
  have i1 : (0 : Int) ≤ (i : Int) := by omega
  have i2 : (i : Int) < (L.length : Int) := by omega
  clear hx h hr
  go_enter Try.func22, Try.ntmps22
  go_upto_region 1 with (fail)
  have hc0 : Chg [] w (w.alloc (.cells #[.int .i64 0, .int .i64 0, .bool false, .int .u64 0, .int .u64 0] 28)) := (Chg.refl _ _).alloc _
  have hb0 : Blk (w.alloc (.cells #[.int .i64 0, .int .i64 0, .bool false, .int .u64 0, .int .u64 0] 28)) w.heap.size 28 (oc Ord.zero) := Blk.new w (oc Ord.zero) 28
  have h1' := hc0.cell h1 (by simp)
  have x0' := hc0.cell x0 (by simp)
  have x1' := hc0.cell x1 (by simp)
  have x2' := hc0.cell x2 (by simp)
  have x3' := hc0.cell x3 (by simp)
  have x4' := hc0.cell x4 (by simp)
  clear h1 x0 x1 x2 x3 x4
  generalize w.alloc _ = W0 at *
  go_upto_region 2 with (fail)
  have hc1 := hc0.alloc (.cells #[.int .i64 x.id, .int .i64 x.client, .bool x.buy, .int .u64 x.price, .int .u64 x.qty] 28)
  have hb1 := hb0.alloc (.cells #[.int .i64 x.id, .int .i64 x.client, .bool x.buy, .int .u64 x.price, .int .u64 x.qty] 28)
  have hb2 : Blk (W0.alloc (.cells #[.int .i64 x.id, .int .i64 x.client, .bool x.buy, .int .u64 x.price, .int .u64 x.qty] 28)) W0.heap.size 28 (oc x) := Blk.new W0 (oc x) 28
  have hz0 := hc0.size
  have hlb := hb0.lt
  clear hc0 hb0 h1' x0' x1' x2' x3' x4'
  generalize W0.heap.size = b2 at *
  generalize W0.alloc _ = W at *
  have hS := HH.out.chg hc1 (by simp) (by simp)
  obtain ⟨c', h1, e2, e3, hr, _⟩ := hS.at hi
  have hf := hS.fr (o + 1)
  have w1 : IntKind.i64.wrap ((i : Int) + 1) = (i : Int) + 1 := IntWalk.i64_in _ (by omega)
  have q0 := hb2.at (i := 0) rfl
  have h1e := cell_alloc h1 (.cells #[] 28)
  have hk0 : Chg [] W (W.alloc (.cells #[] 28)).drew := ((Chg.refl _ _).alloc _).drew
  have hown0 := (empty_own W 28 5 (Nat.le_refl _)).drew
  have hr0 : Orow (W.alloc (.cells #[] 28)).drew s L := Beg.chg hr hk0 (by simp)
  have hn1 : ∀ j u, (ocs (L.take i))[j]? = some u → (W.alloc (.cells #[] 28)).drew.cell? ((⟨s, 0, none⟩ : Addr).add j) = some u := by
    have := hr0.reads 0 (L.take i) (fun j v hv => by rw [ocs_take] at hv; rw [List.getElem?_take] at hv; split at hv <;> simp_all)
    simpa using this
  have hl1 : (ocs (L.take i)).length = i * 5 := by rw [ocs_len, List.length_take_of_le (by omega)]
  have ho1 := ocs_one (L.take i)
  have hl2 : (ocs (L.drop (i + 1))).length = (L.length - (i + 1)) * 5 := by rw [ocs_len, List.length_drop]
  have ho2 := ocs_one (L.drop (i + 1))
  have b1 : 0 + i ≤ maxLen := by unfold maxLen; omega
  have b2' : (0 + i) * 40 ≤ 140737488355328 := by omega
  have b3 : W.heap.size ≤ (W.alloc (.cells #[] 28)).drew.heap.size := hk0.size
  have b4 : 0 + i + (L.length - (i + 1)) ≤ maxLen := by unfold maxLen; omega
  have b5 : (0 + i + (L.length - (i + 1))) * 40 ≤ 140737488355328 := by omega
  have j1 : (i : Int) ≤ (c' : Int) := by omega
  have j2 : (i : Int) + 1 ≤ (L.length : Int) := by omega
  have j3 : (L.length : Int) ≤ (c' : Int) := by omega
  have j4 : (0 : Int) ≤ (i : Int) + 1 := by omega
  have hlS := HH.out.sl
  have hlb2 := hb2.lt
  have j5 : (i : Int) ≤ (i : Int) + 1 := by omega
  go_cut [5] from 13 to 31 (fun v wx => v = .pointer (some ⟨b2, 0, none⟩) ∧ ∃ s', Sid wx g o s' up (L.eraseIdx i) ∧ (s' = s ∨ W.heap.size ≤ s') ∧ Chg [g] w wx ∧ But g (o + 1) w wx ∧ Blk wx w.heap.size 28 (oc Ord.zero) ∧ Blk wx b2 28 (oc x))
  case first =>
    by_cases hci : c' = i + 1
    · have hn2 : ∀ w1, Chg [] W w1 → ∀ j u, (ocs (L.drop (i + 1)))[j]? = some u → w1.cell? ((⟨s, 0, none⟩ : Addr).add j) = some u := fun w1 k j u hu => by
        rw [List.drop_of_length_le (by omega)] at hu
        simp [ocs] at hu
      go_region_law ((first | (refine step_append_own _ rfl (.tmp 14) (.tmp 20) 35 rfl W.heap.size 28 i0 (ov Ord.zero) 5 40 Try.underlying35 hin iz0 iz1 iz2 rfl (by decide) _ 0 [] rfl hown0 ⟨s, 0, none⟩ i _ (ocs (L.take i)) rfl hl1 hn1 ho1 b1 b2' b3 ?_; intro v1 w1 hown1 hg1 hat1; have hk1 : Chg [] W w1 := (((Chg.refl [] W).alloc _).drew).grown hg1 (fun k hk => .inr (Nat.le_of_eq (Option.some.inj hk))); have h1w := hk1.cell h1 (by simp)) | (refine step_append_own _ rfl (.tmp 21) (.tmp 28) 35 rfl W.heap.size 28 i0 (ov Ord.zero) 5 40 Try.underlying35 hin iz0 iz1 iz2 rfl (by decide) _ _ _ rfl hown1 ⟨s, 0, none⟩ _ _ (ocs (L.drop (i + 1))) rfl hl2 (hn2 _ hk1) ho2 b4 b5 hk1.size ?_; intro v2 w2 hown2 hg2 hat2; obtain ⟨va, vc, rfl⟩ := own_slice hown2; have hk2 : Chg [] W w2 := hk1.grown hg2 (fun k hk => .inr (own_base hown1 k hk)); have h1w2 := hk2.cell h1 (by simp); have hfw2 : w2.frozen? ⟨g, o + 1, none⟩ = false := by rw [frozen_block (hk2.block g hS.lt (by simp))]; exact hf)))
      all_goals
        have hown3 : w2.ownsRow W.heap.size 28 5 (.slice va (i + (L.length - (i + 1))) vc) (L.eraseIdx i).length (ocs (L.eraseIdx i)) := by
          rw [← erase_eq, ocs_append, List.length_append, List.length_take_of_le (by omega), List.length_drop]
          simpa using hown2
        obtain ⟨s', hlay, hat⟩ := hS.layOwn hk2 hS.lt hown3
        have hC : Chg [g] w (w2.setCell ⟨g, o + 1, none⟩ (.slice va (i + (L.length - (i + 1))) vc)) := ((hc1.trans hk2).mono (by simp)).setCell _ _ (by simp)
        have hBt : But g (o + 1) w (w2.setCell ⟨g, o + 1, none⟩ (.slice va (i + (L.length - (i + 1))) vc)) := But.set ((hc1.trans hk2).block g hlt (by simp)) _
        have hb1' := (hb1.chg hk2 (by simp)).chg ((Chg.refl [g] w2).setCell ⟨g, o + 1, none⟩ (.slice va (i + (L.length - (i + 1))) vc) (by simp)) (by simp; omega)
        have hb2' := (hb2.chg hk2 (by simp)).chg ((Chg.refl [g] w2).setCell ⟨g, o + 1, none⟩ (.slice va (i + (L.length - (i + 1))) vc) (by simp)) (by simp; omega)
        go_wp2_with fail
        go_meet
        exact ⟨rfl, s', hlay, hat, hC, hBt, hb1', hb2'⟩
    · have hn2 : ∀ w1, Chg [] W w1 → ∀ j u, (ocs (L.drop (i + 1)))[j]? = some u → w1.cell? ((⟨s, (i + 1) * 5, none⟩ : Addr).add j) = some u := fun w1 k j u hu =>
        Orow.reads (Beg.chg hr k (by simp)) (i + 1) (L.drop (i + 1)) (fun j v hv => by rw [ocs_drop, List.getElem?_drop] at hv; exact hv) j u hu
      go_region_law ((first | (refine step_append_own _ rfl (.tmp 14) (.tmp 20) 35 rfl W.heap.size 28 i0 (ov Ord.zero) 5 40 Try.underlying35 hin iz0 iz1 iz2 rfl (by decide) _ 0 [] rfl hown0 ⟨s, 0, none⟩ i _ (ocs (L.take i)) rfl hl1 hn1 ho1 b1 b2' b3 ?_; intro v1 w1 hown1 hg1 hat1; have hk1 : Chg [] W w1 := (((Chg.refl [] W).alloc _).drew).grown hg1 (fun k hk => .inr (Nat.le_of_eq (Option.some.inj hk))); have h1w := hk1.cell h1 (by simp)) | (refine step_append_own _ rfl (.tmp 21) (.tmp 28) 35 rfl W.heap.size 28 i0 (ov Ord.zero) 5 40 Try.underlying35 hin iz0 iz1 iz2 rfl (by decide) _ _ _ rfl hown1 ⟨s, (i + 1) * 5, none⟩ _ _ (ocs (L.drop (i + 1))) rfl hl2 (hn2 _ hk1) ho2 b4 b5 hk1.size ?_; intro v2 w2 hown2 hg2 hat2; obtain ⟨va, vc, rfl⟩ := own_slice hown2; have hk2 : Chg [] W w2 := hk1.grown hg2 (fun k hk => .inr (own_base hown1 k hk)); have h1w2 := hk2.cell h1 (by simp); have hfw2 : w2.frozen? ⟨g, o + 1, none⟩ = false := by rw [frozen_block (hk2.block g hS.lt (by simp))]; exact hf)))
      all_goals
        have hown3 : w2.ownsRow W.heap.size 28 5 (.slice va (i + (L.length - (i + 1))) vc) (L.eraseIdx i).length (ocs (L.eraseIdx i)) := by
          rw [← erase_eq, ocs_append, List.length_append, List.length_take_of_le (by omega), List.length_drop]
          simpa using hown2
        obtain ⟨s', hlay, hat⟩ := hS.layOwn hk2 hS.lt hown3
        have hC : Chg [g] w (w2.setCell ⟨g, o + 1, none⟩ (.slice va (i + (L.length - (i + 1))) vc)) := ((hc1.trans hk2).mono (by simp)).setCell _ _ (by simp)
        have hBt : But g (o + 1) w (w2.setCell ⟨g, o + 1, none⟩ (.slice va (i + (L.length - (i + 1))) vc)) := But.set ((hc1.trans hk2).block g hlt (by simp)) _
        have hb1' := (hb1.chg hk2 (by simp)).chg ((Chg.refl [g] w2).setCell ⟨g, o + 1, none⟩ (.slice va (i + (L.length - (i + 1))) vc) (by simp)) (by simp; omega)
        have hb2' := (hb2.chg hk2 (by simp)).chg ((Chg.refl [g] w2).setCell ⟨g, o + 1, none⟩ (.slice va (i + (L.length - (i + 1))) vc) (by simp)) (by simp; omega)
        go_wp2_with fail
        go_meet
        exact ⟨rfl, s', hlay, hat, hC, hBt, hb1', hb2'⟩
  case rest =>
    obtain ⟨rfl, s', hlay, hat, hC, hBt, hb1', hb2'⟩ := hcut
    clear hown0 hr0 hn1 hl1 ho1 hl2 ho2 b1 b2' b3 b4 b5 hk0 h1e h1 hr q0 w1 hb1 hb2 hS hc1 hf
    generalize W.heap.size = B at *
    have q0 := hb2'.at (i := 0) rfl
    have q1 := hb2'.at (i := 1) rfl
    have q2 := hb2'.at (i := 2) rfl
    have q3 := hb2'.at (i := 3) rfl
    have q4 := hb2'.at (i := 4) rfl
    have l0 := hb1'.at (i := 0) rfl
    have l1 := hb1'.at (i := 1) rfl
    have l2 := hb1'.at (i := 2) rfl
    have l3 := hb1'.at (i := 3) rfl
    have l4 := hb1'.at (i := 4) rfl
    have z0 := hb1'.free 0
    have z1 := hb1'.free 1
    have z2 := hb1'.free 2
    have z3 := hb1'.free 3
    have z4 := hb1'.free 4
    have hK : Chg [w.heap.size] wc (sto wc w.heap.size 0 x) := sto_chg (Chg.refl _ _) _ _ _ (by simp)
    have hfin := hlay.chg hK (by simp; omega) (by simp; omega)
    have hC2 : Chg [g] w (sto wc w.heap.size 0 x) := hC.trans' hK (by simp)
    have hBt2 := hBt.keep hK hlay.lt (by simp; omega)
    clear hb1' hb2' hK
    go_wp2_with fail
    refine bodyPost_ret (v := ov x) (by simp [results, Try.results22, go_sem, l0, l1, l2, l3, l4]) rfl ⟨rfl, ?_⟩
    exact ⟨s', hfin, hC2, hBt2, by omega⟩
end Go.Proofs.Ytofcphfgpnobnaa
