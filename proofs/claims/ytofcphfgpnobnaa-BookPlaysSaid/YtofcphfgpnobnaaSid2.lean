import Derived.Test.YtofcphfgpnobnaaSid
namespace Go.Proofs.Ytofcphfgpnobnaa
set_option linter.unusedVariables false
open Go Go.Proofs Go.RowKit
attribute [local go_sem ↓] Go.wp_at_zero Go.wp_at_succ

theorem empty_own (w : World) (T : TypeId) (sz : Nat) {base : Nat} (h : base ≤ w.heap.size) : (w.alloc (.cells #[] T)).ownsRow base T sz (.slice (some ⟨w.heap.size, 0, none⟩) 0 0) 0 [] :=
  ⟨by simp, .inr ⟨w.heap.size, 0, #[], rfl, h, heap_new _ _, by omega, by unfold maxLen; omega, by simp, by simp⟩⟩
theorem ocs_one (l : List Ord) : ∀ u ∈ ocs l, u.oneCell' = true := by
  induction l with
  | nil => simp [ocs]
  | cons x l ih =>
    intro u hu
    rcases List.mem_append.1 (show u ∈ oc x ++ ocs l from hu) with h | h
    · simp [oc] at h
      rcases h with rfl | rfl | rfl | rfl | rfl <;> rfl
    · exact ih u h
theorem addr_add (b i j : Nat) : (⟨b, i, none⟩ : Addr).add j = ⟨b, i + j, none⟩ := by unfold Addr.add; split <;> simp_all
/-- The cells of a row from one of its orders on, in whatever world has its block. -/
theorem Orow.reads {w : World} {s : Nat} {L : List Ord} (h : Orow w s L) (i : Nat) (M : List Ord) (hM : ∀ j v, (ocs M)[j]? = some v → (ocs L)[i * 5 + j]? = some v) : ∀ j u, (ocs M)[j]? = some u → w.cell? ((⟨s, i * 5, none⟩ : Addr).add j) = some u := fun j u hu => by
  rw [addr_add]
  exact Beg.at h (hM j u hu)
theorem ocs_take (L : List Ord) (i : Nat) : ocs (L.take i) = (ocs L).take (i * 5) := by
  induction L generalizing i with
  | nil => simp [ocs]
  | cons x L ih =>
    cases i with
    | zero => simp [ocs]
    | succ i =>
      rw [List.take_succ_cons]
      show oc x ++ ocs (L.take i) = (oc x ++ ocs L).take _
      rw [show (i + 1) * 5 = (oc x).length + i * 5 by rw [oc_len]; omega, List.take_length_add_append, ih]
theorem ocs_drop (L : List Ord) (i : Nat) : ocs (L.drop i) = (ocs L).drop (i * 5) := by
  induction L generalizing i with
  | nil => simp [ocs]
  | cons x L ih =>
    cases i with
    | zero => simp [ocs]
    | succ i =>
      rw [List.drop_succ_cons]
      show ocs (L.drop i) = (oc x ++ ocs L).drop _
      rw [show (i + 1) * 5 = (oc x).length + i * 5 by rw [oc_len]; omega, List.drop_length_add_append, ih]
theorem cutQ_set (n : Int) (L : List Ord) (h : 0 < L.length) (hq : n ≤ (L.getD 0 Ord.zero).qty) : L.set 0 { L.getD 0 Ord.zero with qty := (L.getD 0 Ord.zero).qty - n } = cutQ n L := by
  cases L with
  | nil => simp at h
  | cons y L => rw [cutQ_cons, if_pos (show n ≤ y.qty from hq)]; rfl
theorem cutQ_no (n : Int) (L : List Ord) (hq : L = [] ∨ ¬ n ≤ (L.getD 0 Ord.zero).qty) : cutQ n L = L := by
  cases L with
  | nil => rfl
  | cons y L => rw [cutQ_cons, if_neg (show ¬ n ≤ y.qty from hq.resolve_left (by simp))]

/-- A row made anew is laid into a side. -/
theorem Sid.lay {w w' : World} {g o s s' : Nat} {up : Bool} {L M : List Ord} {c : Nat} (h : Sid w g o s up L) (k : Chg [] w w') (hs : g < s') (hr : Orow w' s' M) (h1 : M.length ≤ c) (h2 : c ≤ maxLen) :
    Sid (w'.setCell ⟨g, o + 1, none⟩ (.slice (some ⟨s', 0, none⟩) M.length c)) g o s' up M := by
  have hb := Sid.chg h k (by simp) (by simp)
  obtain ⟨_, _, hc, _⟩ := hb.row
  refine ⟨?_, fun j => ?_, ?_, _, c, ?_, h1, h2, .inr ⟨rfl, ?_⟩⟩
  · rw [World.cell?_setCell_other (h := by simp)]; exact hb.c0
  · rw [World.frozen?_setCell]; exact hb.fr j
  · have := Beg.lt hr; simpa using this
  · rw [World.cell?_setCell_same (h := hc)]
  · exact Beg.same hr (Below.heap_setCell _ _ _ _ (by show s' ≠ g; omega))
/-- The wanted of the first one is laid anew. -/
theorem Sid.first {w : World} {g o s : Nat} {up : Bool} {L : List Ord} (h : Sid w g o s up L) (hne : s ≠ g) (h0 : 0 < L.length) (q : Int) : Sid (w.setCell ⟨s, 4, none⟩ (.int .u64 q)) g o s up (L.set 0 { L.getD 0 Ord.zero with qty := q }) := by
  obtain ⟨c, h1, h2, h3, hr, _⟩ := h.at h0
  have hk : Chg [s] w (w.setCell ⟨s, 4, none⟩ (.int .u64 q)) := (Chg.refl _ _).setCell _ _ (by simp)
  refine ⟨hk.cell h.c0 (by simp; omega), fun j => by rw [World.frozen?_setCell]; exact h.fr j, Nat.lt_of_lt_of_le h.sl hk.size, _, c, by rw [List.length_set]; exact hk.cell h1 (by simp; omega), by rw [List.length_set]; exact h2, h3, .inr ⟨rfl, ?_⟩⟩
  have := Orow.setq hr h0 q
  simpa using this
theorem But.set {w w' : World} {g j : Nat} (h : w'.heap[g]? = w.heap[g]?) (v : Value) : But g j w (w'.setCell ⟨g, j, none⟩ v) := fun k hk => by
  rw [World.cell?_setCell_other (h := by simp <;> omega)]
  exact But.same (j := j) h k hk
theorem But.keep {w w' w'' : World} {g j : Nat} {S : List Nat} (h : But g j w w') (k : Chg S w' w'') (hg : g < w'.heap.size) (hs : g ∉ S) : But g j w w'' := h.trans (But.same (k.block g hg hs))

set_option maxRecDepth 100000 in
/-- Cut. -/
theorem rCut {w : World} {g o s : Nat} {up : Bool} {L : List Ord} (h : Sid w g o s up L) (n : Int) (hn : U n) (hok : ∀ x ∈ L, x.Ok) (hm : L.length ≤ 1000000000000) :
    Calls Try.prog 23 #[.pointer (some ⟨g, o, none⟩), .int .u64 n] w fun e w' => e = .returned (.tuple #[]) ∧ ∃ s', Sid w' g o s' up (cutQ n L) ∧ Chg [g] w w' ∧ But g (o + 1) w w' ∧ (s' = s ∨ w.heap.size ≤ s') := by
  obtain ⟨i0, hi, iz0, iz1, iz2⟩ := info_parts info_ord
  by_cases h0 : 0 < L.length
  · obtain ⟨c, h1, h2, h3, hr, x0, x1, x2, x3, x4⟩ := h.at (k := 0) h0
    have hq := (hok _ (mem_getDO h0)).qty
    have HL0 : Hid (L.getD 0 Ord.zero = L.getD 0 Ord.zero) := rfl
    by_cases hnq : n ≤ (L.getD 0 Ord.zero).qty
    · have HC := Lib.hid (cutQ_set n L h0 hnq)
      have HR := Lib.hid hr
      have HS := Lib.hid h
      have hlt := h.lt
      have hsl := h.sl
      have hf := h.fr (o + 1)
      have i2 : (0 : Int) < (L.length : Int) := by omega
      obtain ⟨y, hy⟩ : ∃ y, y = L.getD 0 Ord.zero := ⟨_, rfl⟩
      rw [← hy] at x0 x1 x2 x3 x4 hq hnq
      have HY := Lib.hid hy
      clear hy HL0 h hr
      go_enter Try.func23, Try.ntmps23
      go_upto_region 1 with (fail)
      go_wp2_with (at_builtin; refine wpList_append_own _ rfl (.tmp 22) (.tmp 26) 35 rfl w.heap.size 28 i0 (ov Ord.zero) 5 40 Try.underlying35 hi iz0 iz1 iz2 rfl (by decide) _ _ _ rfl (empty_own w _ 5 (Nat.le_refl _)) ⟨s, 0, none⟩ L.length c (ocs L) rfl (ocs_len _) ?c1 ?c2 ?c3 ?c4 (by simp) ?_)
      case c1 => exact fun j u hu => Beg.at HR.out hu
      case c2 => exact ocs_one L
      case c3 => unfold maxLen at h3 ⊢; omega
      case c4 => omega
      intro v' w1 hown1 hg1 _
      try simp only [Nat.zero_add, List.nil_append] at hown1
      have hk : Chg [] w w1 := ((Chg.refl [] w).alloc _).grown hg1 (fun k hk => by simp [Value.ownBlock] at hk; right; omega)
      obtain ⟨s', cap, rfl, p1, p2, p3, p4, _⟩ := own_beg hown1 (by
        rintro rfl
        rcases hown1.2 with ⟨_, e⟩ | ⟨_, _, _, e, _⟩
        · omega
        · cases e)
      have hlay := HS.out.lay hk (show g < s' by omega) p4 p2 p3
      have hC : Chg [g] w (w1.setCell ⟨g, o + 1, none⟩ (.slice (some ⟨s', 0, none⟩) L.length cap)) := (hk.mono (by simp)).setCell _ _ (by simp)
      have hB : But g (o + 1) w (w1.setCell ⟨g, o + 1, none⟩ (.slice (some ⟨s', 0, none⟩) L.length cap)) := But.set (hk.block g hlt (by simp)) _
      have h1' := hk.cell h1 (by simp)
      have hf' : w1.frozen? ⟨g, o + 1, none⟩ = false := by rw [frozen_block (hk.block g hlt (by simp))]; exact hf
      clear hown1 hg1 hk p2 p3 p4 h1 hf x0 x1 x2 x3 x4
      go_upto_region 2 with (fail)
      generalize w1.setCell _ _ = W at *
      obtain ⟨c2, h1, _, _, _, x0, x1, x2, x3, x4⟩ := hlay.at (k := 0) h0
      rw [← HY.out] at x0 x1 x2 x3 x4
      have w1 : IntKind.u64.wrap (y.qty - n) = y.qty - n := by have := hq.1; have := hq.2; have := hn.1; simp [IntKind.wrap, IntKind.bits, IntKind.signed]; omega
      clear h1' hf'
      go_wp2_with fail
      go_still_tail 15, (by kernel_rfl)
      change wpList _ _ _ _ _ W.drew
      have hlay2 : Sid W.drew g o s' up L := hlay.chg ((Chg.refl [] W).drew) (by simp) (by simp)
      have hC2 := hC.drew
      have hB2 : But g (o + 1) w W.drew := hB
      have hgl : g < W.drew.heap.size := hlay2.lt
      clear hlay hC hB h1 x0 x1 x2 x3 x4 w1
      generalize W.drew = V at *
      obtain ⟨c3, h1, _, _, hr, x0, x1, x2, x3, x4⟩ := hlay2.at (k := 0) h0
      have hfr := Beg.free hr 4
      have hfin := hlay2.first (show s' ≠ g by omega) h0 (y.qty - n)
      have hC3 : Chg [g] w (V.setCell ⟨s', 4, none⟩ (.int .u64 (y.qty - n))) := hC2.setCell _ _ (by right; exact p1)
      have hB3 : But g (o + 1) w (V.setCell ⟨s', 4, none⟩ (.int .u64 (y.qty - n))) := hB2.keep ((Chg.refl [s'] V).setCell _ _ (by simp)) hgl (by simp; omega)
      rw [HY.out, HC.out, ← HY.out] at hfin
      go_wp2_with fail
      go_end0
      exact ⟨rfl, s', hfin, hC3, hB3, .inr p1⟩
    · have HC := Lib.hid (cutQ_no n L (.inr hnq))
      have HS := Lib.hid h
      have i2 : (0 : Int) < (L.length : Int) := by omega
      generalize L.getD 0 Ord.zero = y at *
      clear h hr
      go_enter Try.func23, Try.ntmps23
      go_wp2_with fail
      go_end0
      exact ⟨rfl, s, by rw [HC.out]; exact HS.out, Chg.refl _ _, But.same rfl, .inl rfl⟩
  · obtain rfl : L = [] := List.eq_nil_of_length_eq_zero (by omega)
    obtain ⟨a, c, h1, h2, h3, h4⟩ := h.row
    have HS := Lib.hid h
    simp only [List.length_nil] at h1
    clear h h4
    go_enter Try.func23, Try.ntmps23
    go_wp2_with fail
    go_end0
    exact ⟨rfl, s, HS.out, Chg.refl _ _, But.same rfl, .inl rfl⟩
end Go.Proofs.Ytofcphfgpnobnaa
