
import Derived.Test.YteabcpmpcbjicaaGreatAllA
import Derived.BigQuiet
import Derived.Maps.AppendAt
import Derived.BigRegion
import Derived.Deep.AppendLies
import Derived.Deep.RegionLaw
import Derived.RegionTactic
import Derived.Deep.CutBlock
import Derived.Deep.DeepCutAuto
import Derived.StillTailTactics
import Derived.Test.YteabcpmpcbjicaaGreatShell
namespace Go.Proofs.YteabcpmpcbjicaaGreat
set_option linter.unusedVariables false
open Go Go.Proofs Go.RowKit
attribute [local go_sem ↓] Go.wp_at_zero Go.wp_at_succ

/-! The document's own side of a book: at place o of block g, its row in block s. -/
structure Sid (w : World) (g o s : Nat) (up : Bool) (L : List Ord) : Prop where
  c0 : w.cell? ⟨g, o, none⟩ = some (.bool up)
  fr : ∀ k, w.frozen? ⟨g, k, none⟩ = false
  sl : s < w.heap.size
  row : ∃ a c, w.cell? ⟨g, o + 1, none⟩ = some (.slice a L.length c) ∧ L.length ≤ c ∧ c ≤ maxLen ∧ (L = [] ∨ (a = some ⟨s, 0, none⟩ ∧ Orow w s L))
theorem frozen_block {w w' : World} {b : Nat} (e : w'.heap[b]? = w.heap[b]?) (k : Nat) : w'.frozen? ⟨b, k, none⟩ = w.frozen? ⟨b, k, none⟩ := by simp [World.frozen?, e]
theorem Sid.lt {w : World} {g o s : Nat} {up : Bool} {L : List Ord} (h : Sid w g o s up L) : g < w.heap.size := cell_block h.c0
theorem Sid.chg {w w' : World} {g o s : Nat} {up : Bool} {L : List Ord} {S : List Nat} (h : Sid w g o s up L) (k : Chg S w w') (hg : g ∉ S) (hs : s ∉ S) : Sid w' g o s up L :=
  ⟨k.cell h.c0 hg, fun j => by rw [frozen_block (k.block g h.lt hg)]; exact h.fr j, Nat.lt_of_lt_of_le h.sl k.size,
    h.row.elim fun a ⟨c, h1, h2, h3, h4⟩ => ⟨a, c, k.cell h1 hg, h2, h3, h4.imp id fun ⟨h5, h6⟩ => ⟨h5, Beg.chg h6 k hs⟩⟩⟩
/-- All of a block but one cell is as it was. -/
def But (g j : Nat) (w w' : World) : Prop := ∀ k, k ≠ j → w'.cell? ⟨g, k, none⟩ = w.cell? ⟨g, k, none⟩
theorem But.same {g j : Nat} {w w' : World} (e : w'.heap[g]? = w.heap[g]?) : But g j w w' := fun k _ => by simp [World.cell?, e]
theorem But.trans {g j : Nat} {a b c : World} (h : But g j a b) (k : But g j b c) : But g j a c := fun i hi => (k i hi).trans (h i hi)
theorem Sid.at {w : World} {g o s : Nat} {up : Bool} {L : List Ord} (h : Sid w g o s up L) {k : Nat} (hk : k < L.length) : ∃ c, w.cell? ⟨g, o + 1, none⟩ = some (.slice (some ⟨s, 0, none⟩) L.length c) ∧ L.length ≤ c ∧ c ≤ maxLen ∧ Orow w s L ∧ Oat w s (k * 5) (L.getD k Ord.zero) := by
  obtain ⟨a, c, h1, h2, h3, h4⟩ := h.row
  rcases h4 with rfl | ⟨rfl, h4⟩
  · simp at hk
  · exact ⟨c, h1, h2, h3, h4, Orow.at h4 hk⟩

/-- Ahead. -/
theorem rAhead (up : Bool) (a b : Ord) (w : World) : Calls Tryz.prog 200 #[.bool up, ov a, ov b] w fun e w' => e = .returned (.bool (ahead up a b)) ∧ Chg [] w w' := by
  unfold ahead
  by_cases hp : a.price = b.price
  · rw [if_pos hp]
    have h1 : (a.price != b.price) = false := by simp [hp]
    clear hp
    go_enter Tryz.func200, Tryz.ntmps200
    go_wp2_with fail
    go_ret
    exact ⟨rfl, ((Chg.refl _ _).alloc _).alloc _⟩
  · rw [if_neg hp]
    have h1 : (a.price != b.price) = true := by simp [hp]
    clear hp
    go_enter Tryz.func200, Tryz.ntmps200
    go_wp2_with fail
    go_ret
    exact ⟨rfl, ((Chg.refl _ _).alloc _).alloc _⟩

/-- Where an order stands. -/
theorem rAt {w : World} {g o s : Nat} {up : Bool} {L : List Ord} (h : Sid w g o s up L) (k : Int) (hm : L.length ≤ 1000000000000) :
    Calls Tryz.prog 186 #[.pointer (some ⟨g, o, none⟩), .int .i64 k] w fun e w' => (∃ r, e = .returned (.int .i64 r) ∧ FoundAt L k r) ∧ w = w' := by
  obtain ⟨a, c, h1, h2, h3, h4⟩ := h.row
  have H4 := Lib.hid h4
  clear h4
  go_enter Tryz.func186, Tryz.ntmps186
  go_wp2_with fail
  go_loop [5] (fun i => ∃ j : Nat, j ≤ L.length ∧ i = .int .i64 j ∧ Hid (∀ x ∈ L.take j, x.id ≠ k)) (fun i => L.length - (intOf i).toNat)
  case atStart => exact ⟨0, by omega, rfl, by simp [Hid]⟩
  case round =>
    obtain ⟨j, hj, rfl, hn⟩ := hrel
    by_cases hlt : j < L.length
    · obtain ⟨rfl, hr⟩ := H4.out.resolve_left (by rintro rfl; simp at hlt)
      obtain ⟨x0, x1, x2, x3, x4⟩ := Orow.at hr hlt
      obtain ⟨x, hx⟩ : ∃ x, L.getD j Ord.zero = x := ⟨_, rfl⟩
      rw [hx] at x0 x1 x2 x3 x4
      have HX := Lib.hid hx
      have i1 : (0 : Int) ≤ (j : Int) := by omega
      have i2 : (j : Int) < (L.length : Int) := by omega
      clear hx hr
      by_cases he : x.id = k
      · have hd : (x.id == k) = true := by simpa using he
        have HE := Lib.hid he
        clear he
        go_wp2_with fail
        go_ret
        exact ⟨⟨_, rfl, .inl ⟨j, hlt, by rw [HX.out]; exact HE.out, rfl⟩⟩, rfl⟩
      · have hd : (x.id == k) = false := by simpa using he
        have HE := Lib.hid he
        clear he
        have hn2 : Hid (∀ y ∈ L.take (j + 1), y.id ≠ k) := by
          intro y hy
          rw [List.take_succ_eq_append_getElem hlt] at hy
          rcases List.mem_append.1 hy with h | h
          · exact hn.out y h
          · simp at h
            subst h
            have : L.getD j Ord.zero = L[j] := by simp [List.getD, hlt]
            rw [← this, HX.out]; exact HE.out
        go_wp2_with fail
        go_round
        case rel => exact ⟨j + 1, by omega, by go_num, hn2⟩
        case measure => simp [intOf]; omega
    · have hn3 : Hid (∀ x ∈ L, x.id ≠ k) := by
        have := hn.out
        rwa [List.take_of_length_le (by omega)] at this
      go_wp2_with fail
      go_ret
      exact ⟨⟨-1, rfl, .inr ⟨hn3.out, rfl⟩⟩, rfl⟩

/-- A row of orders, whose it may be. -/
def Osq (W : World) (a : Option Addr) (L : List Ord) : Prop := L = [] ∨ ∃ g, a = some ⟨g, 0, none⟩ ∧ Orow W g L
theorem Osq.chg {W W' : World} {a : Option Addr} {L : List Ord} (h : Osq W a L) (k : Chg [] W W') : Osq W' a L := h.imp id fun ⟨g, h1, h2⟩ => ⟨g, h1, Beg.chg h2 k (by simp)⟩
theorem Osq.cells {W : World} {a : Option Addr} {L : List Ord} (h : Osq W a L) {k : Nat} (hk : k < L.length) : ∃ g, a = some ⟨g, 0, none⟩ ∧ Oat W g (k * 5) (L.getD k Ord.zero) := by
  rcases h with rfl | ⟨g, h1, h3⟩
  · simp at hk
  · exact ⟨g, h1, Orow.at h3 hk⟩
theorem Osn.osq {W : World} {B : Nat} {a : Option Addr} {L : List Ord} (h : Osn W B a L) : Osq W a L := h.imp id fun ⟨g, h1, _, h2⟩ => ⟨g, h1, h2⟩

/-- SameOrders, of the same. -/
theorem rSame {w : World} {a1 a2 : Option Addr} {c1 c2 : Nat} {L : List Ord} (h1 : Osq w a1 L) (h2 : Osq w a2 L) (hm : L.length ≤ 1000000000000) :
    Calls Tryz.prog 93 #[.slice a1 L.length c1, .slice a2 L.length c2] w fun e w' => e = .returned (.bool true) ∧ Chg [] w w' := by
  go_enter Tryz.func93, Tryz.ntmps93
  go_wp2_with fail
  go_loopw [5] (fun i wr => ∃ j : Nat, j ≤ L.length ∧ i = .int .i64 j ∧ Chg [] w wr) (fun i _ => L.length - (intOf i).toNat)
  case atStart => exact ⟨0, by omega, rfl, Chg.refl _ _⟩
  case round =>
    obtain ⟨j, hj, rfl, hc⟩ := hrel
    by_cases hlt : j < L.length
    · obtain ⟨g1, rfl, x0, x1, x2, x3, x4⟩ := (h1.chg hc).cells hlt
      obtain ⟨g2, rfl, y0, y1, y2, y3, y4⟩ := (h2.chg hc).cells hlt
      generalize L.getD j Ord.zero = u at *
      have i1 : (0 : Int) ≤ (j : Int) := by omega
      have i2 : (j : Int) < (L.length : Int) := by omega
      go_wp2_with fail
      go_quiet (fail)
      go_wp2_with fail
      go_roundw
      case rel => exact ⟨j + 1, by omega, by go_num, hc.drewN _⟩
      case measure => simp [intOf]; omega
    · go_wp2_with fail
      go_ret
      exact ⟨rfl, hc⟩
end Go.Proofs.YteabcpmpcbjicaaGreat

namespace Go.Proofs.YteabcpmpcbjicaaGreat
set_option linter.unusedVariables false
open Go Go.Proofs Go.RowKit
attribute [local go_sem ↓] Go.wp_at_zero Go.wp_at_succ

theorem empty_own (w : World) (T : TypeId) (sz : Nat) {base : Nat} (h : base ≤ w.heap.size) : (w.alloc (.cells #[] T)).ownsRow base T sz (.slice (some ⟨w.heap.size, 0, none⟩) 0 0) 0 [] :=
  ⟨by simp, .inr ⟨w.heap.size, 0, #[], rfl, h, heap_new _ _, by omega, by unfold maxLen; omega, by simp, by simp⟩⟩
theorem ocs_one (l : List Ord) : ∀ u ∈ ocs l, u.oneCell' = true := by
  induction l with
  | nil => simp [ocs]
  | cons x l ih =>
    intro u hu
    rcases List.mem_append.1 (show u ∈ oc x ++ ocs l from hu) with h | h
    · simp [oc] at h
      rcases h with rfl | rfl | rfl | rfl | rfl <;> rfl
    · exact ih u h
theorem addr_add (b i j : Nat) : (⟨b, i, none⟩ : Addr).add j = ⟨b, i + j, none⟩ := by unfold Addr.add; split <;> simp_all
/-- The cells of a row from one of its orders on, in whatever world has its block. -/
theorem Orow.reads {w : World} {s : Nat} {L : List Ord} (h : Orow w s L) (i : Nat) (M : List Ord) (hM : ∀ j v, (ocs M)[j]? = some v → (ocs L)[i * 5 + j]? = some v) : ∀ j u, (ocs M)[j]? = some u → w.cell? ((⟨s, i * 5, none⟩ : Addr).add j) = some u := fun j u hu => by
  rw [addr_add]
  exact Beg.at h (hM j u hu)
theorem ocs_take (L : List Ord) (i : Nat) : ocs (L.take i) = (ocs L).take (i * 5) := by
  induction L generalizing i with
  | nil => simp [ocs]
  | cons x L ih =>
    cases i with
    | zero => simp [ocs]
    | succ i =>
      rw [List.take_succ_cons]
      show oc x ++ ocs (L.take i) = (oc x ++ ocs L).take _
      rw [show (i + 1) * 5 = (oc x).length + i * 5 by rw [oc_len]; omega, List.take_length_add_append, ih]
theorem ocs_drop (L : List Ord) (i : Nat) : ocs (L.drop i) = (ocs L).drop (i * 5) := by
  induction L generalizing i with
  | nil => simp [ocs]
  | cons x L ih =>
    cases i with
    | zero => simp [ocs]
    | succ i =>
      rw [List.drop_succ_cons]
      show ocs (L.drop i) = (oc x ++ ocs L).drop _
      rw [show (i + 1) * 5 = (oc x).length + i * 5 by rw [oc_len]; omega, List.drop_length_add_append, ih]
theorem cutQ_set (n : Int) (L : List Ord) (h : 0 < L.length) (hq : n ≤ (L.getD 0 Ord.zero).qty) : L.set 0 { L.getD 0 Ord.zero with qty := (L.getD 0 Ord.zero).qty - n } = cutQ n L := by
  cases L with
  | nil => simp at h
  | cons y L => rw [cutQ_cons, if_pos (show n ≤ y.qty from hq)]; rfl
theorem cutQ_no (n : Int) (L : List Ord) (hq : L = [] ∨ ¬ n ≤ (L.getD 0 Ord.zero).qty) : cutQ n L = L := by
  cases L with
  | nil => rfl
  | cons y L => rw [cutQ_cons, if_neg (show ¬ n ≤ y.qty from hq.resolve_left (by simp))]

/-- A row made anew is laid into a side. -/
theorem Sid.lay {w w' : World} {g o s s' : Nat} {up : Bool} {L M : List Ord} {c : Nat} (h : Sid w g o s up L) (k : Chg [] w w') (hs : g < s') (hr : Orow w' s' M) (h1 : M.length ≤ c) (h2 : c ≤ maxLen) :
    Sid (w'.setCell ⟨g, o + 1, none⟩ (.slice (some ⟨s', 0, none⟩) M.length c)) g o s' up M := by
  have hb := Sid.chg h k (by simp) (by simp)
  obtain ⟨_, _, hc, _⟩ := hb.row
  refine ⟨?_, fun j => ?_, ?_, _, c, ?_, h1, h2, .inr ⟨rfl, ?_⟩⟩
  · rw [World.cell?_setCell_other (h := by simp)]; exact hb.c0
  · rw [World.frozen?_setCell]; exact hb.fr j
  · have := Beg.lt hr; simpa using this
  · rw [World.cell?_setCell_same (h := hc)]
  · exact Beg.same hr (Below.heap_setCell _ _ _ _ (by show s' ≠ g; omega))
/-- The wanted of the first one is laid anew. -/
theorem Sid.first {w : World} {g o s : Nat} {up : Bool} {L : List Ord} (h : Sid w g o s up L) (hne : s ≠ g) (h0 : 0 < L.length) (q : Int) : Sid (w.setCell ⟨s, 4, none⟩ (.int .u64 q)) g o s up (L.set 0 { L.getD 0 Ord.zero with qty := q }) := by
  obtain ⟨c, h1, h2, h3, hr, _⟩ := h.at h0
  have hk : Chg [s] w (w.setCell ⟨s, 4, none⟩ (.int .u64 q)) := (Chg.refl _ _).setCell _ _ (by simp)
  refine ⟨hk.cell h.c0 (by simp; omega), fun j => by rw [World.frozen?_setCell]; exact h.fr j, Nat.lt_of_lt_of_le h.sl hk.size, _, c, by rw [List.length_set]; exact hk.cell h1 (by simp; omega), by rw [List.length_set]; exact h2, h3, .inr ⟨rfl, ?_⟩⟩
  have := Orow.setq hr h0 q
  simpa using this
theorem But.set {w w' : World} {g j : Nat} (h : w'.heap[g]? = w.heap[g]?) (v : Value) : But g j w (w'.setCell ⟨g, j, none⟩ v) := fun k hk => by
  rw [World.cell?_setCell_other (h := by simp <;> omega)]
  exact But.same (j := j) h k hk
theorem But.keep {w w' w'' : World} {g j : Nat} {S : List Nat} (h : But g j w w') (k : Chg S w' w'') (hg : g < w'.heap.size) (hs : g ∉ S) : But g j w w'' := h.trans (But.same (k.block g hg hs))

set_option maxRecDepth 100000 in
/-- Cut. -/
theorem rCut {w : World} {g o s : Nat} {up : Bool} {L : List Ord} (h : Sid w g o s up L) (n : Int) (hn : U n) (hok : ∀ x ∈ L, x.Ok) (hm : L.length ≤ 1000000000000) :
    Calls Tryz.prog 188 #[.pointer (some ⟨g, o, none⟩), .int .u64 n] w fun e w' => e = .returned (.tuple #[]) ∧ ∃ s', Sid w' g o s' up (cutQ n L) ∧ Chg [g] w w' ∧ But g (o + 1) w w' ∧ (s' = s ∨ w.heap.size ≤ s') := by
  obtain ⟨i0, hi, iz0, iz1, iz2⟩ := info_parts info_ord
  by_cases h0 : 0 < L.length
  · obtain ⟨c, h1, h2, h3, hr, x0, x1, x2, x3, x4⟩ := h.at (k := 0) h0
    have hq := (hok _ (mem_getDO h0)).qty
    have HL0 : Hid (L.getD 0 Ord.zero = L.getD 0 Ord.zero) := rfl
    by_cases hnq : n ≤ (L.getD 0 Ord.zero).qty
    · have HC := Lib.hid (cutQ_set n L h0 hnq)
      have HR := Lib.hid hr
      have HS := Lib.hid h
      have hlt := h.lt
      have hsl := h.sl
      have hf := h.fr (o + 1)
      have i2 : (0 : Int) < (L.length : Int) := by omega
      obtain ⟨y, hy⟩ : ∃ y, y = L.getD 0 Ord.zero := ⟨_, rfl⟩
      rw [← hy] at x0 x1 x2 x3 x4 hq hnq
      have HY := Lib.hid hy
      clear hy HL0 h hr
      go_enter Tryz.func188, Tryz.ntmps188
      go_upto_region 1 with (fail)
      go_wp2_with (at_builtin; refine wpList_append_own _ rfl (.tmp 22) (.tmp 26) 67 rfl w.heap.size 73 i0 (ov Ord.zero) 5 40 Tryz.underlying67 hi iz0 iz1 iz2 rfl (by decide) _ _ _ rfl (empty_own w _ 5 (Nat.le_refl _)) ⟨s, 0, none⟩ L.length c (ocs L) rfl (ocs_len _) ?c1 ?c2 ?c3 ?c4 (by simp) ?_)
      case c1 => exact fun j u hu => Beg.at HR.out hu
      case c2 => exact ocs_one L
      case c3 => unfold maxLen at h3 ⊢; omega
      case c4 => omega
      intro v' w1 hown1 hg1 _
      try simp only [Nat.zero_add, List.nil_append] at hown1
      have hk : Chg [] w w1 := ((Chg.refl [] w).alloc _).grown hg1 (fun k hk => by simp [Value.ownBlock] at hk; right; omega)
      obtain ⟨s', cap, rfl, p1, p2, p3, p4, _⟩ := own_beg hown1 (by
        rintro rfl
        rcases hown1.2 with ⟨_, e⟩ | ⟨_, _, _, e, _⟩
        · omega
        · cases e)
      have hlay := HS.out.lay hk (show g < s' by omega) p4 p2 p3
      have hC : Chg [g] w (w1.setCell ⟨g, o + 1, none⟩ (.slice (some ⟨s', 0, none⟩) L.length cap)) := (hk.mono (by simp)).setCell _ _ (by simp)
      have hB : But g (o + 1) w (w1.setCell ⟨g, o + 1, none⟩ (.slice (some ⟨s', 0, none⟩) L.length cap)) := But.set (hk.block g hlt (by simp)) _
      have h1' := hk.cell h1 (by simp)
      have hf' : w1.frozen? ⟨g, o + 1, none⟩ = false := by rw [frozen_block (hk.block g hlt (by simp))]; exact hf
      clear hown1 hg1 hk p2 p3 p4 h1 hf x0 x1 x2 x3 x4
      go_upto_region 2 with (fail)
      generalize w1.setCell _ _ = W at *
      obtain ⟨c2, h1, _, _, _, x0, x1, x2, x3, x4⟩ := hlay.at (k := 0) h0
      rw [← HY.out] at x0 x1 x2 x3 x4
      have w1 : IntKind.u64.wrap (y.qty - n) = y.qty - n := by have := hq.1; have := hq.2; have := hn.1; simp [IntKind.wrap, IntKind.bits, IntKind.signed]; omega
      clear h1' hf'
      go_wp2_with fail
      go_still_tail 15, (by kernel_rfl)
      change wpList _ _ _ _ _ W.drew
      have hlay2 : Sid W.drew g o s' up L := hlay.chg ((Chg.refl [] W).drew) (by simp) (by simp)
      have hC2 := hC.drew
      have hB2 : But g (o + 1) w W.drew := hB
      have hgl : g < W.drew.heap.size := hlay2.lt
      clear hlay hC hB h1 x0 x1 x2 x3 x4 w1
      generalize W.drew = V at *
      obtain ⟨c3, h1, _, _, hr, x0, x1, x2, x3, x4⟩ := hlay2.at (k := 0) h0
      have hfr := Beg.free hr 4
      have hfin := hlay2.first (show s' ≠ g by omega) h0 (y.qty - n)
      have hC3 : Chg [g] w (V.setCell ⟨s', 4, none⟩ (.int .u64 (y.qty - n))) := hC2.setCell _ _ (by right; exact p1)
      have hB3 : But g (o + 1) w (V.setCell ⟨s', 4, none⟩ (.int .u64 (y.qty - n))) := hB2.keep ((Chg.refl [s'] V).setCell _ _ (by simp)) hgl (by simp; omega)
      rw [HY.out, HC.out, ← HY.out] at hfin
      go_wp2_with fail
      go_end0
      exact ⟨rfl, s', hfin, hC3, hB3, .inr p1⟩
    · have HC := Lib.hid (cutQ_no n L (.inr hnq))
      have HS := Lib.hid h
      have i2 : (0 : Int) < (L.length : Int) := by omega
      generalize L.getD 0 Ord.zero = y at *
      clear h hr
      go_enter Tryz.func188, Tryz.ntmps188
      go_wp2_with fail
      go_end0
      exact ⟨rfl, s, by rw [HC.out]; exact HS.out, Chg.refl _ _, But.same rfl, .inl rfl⟩
  · obtain rfl : L = [] := List.eq_nil_of_length_eq_zero (by omega)
    obtain ⟨a, c, h1, h2, h3, h4⟩ := h.row
    have HS := Lib.hid h
    simp only [List.length_nil] at h1
    clear h h4
    go_enter Tryz.func188, Tryz.ntmps188
    go_wp2_with fail
    go_end0
    exact ⟨rfl, s, HS.out, Chg.refl _ _, But.same rfl, .inl rfl⟩
end Go.Proofs.YteabcpmpcbjicaaGreat

namespace Go.Proofs.YteabcpmpcbjicaaGreat
set_option linter.unusedVariables false
open Go Go.Proofs Go.RowKit
attribute [local go_sem ↓] Go.wp_at_zero Go.wp_at_succ

theorem wp_append_own {P : Program} {o : Oper} {a : Act} (w : World) {K : Act → World → Prop} {Q : Exit → Act → World → Prop} (s x : Operand) (t : TypeId)
    (ho : o.op = .call { callee := .builtin .append, args := #[s, x], argTypes := #[t, t] })
    (base : Nat) (e : TypeId) (i : TypeInfo) (z : Value) (size bytes : Nat) (ht : P.underlying t = some (.slice e)) (hi : P.info? e = some i) (hz : i.zero = some z)
    (hsize : i.size = size) (hby : i.bytes = bytes) (hzs : z.cells.size = size) (hsz : 0 < size)
    (v : Value) (n : Nat) (xs : List Value) (hs : a.eval s = v) (hown : w.ownsRow base e size v n xs)
    (ad : Addr) (m c : Nat) (news : List Value) (hx : a.eval x = .slice (some ad) m c) (hl : news.length = m * size) (hnews : ∀ j u, news[j]? = some u → w.cell? (ad.add j) = some u) (h1 : ∀ u ∈ news, u.oneCell' = true)
    (h63 : n + m ≤ maxLen) (hbytes : (n + m) * bytes ≤ 140737488355328) (hbase : base ≤ w.heap.size)
    (h : ∀ v' w', w'.ownsRow base e size v' (n + m) (xs ++ news) → w.grownBy w' v.ownBlock → (v'.ownBlock = v.ownBlock ∨ v'.ownBlock = some w.heap.size) → K (a.put o.dst v') w') : Oper.wp P o a w K Q := by
  obtain ⟨v', w', hr, h2, h3, h4, h5⟩ := run_append_own_at (P := P) w base t o.type e i z size bytes ht hi hz hsize hby hzs hsz v n xs hown ad m c news hl hnews h1 h63 hbytes hbase
  unfold Oper.wp execOp
  simp only [ho, resolve, invoke, builtin, Sem.run_bind, Sem.run_pure, Result.andThen_ok, List.map_toArray, List.map_cons, List.map_nil, hs, hx, hr]
  exact h v' w' h2 h3 h5

theorem step_append_own {P : Program} {ops : Array Oper} {o : Oper} {a : Act} (w : World) {K : Act → World → Prop} {Q : Exit → Act → World → Prop} {E : Prop} (hgd : o.guard = none) (s x : Operand) (t : TypeId)
    (ho : o.op = .call { callee := .builtin .append, args := #[s, x], argTypes := #[t, t] })
    (base : Nat) (e : TypeId) (i : TypeInfo) (z : Value) (size bytes : Nat) (ht : P.underlying t = some (.slice e)) (hi : P.info? e = some i) (hz : i.zero = some z)
    (hsize : i.size = size) (hby : i.bytes = bytes) (hzs : z.cells.size = size) (hsz : 0 < size)
    (v : Value) (n : Nat) (xs : List Value) (hs : a.eval s = v) (hown : w.ownsRow base e size v n xs)
    (ad : Addr) (m c : Nat) (news : List Value) (hx : a.eval x = .slice (some ad) m c) (hl : news.length = m * size) (hnews : ∀ j u, news[j]? = some u → w.cell? (ad.add j) = some u) (h1 : ∀ u ∈ news, u.oneCell' = true)
    (h63 : n + m ≤ maxLen) (hbytes : (n + m) * bytes ≤ 140737488355328) (hbase : base ≤ w.heap.size)
    (h : ∀ v' w', w'.ownsRow base e size v' (n + m) (xs ++ news) → w.grownBy w' v.ownBlock → (v'.ownBlock = v.ownBlock ∨ v'.ownBlock = some w.heap.size) → K (a.put o.dst v') w') : if Region.wanted o (yielded ops a.tmps) = true then Oper.wp P o a w K Q else E := by
  have hw : Region.wanted o (yielded ops a.tmps) = true := by simp [Region.wanted, hgd]
  rw [if_pos hw]
  exact wp_append_own w s x t ho base e i z size bytes ht hi hz hsize hby hzs hsz v n xs hs hown ad m c news hx hl hnews h1 h63 hbytes hbase h

/-- A row that is owned is laid into a side. -/
theorem Sid.layOwn {w w2 : World} {g o s B : Nat} {up : Bool} {L M : List Ord} {v : Value} (h : Sid w g o s up L) (k : Chg [] w w2) (hB : g < B) (ho : w2.ownsRow B 73 5 v M.length (ocs M)) :
    ∃ s', Sid (w2.setCell ⟨g, o + 1, none⟩ v) g o s' up M ∧ (s' = s ∨ B ≤ s') := by
  by_cases hv : v = .slice none 0 0
  · subst hv
    have hM : M = [] := by
      rcases ho.2 with ⟨_, e⟩ | ⟨_, _, _, e, _⟩
      · exact List.eq_nil_of_length_eq_zero e
      · cases e
    subst hM
    have hb := Sid.chg h k (by simp) (by simp)
    obtain ⟨_, _, hc, _⟩ := hb.row
    refine ⟨s, ⟨?_, fun j => ?_, by simpa using hb.sl, none, 0, ?_, Nat.le_refl _, by unfold maxLen; omega, .inl rfl⟩, .inl rfl⟩
    · rw [World.cell?_setCell_other (h := by simp)]; exact hb.c0
    · rw [World.frozen?_setCell]; exact hb.fr j
    · rw [World.cell?_setCell_same (h := hc)]; rfl
  · obtain ⟨s', cap, rfl, p1, p2, p3, p4, _⟩ := own_beg ho hv
    exact ⟨s', h.lay k (by omega) p4 p2 p3, .inr p1⟩
theorem erase_eq (L : List Ord) (i : Nat) : L.take i ++ L.drop (i + 1) = L.eraseIdx i := (List.eraseIdx_eq_take_drop_succ L i).symm

set_option maxRecDepth 100000 in
set_option maxHeartbeats 4000000 in
/-- Drop. -/
theorem rDrop {w : World} {g o s : Nat} {up : Bool} {L : List Ord} (h : Sid w g o s up L) {i : Nat} (hi : i < L.length) (hm : L.length ≤ 1000000000000) :
    Calls Tryz.prog 187 #[.pointer (some ⟨g, o, none⟩), .int .i64 i] w fun e w' => e = .returned (ov (L.getD i Ord.zero)) ∧ ∃ s', Sid w' g o s' up (L.eraseIdx i) ∧ Chg [g] w w' ∧ But g (o + 1) w w' ∧ (s' = s ∨ w.heap.size ≤ s') := by
  obtain ⟨i0, hin, iz0, iz1, iz2⟩ := info_parts info_ord
  obtain ⟨c, h1, h2, h3, hr, x0, x1, x2, x3, x4⟩ := h.at hi
  have HH := Lib.hid h
  have hlt := h.lt
  generalize hx : L.getD i Ord.zero = x at *
  have HX := Lib.hid hx
  have i1 : (0 : Int) ≤ (i : Int) := by omega
  have i2 : (i : Int) < (L.length : Int) := by omega
  clear hx h hr
  go_enter Tryz.func187, Tryz.ntmps187
  go_upto_region 1 with (fail)
  have hc0 : Chg [] w (w.alloc (.cells #[.int .i64 0, .int .i64 0, .bool false, .int .u64 0, .int .u64 0] 73)) := (Chg.refl _ _).alloc _
  have hb0 : Blk (w.alloc (.cells #[.int .i64 0, .int .i64 0, .bool false, .int .u64 0, .int .u64 0] 73)) w.heap.size 73 (oc Ord.zero) := Blk.new w (oc Ord.zero) 73
  have h1' := hc0.cell h1 (by simp)
  have x0' := hc0.cell x0 (by simp)
  have x1' := hc0.cell x1 (by simp)
  have x2' := hc0.cell x2 (by simp)
  have x3' := hc0.cell x3 (by simp)
  have x4' := hc0.cell x4 (by simp)
  clear h1 x0 x1 x2 x3 x4
  generalize w.alloc _ = W0 at *
  go_upto_region 2 with (fail)
  have hc1 := hc0.alloc (.cells #[.int .i64 x.id, .int .i64 x.client, .bool x.buy, .int .u64 x.price, .int .u64 x.qty] 73)
  have hb1 := hb0.alloc (.cells #[.int .i64 x.id, .int .i64 x.client, .bool x.buy, .int .u64 x.price, .int .u64 x.qty] 73)
  have hb2 : Blk (W0.alloc (.cells #[.int .i64 x.id, .int .i64 x.client, .bool x.buy, .int .u64 x.price, .int .u64 x.qty] 73)) W0.heap.size 73 (oc x) := Blk.new W0 (oc x) 73
  have hz0 := hc0.size
  have hlb := hb0.lt
  clear hc0 hb0 h1' x0' x1' x2' x3' x4'
  generalize W0.heap.size = b2 at *
  generalize W0.alloc _ = W at *
  have hS := HH.out.chg hc1 (by simp) (by simp)
  obtain ⟨c', h1, e2, e3, hr, _⟩ := hS.at hi
  have hf := hS.fr (o + 1)
  have w1 : IntKind.i64.wrap ((i : Int) + 1) = (i : Int) + 1 := IntWalk.i64_in _ (by omega)
  have q0 := hb2.at (i := 0) rfl
  have h1e := cell_alloc h1 (.cells #[] 73)
  have hk0 : Chg [] W (W.alloc (.cells #[] 73)).drew := ((Chg.refl _ _).alloc _).drew
  have hown0 := (empty_own W 73 5 (Nat.le_refl _)).drew
  have hr0 : Orow (W.alloc (.cells #[] 73)).drew s L := Beg.chg hr hk0 (by simp)
  have hn1 : ∀ j u, (ocs (L.take i))[j]? = some u → (W.alloc (.cells #[] 73)).drew.cell? ((⟨s, 0, none⟩ : Addr).add j) = some u := by
    have := hr0.reads 0 (L.take i) (fun j v hv => by rw [ocs_take] at hv; rw [List.getElem?_take] at hv; split at hv <;> simp_all)
    simpa using this
  have hl1 : (ocs (L.take i)).length = i * 5 := by rw [ocs_len, List.length_take_of_le (by omega)]
  have ho1 := ocs_one (L.take i)
  have hl2 : (ocs (L.drop (i + 1))).length = (L.length - (i + 1)) * 5 := by rw [ocs_len, List.length_drop]
  have ho2 := ocs_one (L.drop (i + 1))
  have b1 : 0 + i ≤ maxLen := by unfold maxLen; omega
  have b2' : (0 + i) * 40 ≤ 140737488355328 := by omega
  have b3 : W.heap.size ≤ (W.alloc (.cells #[] 73)).drew.heap.size := hk0.size
  have b4 : 0 + i + (L.length - (i + 1)) ≤ maxLen := by unfold maxLen; omega
  have b5 : (0 + i + (L.length - (i + 1))) * 40 ≤ 140737488355328 := by omega
  have j1 : (i : Int) ≤ (c' : Int) := by omega
  have j2 : (i : Int) + 1 ≤ (L.length : Int) := by omega
  have j3 : (L.length : Int) ≤ (c' : Int) := by omega
  have j4 : (0 : Int) ≤ (i : Int) + 1 := by omega
  have hlS := HH.out.sl
  have hlb2 := hb2.lt
  have j5 : (i : Int) ≤ (i : Int) + 1 := by omega
  go_cut [5] from 13 to 31 (fun v wx => v = .pointer (some ⟨b2, 0, none⟩) ∧ ∃ s', Sid wx g o s' up (L.eraseIdx i) ∧ (s' = s ∨ W.heap.size ≤ s') ∧ Chg [g] w wx ∧ But g (o + 1) w wx ∧ Blk wx w.heap.size 73 (oc Ord.zero) ∧ Blk wx b2 73 (oc x))
  case first =>
    by_cases hci : c' = i + 1
    · have hn2 : ∀ w1, Chg [] W w1 → ∀ j u, (ocs (L.drop (i + 1)))[j]? = some u → w1.cell? ((⟨s, 0, none⟩ : Addr).add j) = some u := fun w1 k j u hu => by
        rw [List.drop_of_length_le (by omega)] at hu
        simp [ocs] at hu
      go_region_law ((first | (refine step_append_own _ rfl (.tmp 14) (.tmp 20) 67 rfl W.heap.size 73 i0 (ov Ord.zero) 5 40 Tryz.underlying67 hin iz0 iz1 iz2 rfl (by decide) _ 0 [] rfl hown0 ⟨s, 0, none⟩ i _ (ocs (L.take i)) rfl hl1 hn1 ho1 b1 b2' b3 ?_; intro v1 w1 hown1 hg1 hat1; have hk1 : Chg [] W w1 := (((Chg.refl [] W).alloc _).drew).grown hg1 (fun k hk => .inr (Nat.le_of_eq (Option.some.inj hk))); have h1w := hk1.cell h1 (by simp)) | (refine step_append_own _ rfl (.tmp 21) (.tmp 28) 67 rfl W.heap.size 73 i0 (ov Ord.zero) 5 40 Tryz.underlying67 hin iz0 iz1 iz2 rfl (by decide) _ _ _ rfl hown1 ⟨s, 0, none⟩ _ _ (ocs (L.drop (i + 1))) rfl hl2 (hn2 _ hk1) ho2 b4 b5 hk1.size ?_; intro v2 w2 hown2 hg2 hat2; obtain ⟨va, vc, rfl⟩ := own_slice hown2; have hk2 : Chg [] W w2 := hk1.grown hg2 (fun k hk => .inr (own_base hown1 k hk)); have h1w2 := hk2.cell h1 (by simp); have hfw2 : w2.frozen? ⟨g, o + 1, none⟩ = false := by rw [frozen_block (hk2.block g hS.lt (by simp))]; exact hf)))
      all_goals
        have hown3 : w2.ownsRow W.heap.size 73 5 (.slice va (i + (L.length - (i + 1))) vc) (L.eraseIdx i).length (ocs (L.eraseIdx i)) := by
          rw [← erase_eq, ocs_append, List.length_append, List.length_take_of_le (by omega), List.length_drop]
          simpa using hown2
        obtain ⟨s', hlay, hat⟩ := hS.layOwn hk2 hS.lt hown3
        have hC : Chg [g] w (w2.setCell ⟨g, o + 1, none⟩ (.slice va (i + (L.length - (i + 1))) vc)) := ((hc1.trans hk2).mono (by simp)).setCell _ _ (by simp)
        have hBt : But g (o + 1) w (w2.setCell ⟨g, o + 1, none⟩ (.slice va (i + (L.length - (i + 1))) vc)) := But.set ((hc1.trans hk2).block g hlt (by simp)) _
        have hb1' := (hb1.chg hk2 (by simp)).chg ((Chg.refl [g] w2).setCell ⟨g, o + 1, none⟩ (.slice va (i + (L.length - (i + 1))) vc) (by simp)) (by simp; omega)
        have hb2' := (hb2.chg hk2 (by simp)).chg ((Chg.refl [g] w2).setCell ⟨g, o + 1, none⟩ (.slice va (i + (L.length - (i + 1))) vc) (by simp)) (by simp; omega)
        go_wp2_with fail
        go_meet
        exact ⟨rfl, s', hlay, hat, hC, hBt, hb1', hb2'⟩
    · have hn2 : ∀ w1, Chg [] W w1 → ∀ j u, (ocs (L.drop (i + 1)))[j]? = some u → w1.cell? ((⟨s, (i + 1) * 5, none⟩ : Addr).add j) = some u := fun w1 k j u hu =>
        Orow.reads (Beg.chg hr k (by simp)) (i + 1) (L.drop (i + 1)) (fun j v hv => by rw [ocs_drop, List.getElem?_drop] at hv; exact hv) j u hu
      go_region_law ((first | (refine step_append_own _ rfl (.tmp 14) (.tmp 20) 67 rfl W.heap.size 73 i0 (ov Ord.zero) 5 40 Tryz.underlying67 hin iz0 iz1 iz2 rfl (by decide) _ 0 [] rfl hown0 ⟨s, 0, none⟩ i _ (ocs (L.take i)) rfl hl1 hn1 ho1 b1 b2' b3 ?_; intro v1 w1 hown1 hg1 hat1; have hk1 : Chg [] W w1 := (((Chg.refl [] W).alloc _).drew).grown hg1 (fun k hk => .inr (Nat.le_of_eq (Option.some.inj hk))); have h1w := hk1.cell h1 (by simp)) | (refine step_append_own _ rfl (.tmp 21) (.tmp 28) 67 rfl W.heap.size 73 i0 (ov Ord.zero) 5 40 Tryz.underlying67 hin iz0 iz1 iz2 rfl (by decide) _ _ _ rfl hown1 ⟨s, (i + 1) * 5, none⟩ _ _ (ocs (L.drop (i + 1))) rfl hl2 (hn2 _ hk1) ho2 b4 b5 hk1.size ?_; intro v2 w2 hown2 hg2 hat2; obtain ⟨va, vc, rfl⟩ := own_slice hown2; have hk2 : Chg [] W w2 := hk1.grown hg2 (fun k hk => .inr (own_base hown1 k hk)); have h1w2 := hk2.cell h1 (by simp); have hfw2 : w2.frozen? ⟨g, o + 1, none⟩ = false := by rw [frozen_block (hk2.block g hS.lt (by simp))]; exact hf)))
      all_goals
        have hown3 : w2.ownsRow W.heap.size 73 5 (.slice va (i + (L.length - (i + 1))) vc) (L.eraseIdx i).length (ocs (L.eraseIdx i)) := by
          rw [← erase_eq, ocs_append, List.length_append, List.length_take_of_le (by omega), List.length_drop]
          simpa using hown2
        obtain ⟨s', hlay, hat⟩ := hS.layOwn hk2 hS.lt hown3
        have hC : Chg [g] w (w2.setCell ⟨g, o + 1, none⟩ (.slice va (i + (L.length - (i + 1))) vc)) := ((hc1.trans hk2).mono (by simp)).setCell _ _ (by simp)
        have hBt : But g (o + 1) w (w2.setCell ⟨g, o + 1, none⟩ (.slice va (i + (L.length - (i + 1))) vc)) := But.set ((hc1.trans hk2).block g hlt (by simp)) _
        have hb1' := (hb1.chg hk2 (by simp)).chg ((Chg.refl [g] w2).setCell ⟨g, o + 1, none⟩ (.slice va (i + (L.length - (i + 1))) vc) (by simp)) (by simp; omega)
        have hb2' := (hb2.chg hk2 (by simp)).chg ((Chg.refl [g] w2).setCell ⟨g, o + 1, none⟩ (.slice va (i + (L.length - (i + 1))) vc) (by simp)) (by simp; omega)
        go_wp2_with fail
        go_meet
        exact ⟨rfl, s', hlay, hat, hC, hBt, hb1', hb2'⟩
  case rest =>
    obtain ⟨rfl, s', hlay, hat, hC, hBt, hb1', hb2'⟩ := hcut
    clear hown0 hr0 hn1 hl1 ho1 hl2 ho2 b1 b2' b3 b4 b5 hk0 h1e h1 hr q0 w1 hb1 hb2 hS hc1 hf
    generalize W.heap.size = B at *
    have q0 := hb2'.at (i := 0) rfl
    have q1 := hb2'.at (i := 1) rfl
    have q2 := hb2'.at (i := 2) rfl
    have q3 := hb2'.at (i := 3) rfl
    have q4 := hb2'.at (i := 4) rfl
    have l0 := hb1'.at (i := 0) rfl
    have l1 := hb1'.at (i := 1) rfl
    have l2 := hb1'.at (i := 2) rfl
    have l3 := hb1'.at (i := 3) rfl
    have l4 := hb1'.at (i := 4) rfl
    have z0 := hb1'.free 0
    have z1 := hb1'.free 1
    have z2 := hb1'.free 2
    have z3 := hb1'.free 3
    have z4 := hb1'.free 4
    have hK : Chg [w.heap.size] wc (sto wc w.heap.size 0 x) := sto_chg (Chg.refl _ _) _ _ _ (by simp)
    have hfin := hlay.chg hK (by simp; omega) (by simp; omega)
    have hC2 : Chg [g] w (sto wc w.heap.size 0 x) := hC.trans' hK (by simp)
    have hBt2 := hBt.keep hK hlay.lt (by simp; omega)
    clear hb1' hb2' hK
    go_wp2_with fail
    refine bodyPost_ret (v := ov x) (by simp [results, Tryz.results187, go_sem, l0, l1, l2, l3, l4]) rfl ⟨rfl, ?_⟩
    exact ⟨s', hfin, hC2, hBt2, by omega⟩
end Go.Proofs.YteabcpmpcbjicaaGreat

namespace Go.Proofs.YteabcpmpcbjicaaGreat
set_option linter.unusedVariables false
open Go Go.Proofs Go.RowKit
attribute [local go_sem ↓] Go.wp_at_zero Go.wp_at_succ

/-- What is out behind j orders, and whether the new one is in. -/
def PshI (up : Bool) (x : Ord) (L : List Ord) (j : Nat) (b : Bool) (P : List Ord) : Prop := P ++ (if b then L.drop j else ins up x (L.drop j)) = ins up x L
theorem PshI.start (up : Bool) (x : Ord) (L : List Ord) : PshI up x L 0 false [] := by simp [PshI]
theorem drop_getD {L : List Ord} {j : Nat} (h : j < L.length) : L.drop j = L.getD j Ord.zero :: L.drop (j + 1) := by
  rw [List.drop_eq_getElem_cons h]; simp [List.getD, h]
theorem PshI.isin {up : Bool} {x : Ord} {L P : List Ord} {j : Nat} (h : PshI up x L j true P) (hj : j < L.length) : PshI up x L (j + 1) true (P ++ [L.getD j Ord.zero]) := by
  unfold PshI at h ⊢
  rw [if_pos rfl] at h ⊢
  rw [← h, drop_getD hj]; simp
theorem PshI.now {up : Bool} {x : Ord} {L P : List Ord} {j : Nat} (h : PshI up x L j false P) (hj : j < L.length) (ha : ahead up x (L.getD j Ord.zero) = true) : PshI up x L (j + 1) true (P ++ [x] ++ [L.getD j Ord.zero]) := by
  unfold PshI at h ⊢
  rw [if_neg (by simp)] at h
  rw [if_pos rfl, ← h, drop_getD hj, ins, if_pos ha]; simp
theorem PshI.not {up : Bool} {x : Ord} {L P : List Ord} {j : Nat} (h : PshI up x L j false P) (hj : j < L.length) (ha : ahead up x (L.getD j Ord.zero) = false) : PshI up x L (j + 1) false (P ++ [L.getD j Ord.zero]) := by
  unfold PshI at h ⊢
  rw [if_neg (by simp)] at h ⊢
  rw [← h, drop_getD hj, ins, if_neg (by rw [ha]; simp)]; simp
theorem PshI.done {up : Bool} {x : Ord} {L P : List Ord} {b : Bool} (h : PshI up x L L.length b P) : ins up x L = if b then P else P ++ [x] := by
  unfold PshI at h
  rw [← h, List.drop_length]
  cases b <;> simp [ins]
theorem PshI.len {up : Bool} {x : Ord} {L P : List Ord} {j : Nat} {b : Bool} (h : PshI up x L j b P) : P.length ≤ L.length + 1 := by
  have h1 := congrArg List.length h
  rw [(ins_perm up x L).length_eq, List.length_append] at h1
  simp at h1; omega

theorem ownsRow_chg {w w' : World} {base n : Nat} {T : TypeId} {sz : Nat} {v : Value} {xs : List Value} (h : w.ownsRow base T sz v n xs) (k : Chg [] w w') : w'.ownsRow base T sz v n xs := by
  refine ⟨h.1, ?_⟩
  rcases h.2 with h2 | ⟨g, cap, cur, h1, h2, h3, h4⟩
  · exact .inl h2
  · exact .inr ⟨g, cap, cur, h1, h2, by rw [k.block g (Array.getElem?_eq_some_iff.1 h3).1 (by simp)]; exact h3, h4⟩

set_option maxRecDepth 100000 in
set_option maxHeartbeats 4000000 in
/-- Push. -/
theorem rPush {w : World} {g o s : Nat} {up : Bool} {L : List Ord} (h : Sid w g o s up L) (x : Ord) (hm : L.length ≤ 100000000000) :
    Calls Tryz.prog 189 #[.pointer (some ⟨g, o, none⟩), ov x] w fun e w' => e = .returned (.tuple #[]) ∧ ∃ s', Sid w' g o s' up (ins up x L) ∧ Chg [g] w w' ∧ But g (o + 1) w w' ∧ (s' = s ∨ w.heap.size ≤ s') := by
  obtain ⟨i0, hin, iz0, iz1, iz2⟩ := info_parts info_ord
  have HH := Lib.hid h
  have hlt := h.lt
  clear h
  go_enter Tryz.func189, Tryz.ntmps189
  have hc0 : Chg [] w (w.alloc (.cells #[.int .i64 x.id, .int .i64 x.client, .bool x.buy, .int .u64 x.price, .int .u64 x.qty] 73)) := (Chg.refl _ _).alloc _
  have hb0 : Blk (w.alloc (.cells #[.int .i64 x.id, .int .i64 x.client, .bool x.buy, .int .u64 x.price, .int .u64 x.qty] 73)) w.heap.size 73 (oc x) := Blk.new w (oc x) 73
  go_wp2_with fail
  have hlb := hb0.lt
  generalize w.alloc _ = W at *
  go_loopw [4, 5, 6] (fun v b i wr => ∃ (j : Nat) (bb : Bool) (P : List Ord), j ≤ L.length ∧ b = .bool bb ∧ i = .int .i64 j ∧ Hid (PshI up x L j bb P) ∧ Chg [] W wr ∧ wr.ownsRow W.heap.size 73 5 v P.length (ocs P)) (fun _ _ i _ => L.length - (intOf i).toNat)
  case atStart => exact ⟨0, false, [], by omega, rfl, rfl, PshI.start _ _ _, Chg.refl _ _, World.ownsRow_nil _ _ _ _⟩
  case round =>
    obtain ⟨j, bb, P, hj, rfl, rfl, hP, hC, hown⟩ := hrel
    have hS := HH.out.chg (hc0.trans hC) (by simp) (by simp)
    have hb := hb0.chg hC (by simp)
    have hPl := hP.out.len
    by_cases hlt' : j < L.length
    · obtain ⟨c, h1, e2, e3, hr, x0, x1, x2, x3, x4⟩ := hS.at hlt'
      have h0 := hS.c0
      have y0 := hb.at (i := 0) rfl
      have y1 := hb.at (i := 1) rfl
      have y2 := hb.at (i := 2) rfl
      have y3 := hb.at (i := 3) rfl
      have y4 := hb.at (i := 4) rfl
      have i1 : (0 : Int) ≤ (j : Int) := by omega
      have i2 : (j : Int) < (L.length : Int) := by omega
      have k1 : Hid (bb = true → PshI up x L (j + 1) true (P ++ [L.getD j Ord.zero])) := fun e => by subst e; exact hP.out.isin hlt'
      have k2 : Hid (bb = false → ahead up x (L.getD j Ord.zero) = true → PshI up x L (j + 1) true (P ++ [x] ++ [L.getD j Ord.zero])) := fun e => by subst e; exact hP.out.now hlt'
      have k3 : Hid (bb = false → ahead up x (L.getD j Ord.zero) = false → PshI up x L (j + 1) false (P ++ [L.getD j Ord.zero])) := fun e => by subst e; exact hP.out.not hlt'
      obtain ⟨u, hu⟩ : ∃ u, L.getD j Ord.zero = u := ⟨_, rfl⟩
      rw [hu] at x0 x1 x2 x3 x4 k1 k2 k3
      have HU := Lib.hid hu
      clear hP hr hS hu
      cases bb with
      | true =>
        have HP := Lib.hid (k1.out rfl)
        clear k1 k2 k3
        go_wp2_with fail
        go_quiet (fail)
        have hC2 := hC.drewN nq
        have hown2 := ownsRow_chg hown ((Chg.refl [] wr).drewN nq)
        clear hC hown hb h1 h0 x0 x1 x2 x3 x4 y0 y1 y2 y3 y4
        generalize wr.drewN nq = Z at *
        have hb := hb0.chg hC2 (by simp)
        have hS := HH.out.chg (hc0.trans hC2) (by simp) (by simp)
        obtain ⟨c, h1, _, _, _, x0, x1, x2, x3, x4⟩ := hS.at hlt'
        rw [HU.out] at x0 x1 x2 x3 x4
        clear hS
        have y0 := hb.at (i := 0) rfl
        have y1 := hb.at (i := 1) rfl
        have y2 := hb.at (i := 2) rfl
        have y3 := hb.at (i := 3) rfl
        have y4 := hb.at (i := 4) rfl
        go_upto_region 9 with (fail)
        go_wp2_with (at_builtin; refine wpList_append_own _ rfl (.tmp 37) (.tmp 45) 67 rfl W.heap.size 73 i0 (ov Ord.zero) 5 40 Tryz.underlying67 hin iz0 iz1 iz2 rfl (by decide) _ _ _ rfl (hown2.alloc _) ⟨Z.heap.size, 0, none⟩ 1 1 (oc u) rfl rfl ?c1 ?c2 ?c3 ?c4 ?c5 ?_)
        case c1 => exact news_new Z _ _
        case c2 => simp [oc, Value.oneCell']
        case c3 => unfold maxLen; first | omega | (simp; omega)
        case c4 => first | omega | (simp; omega)
        case c5 => have := hC2.size; simp; omega
        intro v' w1 hownx hgx _
        have hC3 : Chg [] W w1 := (hC2.alloc _).grown hgx (fun k hk => .inr (own_base hown2 k hk))
        rw [← ocs_snoc] at hownx
        have hown3 : w1.ownsRow W.heap.size 73 5 v' (P ++ [u]).length (ocs (P ++ [u])) := by simpa using hownx
        clear hgx hownx
        clear hown2 hC2 hb h1 x0 x1 x2 x3 x4 y0 y1 y2 y3 y4
        go_wp2_with fail
        go_roundw
        case rel => exact ⟨j + 1, true, _, by omega, rfl, by go_num, HP.out, hC3, hown3⟩
        case measure => simp [intOf]; omega
      | false =>
        go_wp2_with fail
        go_still_tail 15, (by kernel_rfl)
        change wpList _ _ _ _ _ wr.drew
        have hC2 := hC.drew
        have hown2 := hown.drew
        clear hC hown hb h1 h0 x0 x1 x2 x3 x4 y0 y1 y2 y3 y4
        generalize wr.drew = Z at *
        go_wp2_with fail
        refine (rAhead up x u Z).mono ?_
        rintro e w3 ⟨rfl, c3⟩
        have hC3 := hC2.trans c3
        have hown3 := ownsRow_chg hown2 c3
        clear hC2 hown2 c3
        by_cases ha : ahead up x u = true
        · have HP := Lib.hid (k2.out (by trivial) ha)
          rw [ha]
          clear ha k1 k2 k3
          have hb := hb0.chg hC3 (by simp)
          have hS := HH.out.chg (hc0.trans hC3) (by simp) (by simp)
          obtain ⟨c, h1, _, _, _, x0, x1, x2, x3, x4⟩ := hS.at hlt'
          rw [HU.out] at x0 x1 x2 x3 x4
          clear hS
          have y0 := hb.at (i := 0) rfl
          have y1 := hb.at (i := 1) rfl
          have y2 := hb.at (i := 2) rfl
          have y3 := hb.at (i := 3) rfl
          have y4 := hb.at (i := 4) rfl
          go_upto_region 8 with (fail)
          go_wp2_with (at_builtin; refine wpList_append_own _ rfl (.tmp 33) (.tmp 35) 67 rfl W.heap.size 73 i0 (ov Ord.zero) 5 40 Tryz.underlying67 hin iz0 iz1 iz2 rfl (by decide) _ _ _ rfl (hown3.alloc _) ⟨w3.heap.size, 0, none⟩ 1 1 (oc x) rfl rfl ?c1 ?c2 ?c3 ?c4 ?c5 ?_)
          case c1 => exact news_new w3 _ _
          case c2 => simp [oc, Value.oneCell']
          case c3 => unfold maxLen; first | omega | (simp; omega)
          case c4 => first | omega | (simp; omega)
          case c5 => have := hC3.size; simp; omega
          intro v' w4 hownx hgx _
          have hC4 : Chg [] W w4 := (hC3.alloc _).grown hgx (fun k hk => .inr (own_base hown3 k hk))
          rw [← ocs_snoc] at hownx
          have hown4 : w4.ownsRow W.heap.size 73 5 v' (P ++ [x]).length (ocs (P ++ [x])) := by simpa using hownx
          clear hgx hownx
          clear hown3 hC3 hb h1 x0 x1 x2 x3 x4 y0 y1 y2 y3 y4
          have hb := hb0.chg hC4 (by simp)
          have hS := HH.out.chg (hc0.trans hC4) (by simp) (by simp)
          obtain ⟨c, h1, _, _, _, x0, x1, x2, x3, x4⟩ := hS.at hlt'
          rw [HU.out] at x0 x1 x2 x3 x4
          clear hS
          have y0 := hb.at (i := 0) rfl
          have y1 := hb.at (i := 1) rfl
          have y2 := hb.at (i := 2) rfl
          have y3 := hb.at (i := 3) rfl
          have y4 := hb.at (i := 4) rfl
          go_upto_region 9 with (fail)
          go_wp2_with (at_builtin; refine wpList_append_own _ rfl (.tmp 37) (.tmp 45) 67 rfl W.heap.size 73 i0 (ov Ord.zero) 5 40 Tryz.underlying67 hin iz0 iz1 iz2 rfl (by decide) _ _ _ rfl (hown4.alloc _) ⟨w4.heap.size, 0, none⟩ 1 1 (oc u) rfl rfl ?c1 ?c2 ?c3 ?c4 ?c5 ?_)
          case c1 => exact news_new w4 _ _
          case c2 => simp [oc, Value.oneCell']
          case c3 => unfold maxLen; first | omega | (simp; omega)
          case c4 => first | omega | (simp; omega)
          case c5 => have := hC4.size; simp; omega
          intro v2 w5 hownx hgx _
          have hC5 : Chg [] W w5 := (hC4.alloc _).grown hgx (fun k hk => .inr (own_base hown4 k hk))
          rw [← ocs_snoc] at hownx
          have hown5 : w5.ownsRow W.heap.size 73 5 v2 ((P ++ [x]) ++ [u]).length (ocs ((P ++ [x]) ++ [u])) := by simpa using hownx
          clear hgx hownx
          clear hown4 hC4 hb h1 x0 x1 x2 x3 x4 y0 y1 y2 y3 y4
          go_wp2_with fail
          go_roundw
          case rel => exact ⟨j + 1, true, _, by omega, rfl, by go_num, HP.out, hC5, hown5⟩
          case measure => simp [intOf]; omega
        · have ha2 : ahead up x u = false := by simpa using ha
          have HP := Lib.hid (k3.out (by trivial) ha2)
          rw [ha2]
          clear ha ha2 k1 k2 k3
          have hb := hb0.chg hC3 (by simp)
          have hS := HH.out.chg (hc0.trans hC3) (by simp) (by simp)
          obtain ⟨c, h1, _, _, _, x0, x1, x2, x3, x4⟩ := hS.at hlt'
          rw [HU.out] at x0 x1 x2 x3 x4
          clear hS
          have y0 := hb.at (i := 0) rfl
          have y1 := hb.at (i := 1) rfl
          have y2 := hb.at (i := 2) rfl
          have y3 := hb.at (i := 3) rfl
          have y4 := hb.at (i := 4) rfl
          go_upto_region 9 with (fail)
          go_wp2_with (at_builtin; refine wpList_append_own _ rfl (.tmp 37) (.tmp 45) 67 rfl W.heap.size 73 i0 (ov Ord.zero) 5 40 Tryz.underlying67 hin iz0 iz1 iz2 rfl (by decide) _ _ _ rfl (hown3.alloc _) ⟨w3.heap.size, 0, none⟩ 1 1 (oc u) rfl rfl ?c1 ?c2 ?c3 ?c4 ?c5 ?_)
          case c1 => exact news_new w3 _ _
          case c2 => simp [oc, Value.oneCell']
          case c3 => unfold maxLen; first | omega | (simp; omega)
          case c4 => first | omega | (simp; omega)
          case c5 => have := hC3.size; simp; omega
          intro v' w4 hownx hgx _
          have hC4 : Chg [] W w4 := (hC3.alloc _).grown hgx (fun k hk => .inr (own_base hown3 k hk))
          rw [← ocs_snoc] at hownx
          have hown4 : w4.ownsRow W.heap.size 73 5 v' (P ++ [u]).length (ocs (P ++ [u])) := by simpa using hownx
          clear hgx hownx
          clear hown3 hC3 hb h1 x0 x1 x2 x3 x4 y0 y1 y2 y3 y4
          go_wp2_with fail
          go_roundw
          case rel => exact ⟨j + 1, false, _, by omega, rfl, by go_num, HP.out, hC4, hown4⟩
          case measure => simp [intOf]; omega
    · obtain rfl : j = L.length := by omega
      obtain ⟨a, c, h1, _, _, _⟩ := hS.row
      have hd := hP.out.done
      have hgg := hS.lt
      cases bb with
      | true =>
        have HD := Lib.hid hd
        obtain ⟨va, vc, rfl⟩ := own_slice hown
        have hf := hS.fr (o + 1)
        obtain ⟨s', hlay, hat⟩ := hS.layOwn (Chg.refl [] wr) (show g < W.heap.size by omega) hown
        have hC2 : Chg [g] w (wr.setCell ⟨g, o + 1, none⟩ (.slice va P.length vc)) := ((hc0.trans hC).mono (by simp)).setCell _ _ (by simp)
        have hBt : But g (o + 1) w (wr.setCell ⟨g, o + 1, none⟩ (.slice va P.length vc)) := But.set ((hc0.trans hC).block g hlt (by simp)) _
        clear hown hS hb hP hd
        go_wp2_with fail
        go_end0
        exact ⟨rfl, s', by rw [HD.out]; exact hlay, hC2, hBt, by omega⟩
      | false =>
        have HD := Lib.hid hd
        have y0 := hb.at (i := 0) rfl
        have y1 := hb.at (i := 1) rfl
        have y2 := hb.at (i := 2) rfl
        have y3 := hb.at (i := 3) rfl
        have y4 := hb.at (i := 4) rfl
        clear hP hd
        go_upto_region 11 with (fail)
        go_wp2_with (at_builtin; refine wpList_append_own _ rfl (.tmp 49) (.tmp 51) 67 rfl W.heap.size 73 i0 (ov Ord.zero) 5 40 Tryz.underlying67 hin iz0 iz1 iz2 rfl (by decide) _ _ _ rfl (hown.alloc _) ⟨wr.heap.size, 0, none⟩ 1 1 (oc x) rfl rfl ?c1 ?c2 ?c3 ?c4 ?c5 ?_)
        case c1 => exact news_new wr _ _
        case c2 => simp [oc, Value.oneCell']
        case c3 => unfold maxLen; first | omega | (simp; omega)
        case c4 => first | omega | (simp; omega)
        case c5 => have := hC.size; simp; omega
        intro v' w1 hownx hgx _
        have hC3 : Chg [] W w1 := (hC.alloc _).grown hgx (fun k hk => .inr (own_base hown k hk))
        rw [← ocs_snoc] at hownx
        have hown3 : w1.ownsRow W.heap.size 73 5 v' (P ++ [x]).length (ocs (P ++ [x])) := by simpa using hownx
        clear hgx hownx
        have hS2 := HH.out.chg (hc0.trans hC3) (by simp) (by simp)
        clear h1
        obtain ⟨a, c, h1, _, _, _⟩ := hS2.row
        obtain ⟨va, vc, rfl⟩ := own_slice hown3
        have hf := hS2.fr (o + 1)
        obtain ⟨s', hlay, hat⟩ := hS2.layOwn (Chg.refl [] w1) (show g < W.heap.size by omega) hown3
        have hC4 : Chg [g] w (w1.setCell ⟨g, o + 1, none⟩ (.slice va (P ++ [x]).length vc)) := ((hc0.trans hC3).mono (by simp)).setCell _ _ (by simp)
        have hBt : But g (o + 1) w (w1.setCell ⟨g, o + 1, none⟩ (.slice va (P ++ [x]).length vc)) := But.set ((hc0.trans hC3).block g hlt (by simp)) _
        simp only [List.length_append, List.length_cons, List.length_nil, Nat.zero_add] at hlay hC4 hBt
        clear hown3 hown hS2 hS hb y0 y1 y2 y3 y4
        go_wp2_with fail
        go_end0
        exact ⟨rfl, s', by rw [HD.out]; exact hlay, hC4, hBt, by omega⟩
end Go.Proofs.YteabcpmpcbjicaaGreat

namespace Go.Proofs.YteabcpmpcbjicaaGreat
set_option linter.unusedVariables false
open Go Go.Proofs Go.RowKit
attribute [local go_sem ↓] Go.wp_at_zero Go.wp_at_succ

/-- A step of a queue: int, int, number, number. -/
def Iiuu (w : World) (b o : Nat) (c s m n : Int) : Prop := ∀ wr, Below w.heap.size w wr → wr.cell? ⟨b, o, none⟩ = some (.int .i64 c) ∧
      wr.cell? ⟨b, o + 1, none⟩ = some (.int .i64 s) ∧ wr.cell? ⟨b, o + 2, none⟩ = some (.int .u64 m) ∧ wr.cell? ⟨b, o + 3, none⟩ = some (.int .u64 n)
theorem SRec.get_iiuu {w : World} {a : Option Addr} {len cap : Nat} (h : SRec [some .i64, some .i64, some .u64, some .u64] w a len cap) {i : Nat} (hi : i < len) :
    ∃ b off c s m n, a = some ⟨b, off, none⟩ ∧ I c ∧ I s ∧ U m ∧ U n ∧ Iiuu w b (off + i * 4) c s m n := by
  obtain ⟨b, off, ha, hc⟩ := h.at hi
  obtain ⟨v0, c0, f0⟩ := hc 0 _ rfl
  obtain ⟨v1, c1, f1⟩ := hc 1 _ rfl
  obtain ⟨v2, c2, f2⟩ := hc 2 _ rfl
  obtain ⟨v3, c3, f3⟩ := hc 3 _ rfl
  obtain ⟨c, rfl, hc'⟩ := fits_i64 f0
  obtain ⟨s, rfl, hs'⟩ := fits_i64 f1
  obtain ⟨m, rfl, hm'⟩ := fits_u64 f2
  obtain ⟨n, rfl, hn'⟩ := fits_u64 f3
  exact ⟨b, off, c, s, m, n, ha, hc', hs', hm', hn', fun wr hb => ⟨below_cell hb c0, below_cell hb c1, below_cell hb c2, below_cell hb c3⟩⟩

/-- The queue and the document's own side, of the same orders. -/
structure Duo (w : World) (B b s g t : Nat) (up : Bool) (L : List Ord) : Prop where
  q : Que w b s up L
  r : Sid w g 0 t up L
  lo : B ≤ b ∧ B ≤ s ∧ B ≤ g ∧ B ≤ t
  ap : g ≠ b ∧ g ≠ s ∧ t ≠ b ∧ t ≠ s
theorem Duo.chg {w w' : World} {B b s g t : Nat} {up : Bool} {L : List Ord} (h : Duo w B b s g t up L) (k : Chg [] w w') : Duo w' B b s g t up L :=
  ⟨h.q.chg k (by simp) (by simp), h.r.chg k (by simp) (by simp), h.lo, h.ap⟩
/-- The queue has turned, then the side. -/
theorem Duo.both {w w1 w2 : World} {B b s s' g t t' : Nat} {up : Bool} {L M : List Ord} {S : List Nat} (h : Duo w B b s g t up L) (hq : Que w1 b s' up M) (c1 : Chg S w w1) (hS : ∀ x ∈ S, x = b ∨ x = s) (h1 : s' = s ∨ w.heap.size ≤ s')
    (hr : Sid w2 g 0 t' up M) (c2 : Chg [g] w1 w2) (h2 : t' = t ∨ w1.heap.size ≤ t') (hB : B ≤ w.heap.size) : Duo w2 B b s' g t' up M ∧ ∀ A : World, A.heap.size ≤ B → Chg [] A w → Chg [] A w2 := by
  have z1 := c1.size
  have a1 := h.q.lt
  have a2 := h.r.lt
  have a3 := h.r.sl
  have a4 := hq.lt
  obtain ⟨p1, p2, p3, p4⟩ := h.lo
  obtain ⟨q1, q2, q3, q4⟩ := h.ap
  refine ⟨⟨hq.chg c2 (by simp; omega) (by simp; omega), hr, by omega, by omega⟩, fun A hA k => ?_⟩
  refine (k.trans' c1 fun x hx => .inr ?_).trans' c2 (by simp; omega)
  rcases hS x hx with rfl | rfl <;> omega
theorem Duo.sid {w w1 : World} {B b s g t : Nat} {up : Bool} {L : List Ord} {S : List Nat} (h : Duo w B b s g t up L) (c1 : Chg S w w1) (hS : ∀ x ∈ S, x = b ∨ x = s) : Sid w1 g 0 t up L := by
  obtain ⟨q1, q2, q3, q4⟩ := h.ap
  refine h.r.chg c1 (fun hm => ?_) (fun hm => ?_)
  · rcases hS _ hm with h | h
    · exact q1 h
    · exact q2 h
  · rcases hS _ hm with h | h
    · exact q3 h
    · exact q4 h
theorem erase_zero (x : Ord) (L : List Ord) : (x :: L).eraseIdx 0 = L := rfl
theorem sans_erase {L : List Ord} {k : Int} {j : Nat} (hi : Ids L) (hj : j < L.length) (h : (L.getD j Ord.zero).id = k) : sans k L = L.eraseIdx j := by
  induction L generalizing j with
  | nil => simp at hj
  | cons x L ih =>
    have hn := List.nodup_cons.1 hi
    cases j with
    | zero =>
      have h' : x.id = k := h
      show List.filter _ (x :: L) = L
      rw [List.filter_cons_of_neg (by simp [h'])]
      exact sans_none fun y hy e => hn.1 (by rw [h', ← e]; exact List.mem_map_of_mem hy)
    | succ j =>
      have hj' : j < L.length := by simpa using hj
      have h' : (L.getD j Ord.zero).id = k := h
      have hx : x.id ≠ k := fun e => hn.1 (by rw [e, ← h']; exact List.mem_map_of_mem (mem_getDO hj'))
      show List.filter _ (x :: L) = x :: L.eraseIdx j
      rw [List.filter_cons_of_pos (by simp [hx]), ← ih hn.2 hj' h']
      rfl
end Go.Proofs.YteabcpmpcbjicaaGreat

namespace Go.Proofs.YteabcpmpcbjicaaGreat
set_option linter.unusedVariables false
open Go Go.Proofs Go.RowKit
attribute [local go_sem ↓] Go.wp_at_zero Go.wp_at_succ

/-- Where an order stands. -/
def atQ (k : Int) : List Ord → Int
  | [] => -1
  | x :: L => if x.id = k then 0 else if atQ k L < 0 then -1 else atQ k L + 1
theorem atQ_found (k : Int) (L : List Ord) : FoundAt L k (atQ k L) := by
  induction L with
  | nil => exact .inr ⟨by simp, rfl⟩
  | cons x L ih =>
    by_cases h : x.id = k
    · have e : atQ k (x :: L) = 0 := if_pos h
      rw [e]; exact .inl ⟨0, by simp, h, rfl⟩
    · have e : atQ k (x :: L) = if atQ k L < 0 then -1 else atQ k L + 1 := if_neg h
      rw [e]
      rcases ih with ⟨j, hj, g, hr⟩ | ⟨g, hr⟩
      · rw [hr, if_neg (by omega)]
        exact .inl ⟨j + 1, by simpa using hj, g, by simp⟩
      · rw [hr, if_pos (by omega)]
        refine .inr ⟨fun y hy => ?_, rfl⟩
        rcases List.mem_cons.1 hy with e | e
        · subst e; exact h
        · exact g y e
theorem getD_ids {L : List Ord} (hi : Ids L) {i j : Nat} (h : i < L.length) (g : j < L.length) (e : (L.getD i Ord.zero).id = (L.getD j Ord.zero).id) : i = j := by
  have h2 : (L.map Ord.id)[i]'(by simpa using h) = (L.map Ord.id)[j]'(by simpa using g) := by
    simpa [List.getD, h, g] using e
  have hp := List.pairwise_iff_getElem.1 hi
  rcases Nat.lt_trichotomy i j with h3 | h3 | h3
  · exact absurd h2 (hp i j (by simpa using h) (by simpa using g) h3)
  · exact h3
  · exact absurd h2.symm (hp j i (by simpa using g) (by simpa using h) h3)
theorem found_uniq {L : List Ord} {k r r' : Int} (hi : Ids L) (h : FoundAt L k r) (g : FoundAt L k r') : r = r' := by
  rcases h with ⟨j, hj, e, hr⟩ | ⟨h, hr⟩
  · rcases g with ⟨i, hi', e', hr'⟩ | ⟨g, _⟩
    · have := getD_ids hi hj hi' (by rw [e, e'])
      rw [hr, hr', this]
    · exact absurd e (g _ (mem_getDO hj))
  · rcases g with ⟨i, hi', e', _⟩ | ⟨_, hr'⟩
    · exact absurd e' (h _ (mem_getDO hi'))
    · rw [hr, hr']
theorem atQ_pick {k : Int} {L : List Ord} (hi : Ids L) : (∃ j : Nat, j < L.length ∧ atQ k L = j ∧ pickQ k L = (L.getD j Ord.zero, true)) ∨ (atQ k L = -1 ∧ pickQ k L = (Ord.zero, false)) := by
  rcases atQ_found k L with ⟨j, hj, e, hr⟩ | ⟨h, hr⟩
  · exact .inl ⟨j, hj, hr, pickQ_yes hi (mem_getDO hj) e⟩
  · exact .inr ⟨hr, pickQ_no h⟩
theorem rAt_eq {w : World} {g o s : Nat} {up : Bool} {L : List Ord} (h : Sid w g o s up L) (hi : Ids L) (k : Int) (hm : L.length ≤ 1000000000000) :
    Calls Tryz.prog 186 #[.pointer (some ⟨g, o, none⟩), .int .i64 k] w fun e w' => e = .returned (.int .i64 (atQ k L)) ∧ w = w' := by
  refine (rAt h k hm).mono ?_
  rintro e w' ⟨⟨r, rfl, hF⟩, rfl⟩
  exact ⟨by rw [found_uniq hi hF (atQ_found k L)], rfl⟩
/-- A side's own row. -/
theorem Sid.osq {w : World} {g o s : Nat} {up : Bool} {L : List Ord} (h : Sid w g o s up L) : ∃ a c, w.cell? ⟨g, o + 1, none⟩ = some (.slice a L.length c) ∧ L.length ≤ c ∧ c ≤ maxLen ∧ Osq w a L := by
  obtain ⟨a, c, h1, h2, h3, h4⟩ := h.row
  exact ⟨a, c, h1, h2, h3, h4.imp id fun ⟨h5, h6⟩ => ⟨s, h5, h6⟩⟩
end Go.Proofs.YteabcpmpcbjicaaGreat
