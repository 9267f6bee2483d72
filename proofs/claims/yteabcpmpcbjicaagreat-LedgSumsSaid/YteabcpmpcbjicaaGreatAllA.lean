
import Derived.Test.YteabcpmpcbjicaaGreatSortWB
import Derived.Test.YteabcpmpcbjicaaGreatSeqA
import Derived.Test.YteabcpmpcbjicaaGreatShell
import Derived.Deep.CutBlock
import Derived.Deep.DeepCutAuto
namespace Go.Proofs.YteabcpmpcbjicaaGreat
set_option linter.unusedVariables false
open Go Go.Proofs Go.RowKit Go.Shelf
attribute [local go_sem ↓] Go.wp_at_zero Go.wp_at_succ

/-- slices.Values. -/
theorem valuesFn (a : Option Addr) (n c : Nat) (w : World) : Calls Tryz.prog 146 #[.slice a n c] w fun e w' => e = .returned (.func (.func 177) #[] #[.pointer (some ⟨w.heap.size, 0, none⟩)]) ∧ w' = w.alloc (.cells #[.slice a n c] 67) := by
  go_enter Tryz.func146, Tryz.ntmps146
  go_wp2_with fail
  go_ret
  exact ⟨rfl, rfl⟩

/-- slices.Collect. -/
theorem collect {w : World} {Bs : Nat} {sv : Value} {zs : List Ord} (hlen : zs.length < 1000000000000) (hc : w.cell? ⟨Bs, 0, none⟩ = some sv) (hI : Osl w sv zs) :
    Calls Tryz.prog 175 #[.func (.func 177) #[] #[.pointer (some ⟨Bs, 0, none⟩)]] w fun e W' => ∃ v, e = .returned v ∧ W'.ownsRow w.heap.size 73 5 v zs.length (ocs zs) ∧ Chg [] w W' := by
  have HC := Lib.hid (callsIn_wide.1 (appendSeq_in Fence.wide 3 trivial trivial rfl (Nat.le_refl _) Bs sv zs hlen w hc hI))
  go_enter Tryz.func175, Tryz.ntmps175
  go_wp2_with fail
  refine HC.out.mono ?_
  rintro e w2 ⟨v, rfl, ho, hb⟩
  go_wp2_with fail
  go_ret
  exact ⟨v, rfl, ho, Chg.of_below hb⟩

set_option maxRecDepth 100000 in
theorem insNil (b : Nat) (w : World) : Calls Tryz.prog 201 #[.slice none 0 0, .int .i64 0, .int .i64 0, fcmp b] w fun e w' => e = .returned (.tuple #[]) ∧ w = w' := by
  go_enter Tryz.func201, Tryz.ntmps201
  go_wp2_with fail
  go_loop [8] (fun i => i = .int .i64 1) (fun _ => 0)
  case atStart => rfl
  case round =>
    subst hrel
    go_wp2_with fail
    go_end0
    exact ⟨rfl, rfl⟩
set_option maxRecDepth 100000 in
theorem stableNil (b : Nat) (w : World) : Calls Tryz.prog 192 #[.slice none 0 0, .int .i64 0, fcmp b] w fun e w' => e = .returned (.tuple #[]) ∧ w = w' := by
  go_enter Tryz.func192, Tryz.ntmps192
  go_wp2_with fail
  go_loop [7, 8] (fun u v => u = .int .i64 0 ∧ v = .int .i64 20) (fun _ _ => 0)
  case atStart => exact ⟨rfl, rfl⟩
  case round =>
    obtain ⟨rfl, rfl⟩ := hrel
    go_wp2_with fail
    refine (insNil b _).mono ?_
    rintro e w' ⟨rfl, rfl⟩
    go_wp2_with fail
    go_loop [6] (fun u => u = .int .i64 20) (fun _ => 0)
    case atStart => rfl
    case round =>
      subst hrel
      go_wp2_with fail
      go_end0
      exact ⟨rfl, rfl⟩

/-- A row that a call made: its elements. -/
def Onew (w : World) (B : Nat) (v : Value) (L : List Ord) : Prop := w.ownsRow B 73 5 v L.length (ocs L)

set_option maxRecDepth 100000 in
/-- slices.SortStableFunc. -/
theorem sortStable {w : World} {B b : Nat} {up : Bool} {v : Value} {l L : List Ord} (ho : Onew w B v l) (hB : b < B) (hu : w.cell? ⟨b, 1, none⟩ = some (.bool up)) (hm : l.length < 1000000000000) (hp : l.Perm L) (hL : Srt up L) :
    Calls Tryz.prog 176 #[v, fcmp b] w fun e w' => e = .returned (.tuple #[]) ∧ Onew w' B v L ∧ Chg (v.ownBlock.toList) w w' := by
  have hlen := hp.length_eq
  rcases ho.2 with ⟨rfl, h0⟩ | ⟨g, cap, cur, rfl, hg, hh, hn, hc, hs, ht⟩
  · obtain rfl : l = [] := List.eq_nil_of_length_eq_zero h0
    obtain rfl : L = [] := List.eq_nil_of_length_eq_zero hlen.symm
    go_enter Tryz.func176, Tryz.ntmps176
    go_wp2_with fail
    refine (stableNil b _).mono ?_
    rintro e w' ⟨rfl, rfl⟩
    go_wp2_with fail
    go_end0
    exact ⟨rfl, ho, Chg.refl _ _⟩
  · have hS : Srow w g b (cap * 5 - l.length * 5) up l := ⟨⟨cur.toList.drop (l.length * 5), by simp [hs], by unfold Blk; rw [hh, ← ht, List.take_append_drop]⟩, hu, by omega⟩
    have HL := Lib.hid hlen
    have HP := Lib.hid hp
    unfold maxLen at hc
    clear ho hs ht hh hlen hp
    go_enter Tryz.func176, Tryz.ntmps176
    go_wp2_with fail
    refine (stable hS rfl hn (by omega) hm).mono ?_
    rintro e w2 ⟨rfl, l', h2, p2, s2, c2⟩
    go_wp2_with fail
    go_end0
    have e2 : l' = L := srt_eq (p2.trans HP.out) (srti_pairwise (by rw [p2.length_eq]; exact s2)) hL
    subst e2
    obtain ⟨sp, k1, k2⟩ := h2.blk
    refine ⟨rfl, ⟨by rw [ocs_len], .inr ⟨g, cap, (ocs l' ++ sp).toArray, by rw [HL.out], hg, k2, by rw [← HL.out]; exact hn, by unfold maxLen; omega, ?_, ?_⟩⟩, by simpa [Value.ownBlock] using c2⟩
    · have := HL.out; simp [ocs_len, k1]; omega
    · simp [ocs_len]

set_option maxRecDepth 100000 in
/-- slices.SortedStableFunc. -/
theorem sortedStable {w : World} {Bs b : Nat} {up : Bool} {sv : Value} {l L : List Ord} (hc : w.cell? ⟨Bs, 0, none⟩ = some sv) (hI : Osl w sv l) (hu : w.cell? ⟨b, 1, none⟩ = some (.bool up)) (hm : l.length < 1000000000000) (hp : l.Perm L) (hL : Srt up L) :
    Calls Tryz.prog 145 #[.func (.func 177) #[] #[.pointer (some ⟨Bs, 0, none⟩)], fcmp b] w fun e w' => ∃ v, e = .returned v ∧ Onew w' w.heap.size v L ∧ Chg [] w w' := by
  have hb : b < w.heap.size := cell_block hu
  go_enter Tryz.func145, Tryz.ntmps145
  go_wp2_with fail
  refine (collect hm hc hI).mono ?_
  rintro e w2 ⟨v, rfl, ho, c2⟩
  have hu2 := c2.cell hu (by simp)
  go_wp2_with fail
  refine (sortStable ho hb hu2 hm hp hL).mono ?_
  rintro e w3 ⟨rfl, ho3, c3⟩
  have hbase := own_base ho
  go_wp2_with fail
  go_ret
  exact ⟨v, rfl, ho3, c2.trans' c3 (fun x hx => .inr (hbase x (by simpa using hx)))⟩

set_option maxRecDepth 100000 in
set_option maxHeartbeats 2000000 in
/-- (*Queue).All. -/
theorem qAll {w : World} {b s : Nat} {up : Bool} {L : List Ord} (h : Que w b s up L) (hm : L.length < 1000000000000) :
    Calls Tryz.prog 97 #[.pointer (some ⟨b, 0, none⟩)] w fun e w' => ∃ v, e = .returned v ∧ Onew w' w.heap.size v L ∧ Chg [] w w' := by
  obtain ⟨l, hr, _, hp⟩ := h.row
  obtain ⟨sv, h0, hI⟩ := hr.osl
  have hu := hr.up
  have hb := hr.hlt
  have HP := Lib.hid hp
  have HS := Lib.hid h.srt
  have hm2 : l.length < 1000000000000 := by rw [hp.length_eq]; exact hm
  obtain ⟨a, n, c, rfl⟩ : ∃ a n c, sv = .slice a n c := by
    rcases hI with ⟨rfl, _⟩ | ⟨s, cap, rfl, _⟩
    · exact ⟨_, _, _, rfl⟩
    · exact ⟨_, _, _, rfl⟩
  clear hp
  have hk : Chg [] w (w.alloc (.cells #[.slice a n c] 67)).drew := ((Chg.refl [] w).alloc _).drew
  have hc1 : (w.alloc (.cells #[.slice a n c] 67)).drew.cell? ⟨w.heap.size, 0, none⟩ = some (.slice a n c) := last_cell _ _ _ rfl rfl
  have hI1 : Osl (w.alloc (.cells #[.slice a n c] 67)).drew (.slice a n c) l := hI.below hk.below
  have hu1 := hk.cell hu (by simp)
  have h01 := hk.cell h0 (by simp)
  have HT := Lib.hid (sortedStable hc1 hI1 hu1 hm2 HP.out HS.out)
  have HK := Lib.hid hk
  have H1 := Lib.hid h01
  clear hc1 hI1 hu1 hk h01 hI
  go_enter Tryz.func97, Tryz.ntmps97
  go_wp2_with fail
  go_region_held3 (fun w' => w'.cell? ⟨b, 0, none⟩ = some (.slice a n c)) (first | go_keep | exact cc.cell H1.out (by simp))
    (first
      | ((go_at_call 146; (with_reducible refine (valuesFn _ _ _ _).mono ?_); rintro e w1 ⟨rfl, rfl⟩))
      | ((go_at_call 145; refine HT.out.mono ?_; rintro e w2 ⟨v, rfl, ho, cc⟩)))
  all_goals
    go_wp2_with fail
    go_ret
    refine ⟨v, rfl, ?_, HK.out.trans cc⟩
    refine ⟨ho.1, ?_⟩
    rcases ho.2 with h1 | ⟨g, cp, cur, e1, e2, e3⟩
    · exact .inl h1
    · exact .inr ⟨g, cp, cur, e1, by have := HK.out.size; omega, e3⟩
end Go.Proofs.YteabcpmpcbjicaaGreat

namespace Go.Proofs.YteabcpmpcbjicaaGreat
set_option linter.unusedVariables false
open Go Go.Proofs Go.RowKit
attribute [local go_sem ↓] Go.wp_at_zero Go.wp_at_succ

theorem qPush_is {w : World} {b s : Nat} {up : Bool} {L : List Ord} (h : Que w b s up L) (o : Ord) (M : List Ord) (hM : ins up o L = M) (ho : o.Ok) (hn : ∀ x ∈ L, x.id ≠ o.id) (hm : L.length < 999999999999) :
    Calls Tryz.prog 206 #[.pointer (some ⟨b, 0, none⟩), ov o] w fun e w' => e = .returned (.tuple #[]) ∧ ∃ s', Que w' b s' up M ∧ Chg [b, s] w w' ∧ (s' = s ∨ w.heap.size ≤ s') := by
  subst hM; exact qPush h ho hn hm
theorem qCut_is {w : World} {b s : Nat} {up : Bool} {L : List Ord} (h : Que w b s up L) (n : Int) (M : List Ord) (hM : cutQ n L = M) (hn : U n) : Calls Tryz.prog 213 #[.pointer (some ⟨b, 0, none⟩), .int .u64 n] w fun e w' => e = .returned (.tuple #[]) ∧ Que w' b s up M ∧ Chg [s] w w' := by
  subst hM; exact qCut h n hn
theorem qRemove_is {w : World} {b s : Nat} {up : Bool} {L : List Ord} (h : Que w b s up L) (hm : L.length < 1000000000000) (k : Int) (x : Ord) (M : List Ord) (hM : sans k L = M) (hx : x ∈ L) (hk : x.id = k) : Calls Tryz.prog 208 #[.pointer (some ⟨b, 0, none⟩), .int .i64 k] w fun e w' => e = .returned (rord x) ∧ Que w' b s up M ∧ Chg [b, s] w w' := by
  subst hM; exact qRemove_yes h hm hx hk
theorem ordOk (i c p q : Int) (y : Bool) (h1 : I i) (h2 : I c) (h3 : U p) (h4 : U q) : Ord.Ok ⟨i, c, y, p, q⟩ := ⟨h1, h2, h3, h4⟩
theorem Onew.full {w : World} {B : Nat} {v : Value} {L : List Ord} (h : Onew w B v L) (hL : L ≠ []) : ∃ g cap, v = .slice (some ⟨g, 0, none⟩) L.length cap ∧ B ≤ g ∧ L.length ≤ cap ∧ cap ≤ maxLen ∧ Orow w g L := by
  obtain ⟨g, cap, h1, h2, h3, h4, h5, _⟩ := own_beg h (by
    rintro rfl
    rcases h.2 with ⟨_, h2⟩ | ⟨g, cap, cur, hv, _⟩
    · exact hL (List.eq_nil_of_length_eq_zero h2)
    · cases hv)
  exact ⟨g, cap, h1, h2, h3, h4, h5⟩

end Go.Proofs.YteabcpmpcbjicaaGreat

namespace Go.Proofs.YteabcpmpcbjicaaGreat
set_option linter.unusedVariables false
open Go Go.Proofs Go.RowKit
attribute [local go_sem ↓] Go.wp_at_zero Go.wp_at_succ

/-- Behind i pushes, of orders 1, 2, ..: few wanted. -/
structure Pu (i : Nat) (L : List Ord) : Prop where
  len : L.length = i
  el : ∀ x ∈ L, ∃ k : Nat, k < i ∧ x.id = (k : Int) + 1
  has : ∀ k : Nat, k < i → ∃ x ∈ L, x.id = (k : Int) + 1
  qty : ∀ x ∈ L, x.qty ≤ 16
theorem Pu.start : Pu 0 [] := ⟨rfl, by simp, fun k h => by omega, by simp⟩
theorem Pu.step {i : Nat} {L : List Ord} {x : Ord} (up : Bool) (h : Pu i L) (hx : x.id = (i : Int) + 1) (hq : x.qty ≤ 16) : Pu (i + 1) (ins up x L) ∧ ∀ y ∈ L, y.id ≠ x.id := by
  have hp := ins_perm up x L
  refine ⟨⟨by rw [hp.length_eq]; simp [h.len], fun y hy => ?_, fun k hk => ?_, fun y hy => ?_⟩, fun y hy => ?_⟩
  · rcases List.mem_cons.1 (hp.mem_iff.1 hy) with h1 | h1
    · exact ⟨i, by omega, by rw [h1, hx]⟩
    · obtain ⟨k, h2, h3⟩ := h.el y h1
      exact ⟨k, by omega, h3⟩
  · by_cases c : k = i
    · subst c; exact ⟨x, hp.mem_iff.2 (by simp), hx⟩
    · obtain ⟨y, h1, h2⟩ := h.has k (by omega)
      exact ⟨y, hp.mem_iff.2 (by simp [h1]), h2⟩
  · rcases List.mem_cons.1 (hp.mem_iff.1 hy) with h1 | h1
    · rw [h1]; exact hq
    · exact h.qty y h1
  · obtain ⟨k, h2, h3⟩ := h.el y hy
    rw [h3, hx]; omega
theorem row_cells {w : World} {a : Option Addr} {z : List Int} (h : Row64 w a z) {k : Nat} (hk : k < z.length) : ∃ b off, a = some ⟨b, off, none⟩ ∧ ∀ wr, Below w.heap.size w wr → wr.cell? ⟨b, off + k, none⟩ = some (.int .u64 (z.getD k 0)) := by
  rcases h with rfl | ⟨b, off, rfl, hc⟩
  · simp at hk
  · exact ⟨b, off, rfl, fun wr hb => below_cell hb (hc k hk)⟩
theorem quiet_len {W : World} {b s m : Nat} {up : Bool} {L : List Ord} {q : Int} (h : Que W b s up L) (hq : ((L.length : Nat) : Int) = q) : Calls Tryz.prog 219 #[.pointer (some ⟨b, 0, none⟩)] (W.drewN m) fun e w'' => e = .returned (.int .i64 q) ∧ ∃ k, w'' = W.drewN k :=
  (qLen (h.drewN m)).mono fun e w' ⟨he, hw⟩ => ⟨by rw [he, hq], m, hw.symm⟩
theorem cutQ_head (m : Int) (y : Ord) (L : List Ord) : cutQ m (y :: L) = { y with qty := if m ≤ y.qty then y.qty - m else y.qty } :: L := by
  rw [cutQ_cons]
  by_cases h : m ≤ y.qty
  · rw [if_pos h, if_pos h]
  · rw [if_neg h, if_neg h]
/-- The wanted of an order in a row, stored. -/
theorem ocs_setq (l : List Ord) (k : Nat) (q : Int) (hk : k < l.length) : (ocs l).set (k * 5 + 4) (.int .u64 q) = ocs (l.set k { l.getD k Ord.zero with qty := q }) := by
  induction l generalizing k with
  | nil => simp at hk
  | cons x l ih =>
    cases k with
    | zero => simp [ocs, oc]
    | succ k =>
      have := ih k (by simpa using hk)
      rw [List.set_cons_succ]
      show (oc x ++ ocs l).set _ _ = oc x ++ ocs (l.set k _)
      rw [List.set_append_right _ _ (by rw [oc_len]; omega), oc_len, show (k + 1) * 5 + 4 - 5 = k * 5 + 4 by omega, this]
      rfl
theorem Orow.setq {w : World} {g : Nat} {l : List Ord} (h : Orow w g l) {k : Nat} (hk : k < l.length) (q : Int) : Orow (w.setCell ⟨g, k * 5 + 4, none⟩ (.int .u64 q)) g (l.set k { l.getD k Ord.zero with qty := q }) := by
  unfold Orow
  rw [← ocs_setq l k q hk]
  exact Beg.set h _ _ (by rw [ocs_len]; omega)

end Go.Proofs.YteabcpmpcbjicaaGreat

namespace Go.Proofs.YteabcpmpcbjicaaGreat
set_option linter.unusedVariables false
open Go Go.Proofs Go.RowKit
attribute [local go_sem ↓] Go.wp_at_zero Go.wp_at_succ

/-- Remove, of what stands and of what does not. -/
theorem qRemove_any {w : World} {b s : Nat} {up : Bool} {L : List Ord} (h : Que w b s up L) (hm : L.length < 1000000000000) (k : Int) : Calls Tryz.prog 208 #[.pointer (some ⟨b, 0, none⟩), .int .i64 k] w fun e w' => ∃ (r : Ord) (ok : Bool), e = .returned (.tuple #[ov r, .bool ok]) ∧ Que w' b s up (sans k L) ∧ Chg [b, s] w w' ∧ (ok = true → r.id = k) ∧ (ok = true ↔ ∃ x ∈ L, x.id = k) := by
  by_cases hx : ∃ x ∈ L, x.id = k
  · obtain ⟨x, h1, h2⟩ := hx
    refine (qRemove_yes h hm h1 h2).mono ?_
    rintro e w' ⟨rfl, hQ, hC⟩
    exact ⟨x, true, rfl, hQ, hC, fun _ => h2, fun _ => ⟨x, h1, h2⟩, fun _ => rfl⟩
  · have hn : ∀ x ∈ L, x.id ≠ k := fun x h1 h2 => hx ⟨x, h1, h2⟩
    refine (qRemove_no h hn).mono ?_
    rintro e w' ⟨rfl, hC⟩
    exact ⟨Ord.zero, false, rfl, by rw [sans_none hn]; exact h.chg hC (by simp) (by simp), hC.mono (by simp), by simp, by simp, fun h => absurd h hx⟩

/-- A row of orders that a call made, in this and later worlds. -/
def Osn (W : World) (B : Nat) (a : Option Addr) (L : List Ord) : Prop := L = [] ∨ ∃ g, a = some ⟨g, 0, none⟩ ∧ B ≤ g ∧ Orow W g L
theorem Onew.osn {W : World} {B : Nat} {v : Value} {L : List Ord} (h : Onew W B v L) : ∃ a c, v = .slice a L.length c ∧ Osn W B a L := by
  by_cases hL : L = []
  · subst hL
    obtain ⟨a, c, rfl⟩ := own_slice h
    exact ⟨a, c, rfl, .inl rfl⟩
  · obtain ⟨g, c, rfl, h1, _, _, h2⟩ := h.full hL
    exact ⟨_, c, rfl, .inr ⟨g, rfl, h1, h2⟩⟩
theorem Osn.chg {W W' : World} {B : Nat} {a : Option Addr} {L : List Ord} {S : List Nat} (h : Osn W B a L) (g : Chg S W W') (hs : ∀ x ∈ S, x < B) : Osn W' B a L := by
  rcases h with h | ⟨k, h1, h2, h3⟩
  · exact .inl h
  · exact .inr ⟨k, h1, h2, Beg.chg h3 g fun hm => by have := hs k hm; omega⟩
theorem Osn.chg0 {W W' : World} {B : Nat} {a : Option Addr} {L : List Ord} (h : Osn W B a L) (g : Chg [] W W') : Osn W' B a L := h.chg g (by simp)
theorem Osn.cells {W : World} {B : Nat} {a : Option Addr} {L : List Ord} (h : Osn W B a L) {k : Nat} (hk : k < L.length) : ∃ g, a = some ⟨g, 0, none⟩ ∧ B ≤ g ∧ Oat W g (k * 5) (L.getD k Ord.zero) := by
  rcases h with rfl | ⟨g, h1, h2, h3⟩
  · simp at hk
  · exact ⟨g, h1, h2, Orow.at h3 hk⟩

theorem sans_take_no (k : Int) (L : List Ord) {j : Nat} (hj : j < L.length) (h : (L.getD j Ord.zero).id = k) : sans k (L.take (j + 1)) = sans k (L.take j) := by
  rw [List.take_succ_eq_append_getElem hj]
  have e : L.getD j Ord.zero = L[j] := by simp [List.getD, hj]
  rw [e] at h
  unfold sans
  rw [List.filter_append, List.filter_cons_of_neg (by simp [h]), List.filter_nil, List.append_nil]
theorem sans_take_yes (k : Int) (L : List Ord) {j : Nat} (hj : j < L.length) (h : (L.getD j Ord.zero).id ≠ k) : sans k (L.take (j + 1)) = sans k (L.take j) ++ [L.getD j Ord.zero] := by
  rw [List.take_succ_eq_append_getElem hj]
  have e : L.getD j Ord.zero = L[j] := by simp [List.getD, hj]
  rw [e] at h ⊢
  unfold sans
  rw [List.filter_append, List.filter_cons_of_pos (by simp [h]), List.filter_nil]
theorem sans_sans (k : Int) (L : List Ord) : sans k (sans k L) = sans k L := by simp [sans, List.filter_filter]
theorem sans_len (k : Int) (L : List Ord) : (sans k L).length ≤ L.length := (sans_sub k L).length_le
theorem sans_has (k : Int) (L : List Ord) : ¬ ∃ x ∈ sans k L, x.id = k := by
  rintro ⟨x, h1, h2⟩
  simp [sans] at h1
  exact h1.2 h2
theorem cutQ_len (m : Int) (L : List Ord) : (cutQ m L).length = L.length := by
  cases L with
  | nil => rfl
  | cons y L => rw [cutQ_head]; simp
theorem cutQ_get0 (m : Int) (L : List Ord) (h : 0 < L.length) : (cutQ m L).getD 0 Ord.zero = { L.getD 0 Ord.zero with qty := if m ≤ (L.getD 0 Ord.zero).qty then (L.getD 0 Ord.zero).qty - m else (L.getD 0 Ord.zero).qty } := by
  cases L with
  | nil => simp at h
  | cons y L => rw [cutQ_head]; rfl
theorem cutQ_get (m : Int) (L : List Ord) (j : Nat) (h : 0 < j) : (cutQ m L).getD j Ord.zero = L.getD j Ord.zero := by
  cases L with
  | nil => rfl
  | cons y L =>
    rw [cutQ_head]
    obtain ⟨i, rfl⟩ : ∃ i, j = i + 1 := ⟨j - 1, by omega⟩
    rfl
theorem sans_mem {k : Int} {L : List Ord} {x : Ord} (h : x ∈ sans k L) : x ∈ L := (sans_sub k L).subset h
theorem mem_getDO {L : List Ord} {j : Nat} (h : j < L.length) : L.getD j Ord.zero ∈ L := by simp [List.getD, h]
end Go.Proofs.YteabcpmpcbjicaaGreat

namespace Go.Proofs.YteabcpmpcbjicaaGreat
set_option linter.unusedVariables false
open Go Go.Proofs Go.RowKit
attribute [local go_sem ↓] Go.wp_at_zero Go.wp_at_succ

/-- An order that is looked for. -/
def pickQ (k : Int) : List Ord → Ord × Bool
  | [] => (Ord.zero, false)
  | x :: L => if x.id = k then (x, true) else pickQ k L
theorem pickQ_no {k : Int} {L : List Ord} (h : ∀ x ∈ L, x.id ≠ k) : pickQ k L = (Ord.zero, false) := by
  induction L with
  | nil => rfl
  | cons x L ih => show ite _ _ _ = _; rw [if_neg (h x (by simp)), ih fun y hy => h y (by simp [hy])]
theorem pickQ_yes {k : Int} {L : List Ord} (hi : Ids L) {x : Ord} (hx : x ∈ L) (hk : x.id = k) : pickQ k L = (x, true) := by
  induction L with
  | nil => simp at hx
  | cons y L ih =>
    show ite _ _ _ = _
    by_cases h : y.id = k
    · rw [if_pos h]
      have := ids_eq hi (by simp : y ∈ y :: L) hx (by rw [h, hk])
      rw [this]
    · rw [if_neg h]
      rcases List.mem_cons.1 hx with e | e
      · subst e; exact absurd hk h
      · exact ih (List.nodup_cons.1 hi).2 e
theorem pickQ_spec (k : Int) (L : List Ord) : ((pickQ k L).2 = true ∧ (pickQ k L).1 ∈ L ∧ (pickQ k L).1.id = k) ∨ (pickQ k L = (Ord.zero, false) ∧ ∀ x ∈ L, x.id ≠ k) := by
  induction L with
  | nil => exact .inr ⟨rfl, by simp⟩
  | cons y L ih =>
    by_cases h : y.id = k
    · have e : pickQ k (y :: L) = (y, true) := if_pos h
      rw [e]; exact .inl ⟨rfl, by simp, h⟩
    · have e : pickQ k (y :: L) = pickQ k L := if_neg h
      rw [e]
      rcases ih with ⟨h1, h2, h3⟩ | ⟨h1, h2⟩
      · exact .inl ⟨h1, by simp [h2], h3⟩
      · exact .inr ⟨h1, fun x hx => by
          rcases List.mem_cons.1 hx with e | e
          · subst e; exact h
          · exact h2 x e⟩
/-- Find on a queue. -/
theorem qFind_any {w : World} {b s : Nat} {up : Bool} {L : List Ord} (h : Que w b s up L) (k : Int) : Calls Tryz.prog 207 #[.pointer (some ⟨b, 0, none⟩), .int .i64 k] w fun e w' => e = .returned (.tuple #[ov (pickQ k L).1, .bool (pickQ k L).2]) ∧ Chg [] w w' := by
  by_cases hx : ∃ x ∈ L, x.id = k
  · obtain ⟨x, h1, h2⟩ := hx
    rw [pickQ_yes h.ids h1 h2]
    exact qFind_yes h h1 h2
  · have hn : ∀ x ∈ L, x.id ≠ k := fun x h1 h2 => hx ⟨x, h1, h2⟩
    rw [pickQ_no hn]
    exact qFind_no h hn
theorem qRemove_pick {w : World} {b s : Nat} {up : Bool} {L : List Ord} (h : Que w b s up L) (hm : L.length < 1000000000000) (k : Int) : Calls Tryz.prog 208 #[.pointer (some ⟨b, 0, none⟩), .int .i64 k] w fun e w' => e = .returned (.tuple #[ov (pickQ k L).1, .bool (pickQ k L).2]) ∧ Que w' b s up (sans k L) ∧ Chg [b, s] w w' := by
  by_cases hx : ∃ x ∈ L, x.id = k
  · obtain ⟨x, h1, h2⟩ := hx
    rw [pickQ_yes h.ids h1 h2]
    exact qRemove_yes h hm h1 h2
  · have hn : ∀ x ∈ L, x.id ≠ k := fun x h1 h2 => hx ⟨x, h1, h2⟩
    rw [pickQ_no hn, sans_none hn]
    refine (qRemove_no h hn).mono ?_
    rintro e w' ⟨rfl, c⟩
    exact ⟨rfl, h.chg c (by simp) (by simp), c.mono (by simp)⟩

def hdO : List Ord → Ord × Bool
  | [] => (Ord.zero, false)
  | x :: _ => (x, true)
theorem qPeek_any {w : World} {b s : Nat} {up : Bool} {L : List Ord} (h : Que w b s up L) : Calls Tryz.prog 210 #[.pointer (some ⟨b, 0, none⟩)] w fun e w' => e = .returned (.tuple #[ov (hdO L).1, .bool (hdO L).2]) ∧ Chg [] w w' := by
  cases L with
  | nil => exact qPeek_nil h
  | cons x L => exact qPeek_cons h
end Go.Proofs.YteabcpmpcbjicaaGreat
