import Derived.Test.YtofcphfgpnobnaaSortW7
import Derived.Test.YtofcphfgpnobnaaSeq2
namespace Go.Proofs.Ytofcphfgpnobnaa
set_option linter.unusedVariables false
open Go Go.Proofs Go.RowKit Go.Shelf
attribute [local go_sem ↓] Go.wp_at_zero Go.wp_at_succ

/-- slices.Values. -/
theorem valuesFn (a : Option Addr) (n c : Nat) (w : World) : Calls Try.prog 45 #[.slice a n c] w fun e w' => e = .returned (.func (.func 56) #[] #[.pointer (some ⟨w.heap.size, 0, none⟩)]) ∧ w' = w.alloc (.cells #[.slice a n c] 35) := by
  go_enter Try.func45, Try.ntmps45
  go_wp2_with fail
  go_ret
  exact ⟨rfl, rfl⟩

/-- slices.Collect. -/
theorem collect {w : World} {Bs : Nat} {sv : Value} {zs : List Ord} (hlen : zs.length < 1000000000000) (hc : w.cell? ⟨Bs, 0, none⟩ = some sv) (hI : Osl w sv zs) :
    Calls Try.prog 54 #[.func (.func 56) #[] #[.pointer (some ⟨Bs, 0, none⟩)]] w fun e W' => ∃ v, e = .returned v ∧ W'.ownsRow w.heap.size 28 5 v zs.length (ocs zs) ∧ Chg [] w W' := by
  have HC := Lib.hid (callsIn_wide.1 (appendSeq_in Fence.wide 3 trivial trivial rfl (Nat.le_refl _) Bs sv zs hlen w hc hI))
  go_enter Try.func54, Try.ntmps54
  go_wp2_with fail
  refine HC.out.mono ?_
  rintro e w2 ⟨v, rfl, ho, hb⟩
  go_wp2_with fail
  go_ret
  exact ⟨v, rfl, ho, Chg.of_below hb⟩

set_option maxRecDepth 100000 in
theorem insNil (b : Nat) (w : World) : Calls Try.prog 67 #[.slice none 0 0, .int .i64 0, .int .i64 0, fcmp b] w fun e w' => e = .returned (.tuple #[]) ∧ w = w' := by
  go_enter Try.func67, Try.ntmps67
  go_wp2_with fail
  go_loop [8] (fun i => i = .int .i64 1) (fun _ => 0)
  case atStart => rfl
  case round =>
    subst hrel
    go_wp2_with fail
    go_end0
    exact ⟨rfl, rfl⟩
set_option maxRecDepth 100000 in
theorem stableNil (b : Nat) (w : World) : Calls Try.prog 64 #[.slice none 0 0, .int .i64 0, fcmp b] w fun e w' => e = .returned (.tuple #[]) ∧ w = w' := by
  go_enter Try.func64, Try.ntmps64
  go_wp2_with fail
  go_loop [7, 8] (fun u v => u = .int .i64 0 ∧ v = .int .i64 20) (fun _ _ => 0)
  case atStart => exact ⟨rfl, rfl⟩
  case round =>
    obtain ⟨rfl, rfl⟩ := hrel
    go_wp2_with fail
    refine (insNil b _).mono ?_
    rintro e w' ⟨rfl, rfl⟩
    go_wp2_with fail
    go_loop [6] (fun u => u = .int .i64 20) (fun _ => 0)
    case atStart => rfl
    case round =>
      subst hrel
      go_wp2_with fail
      go_end0
      exact ⟨rfl, rfl⟩

/-- A row that a call made: its elements. -/
def Onew (w : World) (B : Nat) (v : Value) (L : List Ord) : Prop := w.ownsRow B 28 5 v L.length (ocs L)

set_option maxRecDepth 100000 in
/-- slices.SortStableFunc. -/
theorem sortStable {w : World} {B b : Nat} {up : Bool} {v : Value} {l L : List Ord} (ho : Onew w B v l) (hB : b < B) (hu : w.cell? ⟨b, 1, none⟩ = some (.bool up)) (hm : l.length < 1000000000000) (hp : l.Perm L) (hL : Srt up L) :
    Calls Try.prog 55 #[v, fcmp b] w fun e w' => e = .returned (.tuple #[]) ∧ Onew w' B v L ∧ Chg (v.ownBlock.toList) w w' := by
  have hlen := hp.length_eq
  rcases ho.2 with ⟨rfl, h0⟩ | ⟨g, cap, cur, rfl, hg, hh, hn, hc, hs, ht⟩
  · obtain rfl : l = [] := List.eq_nil_of_length_eq_zero h0
    obtain rfl : L = [] := List.eq_nil_of_length_eq_zero hlen.symm
    go_enter Try.func55, Try.ntmps55
    go_wp2_with fail
    refine (stableNil b _).mono ?_
    rintro e w' ⟨rfl, rfl⟩
    go_wp2_with fail
    go_end0
    exact ⟨rfl, ho, Chg.refl _ _⟩
  · have hS : Srow w g b (cap * 5 - l.length * 5) up l := ⟨⟨cur.toList.drop (l.length * 5), by simp [hs], by unfold Blk; rw [hh, ← ht, List.take_append_drop]⟩, hu, by omega⟩
    have HL := Lib.hid hlen
    have HP := Lib.hid hp
    unfold maxLen at hc
    clear ho hs ht hh hlen hp
    go_enter Try.func55, Try.ntmps55
    go_wp2_with fail
    refine (stable hS rfl hn (by omega) hm).mono ?_
    rintro e w2 ⟨rfl, l', h2, p2, s2, c2⟩
    go_wp2_with fail
    go_end0
    have e2 : l' = L := srt_eq (p2.trans HP.out) (srti_pairwise (by rw [p2.length_eq]; exact s2)) hL
    subst e2
    obtain ⟨sp, k1, k2⟩ := h2.blk
    refine ⟨rfl, ⟨by rw [ocs_len], .inr ⟨g, cap, (ocs l' ++ sp).toArray, by rw [HL.out], hg, k2, by rw [← HL.out]; exact hn, by unfold maxLen; omega, ?_, ?_⟩⟩, by simpa [Value.ownBlock] using c2⟩
    · have := HL.out; simp [ocs_len, k1]; omega
    · simp [ocs_len]

set_option maxRecDepth 100000 in
/-- slices.SortedStableFunc. -/
theorem sortedStable {w : World} {Bs b : Nat} {up : Bool} {sv : Value} {l L : List Ord} (hc : w.cell? ⟨Bs, 0, none⟩ = some sv) (hI : Osl w sv l) (hu : w.cell? ⟨b, 1, none⟩ = some (.bool up)) (hm : l.length < 1000000000000) (hp : l.Perm L) (hL : Srt up L) :
    Calls Try.prog 44 #[.func (.func 56) #[] #[.pointer (some ⟨Bs, 0, none⟩)], fcmp b] w fun e w' => ∃ v, e = .returned v ∧ Onew w' w.heap.size v L ∧ Chg [] w w' := by
  have hb : b < w.heap.size := cell_block hu
  go_enter Try.func44, Try.ntmps44
  go_wp2_with fail
  refine (collect hm hc hI).mono ?_
  rintro e w2 ⟨v, rfl, ho, c2⟩
  have hu2 := c2.cell hu (by simp)
  go_wp2_with fail
  refine (sortStable ho hb hu2 hm hp hL).mono ?_
  rintro e w3 ⟨rfl, ho3, c3⟩
  have hbase := own_base ho
  go_wp2_with fail
  go_ret
  exact ⟨v, rfl, ho3, c2.trans' c3 (fun x hx => .inr (hbase x (by simpa using hx)))⟩

set_option maxRecDepth 100000 in
set_option maxHeartbeats 2000000 in
/-- (*Queue).All. -/
theorem qAll {w : World} {b s : Nat} {up : Bool} {L : List Ord} (h : Que w b s up L) (hm : L.length < 1000000000000) :
    Calls Try.prog 18 #[.pointer (some ⟨b, 0, none⟩)] w fun e w' => ∃ v, e = .returned v ∧ Onew w' w.heap.size v L ∧ Chg [] w w' := by
  obtain ⟨l, hr, _, hp⟩ := h.row
  obtain ⟨sv, h0, hI⟩ := hr.osl
  have hu := hr.up
  have hb := hr.hlt
  have HP := Lib.hid hp
  have HS := Lib.hid h.srt
  have hm2 : l.length < 1000000000000 := by rw [hp.length_eq]; exact hm
  obtain ⟨a, n, c, rfl⟩ : ∃ a n c, sv = .slice a n c := by
    rcases hI with ⟨rfl, _⟩ | ⟨s, cap, rfl, _⟩
    · exact ⟨_, _, _, rfl⟩
    · exact ⟨_, _, _, rfl⟩
  clear hp
  have hk : Chg [] w (w.alloc (.cells #[.slice a n c] 35)).drew := ((Chg.refl [] w).alloc _).drew
  have hc1 : (w.alloc (.cells #[.slice a n c] 35)).drew.cell? ⟨w.heap.size, 0, none⟩ = some (.slice a n c) := last_cell _ _ _ rfl rfl
  have hI1 : Osl (w.alloc (.cells #[.slice a n c] 35)).drew (.slice a n c) l := hI.below hk.below
  have hu1 := hk.cell hu (by simp)
  have h01 := hk.cell h0 (by simp)
  have HT := Lib.hid (sortedStable hc1 hI1 hu1 hm2 HP.out HS.out)
  have HK := Lib.hid hk
  have H1 := Lib.hid h01
  clear hc1 hI1 hu1 hk h01 hI
  go_enter Try.func18, Try.ntmps18
  go_wp2_with fail
  go_region_held3 (fun w' => w'.cell? ⟨b, 0, none⟩ = some (.slice a n c)) (first | go_keep | exact cc.cell H1.out (by simp))
    (first
      | ((go_at_call 45; (with_reducible refine (valuesFn _ _ _ _).mono ?_); rintro e w1 ⟨rfl, rfl⟩))
      | ((go_at_call 44; refine HT.out.mono ?_; rintro e w2 ⟨v, rfl, ho, cc⟩)))
  all_goals
    go_wp2_with fail
    go_ret
    refine ⟨v, rfl, ?_, HK.out.trans cc⟩
    refine ⟨ho.1, ?_⟩
    rcases ho.2 with h1 | ⟨g, cp, cur, e1, e2, e3⟩
    · exact .inl h1
    · exact .inr ⟨g, cp, cur, e1, by have := HK.out.size; omega, e3⟩
end Go.Proofs.Ytofcphfgpnobnaa
