import Derived.Test.YtofcphfgpnobnaaPr
import Derived.BigQuiet
import Derived.Maps.AppendAt
namespace Go.Proofs.Ytofcphfgpnobnaa
set_option linter.unusedVariables false
open Go Go.Proofs Go.RowKit
attribute [local go_sem ↓] Go.wp_at_zero Go.wp_at_succ

/-! The document's own side of a book: at place o of block g, its row in block s. -/
structure Sid (w : World) (g o s : Nat) (up : Bool) (L : List Ord) : Prop where
  c0 : w.cell? ⟨g, o, none⟩ = some (.bool up)
  fr : ∀ k, w.frozen? ⟨g, k, none⟩ = false
  sl : s < w.heap.size
  row : ∃ a c, w.cell? ⟨g, o + 1, none⟩ = some (.slice a L.length c) ∧ L.length ≤ c ∧ c ≤ maxLen ∧ (L = [] ∨ (a = some ⟨s, 0, none⟩ ∧ Orow w s L))
theorem frozen_block {w w' : World} {b : Nat} (e : w'.heap[b]? = w.heap[b]?) (k : Nat) : w'.frozen? ⟨b, k, none⟩ = w.frozen? ⟨b, k, none⟩ := by simp [World.frozen?, e]
theorem Sid.lt {w : World} {g o s : Nat} {up : Bool} {L : List Ord} (h : Sid w g o s up L) : g < w.heap.size := cell_block h.c0
theorem Sid.chg {w w' : World} {g o s : Nat} {up : Bool} {L : List Ord} {S : List Nat} (h : Sid w g o s up L) (k : Chg S w w') (hg : g ∉ S) (hs : s ∉ S) : Sid w' g o s up L :=
  ⟨k.cell h.c0 hg, fun j => by rw [frozen_block (k.block g h.lt hg)]; exact h.fr j, Nat.lt_of_lt_of_le h.sl k.size,
    h.row.elim fun a ⟨c, h1, h2, h3, h4⟩ => ⟨a, c, k.cell h1 hg, h2, h3, h4.imp id fun ⟨h5, h6⟩ => ⟨h5, Beg.chg h6 k hs⟩⟩⟩
/-- All of a block but one cell is as it was. -/
def But (g j : Nat) (w w' : World) : Prop := ∀ k, k ≠ j → w'.cell? ⟨g, k, none⟩ = w.cell? ⟨g, k, none⟩
theorem But.same {g j : Nat} {w w' : World} (e : w'.heap[g]? = w.heap[g]?) : But g j w w' := fun k _ => by simp [World.cell?, e]
theorem But.trans {g j : Nat} {a b c : World} (h : But g j a b) (k : But g j b c) : But g j a c := fun i hi => (k i hi).trans (h i hi)
theorem Sid.at {w : World} {g o s : Nat} {up : Bool} {L : List Ord} (h : Sid w g o s up L) {k : Nat} (hk : k < L.length) : ∃ c, w.cell? ⟨g, o + 1, none⟩ = some (.slice (some ⟨s, 0, none⟩) L.length c) ∧ L.length ≤ c ∧ c ≤ maxLen ∧ Orow w s L ∧ Oat w s (k * 5) (L.getD k Ord.zero) := by
  obtain ⟨a, c, h1, h2, h3, h4⟩ := h.row
  rcases h4 with rfl | ⟨rfl, h4⟩
  · simp at hk
  · exact ⟨c, h1, h2, h3, h4, Orow.at h4 hk⟩

/-- Ahead. -/
theorem rAhead (up : Bool) (a b : Ord) (w : World) : Calls Try.prog 48 #[.bool up, ov a, ov b] w fun e w' => e = .returned (.bool (ahead up a b)) ∧ Chg [] w w' := by
  unfold ahead
  by_cases hp : a.price = b.price
  · rw [if_pos hp]
    have h1 : (a.price != b.price) = false := by simp [hp]
    clear hp
    go_enter Try.func48, Try.ntmps48
    go_wp2_with fail
    go_ret
    exact ⟨rfl, ((Chg.refl _ _).alloc _).alloc _⟩
  · rw [if_neg hp]
    have h1 : (a.price != b.price) = true := by simp [hp]
    clear hp
    go_enter Try.func48, Try.ntmps48
    go_wp2_with fail
    go_ret
    exact ⟨rfl, ((Chg.refl _ _).alloc _).alloc _⟩

/-- Where an order stands. -/
theorem rAt {w : World} {g o s : Nat} {up : Bool} {L : List Ord} (h : Sid w g o s up L) (k : Int) (hm : L.length ≤ 1000000000000) :
    Calls Try.prog 24 #[.pointer (some ⟨g, o, none⟩), .int .i64 k] w fun e w' => (∃ r, e = .returned (.int .i64 r) ∧ FoundAt L k r) ∧ w = w' := by
  obtain ⟨a, c, h1, h2, h3, h4⟩ := h.row
  have H4 := Lib.hid h4
  clear h4
  go_enter Try.func24, Try.ntmps24
  go_wp2_with fail
  go_loop [5] (fun i => ∃ j : Nat, j ≤ L.length ∧ i = .int .i64 j ∧ Hid (∀ x ∈ L.take j, x.id ≠ k)) (fun i => L.length - (intOf i).toNat)
  case atStart => exact ⟨0, by omega, rfl, by simp [Hid]⟩
  case round =>
    obtain ⟨j, hj, rfl, hn⟩ := hrel
    by_cases hlt : j < L.length
    · obtain ⟨rfl, hr⟩ := H4.out.resolve_left (by rintro rfl; simp at hlt)
      obtain ⟨x0, x1, x2, x3, x4⟩ := Orow.at hr hlt
      obtain ⟨x, hx⟩ : ∃ x, L.getD j Ord.zero = x := ⟨_, rfl⟩
      rw [hx] at x0 x1 x2 x3 x4
      have HX := Lib.hid hx
      have i1 : (0 : Int) ≤ (j : Int) := by omega
      have i2 : (j : Int) < (L.length : Int) := by omega
      clear hx hr
      by_cases he : x.id = k
      · have hd : (x.id == k) = true := by simpa using he
        have HE := Lib.hid he
        clear he
        go_wp2_with fail
        go_ret
        exact ⟨⟨_, rfl, .inl ⟨j, hlt, by rw [HX.out]; exact HE.out, rfl⟩⟩, rfl⟩
      · have hd : (x.id == k) = false := by simpa using he
        have HE := Lib.hid he
        clear he
        have hn2 : Hid (∀ y ∈ L.take (j + 1), y.id ≠ k) := by
          intro y hy
          rw [List.take_succ_eq_append_getElem hlt] at hy
          rcases List.mem_append.1 hy with h | h
          · exact hn.out y h
          · simp at h
            subst h
            have : L.getD j Ord.zero = L[j] := by simp [List.getD, hlt]
            rw [← this, HX.out]; exact HE.out
        go_wp2_with fail
        go_round
        case rel => exact ⟨j + 1, by omega, by go_num, hn2⟩
        case measure => simp [intOf]; omega
    · have hn3 : Hid (∀ x ∈ L, x.id ≠ k) := by
        have := hn.out
        rwa [List.take_of_length_le (by omega)] at this
      go_wp2_with fail
      go_ret
      exact ⟨⟨-1, rfl, .inr ⟨hn3.out, rfl⟩⟩, rfl⟩

/-- A row of orders, whose it may be. -/
def Osq (W : World) (a : Option Addr) (L : List Ord) : Prop := L = [] ∨ ∃ g, a = some ⟨g, 0, none⟩ ∧ Orow W g L
theorem Osq.chg {W W' : World} {a : Option Addr} {L : List Ord} (h : Osq W a L) (k : Chg [] W W') : Osq W' a L := h.imp id fun ⟨g, h1, h2⟩ => ⟨g, h1, Beg.chg h2 k (by simp)⟩
theorem Osq.cells {W : World} {a : Option Addr} {L : List Ord} (h : Osq W a L) {k : Nat} (hk : k < L.length) : ∃ g, a = some ⟨g, 0, none⟩ ∧ Oat W g (k * 5) (L.getD k Ord.zero) := by
  rcases h with rfl | ⟨g, h1, h3⟩
  · simp at hk
  · exact ⟨g, h1, Orow.at h3 hk⟩
theorem Osn.osq {W : World} {B : Nat} {a : Option Addr} {L : List Ord} (h : Osn W B a L) : Osq W a L := h.imp id fun ⟨g, h1, _, h2⟩ => ⟨g, h1, h2⟩

/-- SameOrders, of the same. -/
theorem rSame {w : World} {a1 a2 : Option Addr} {c1 c2 : Nat} {L : List Ord} (h1 : Osq w a1 L) (h2 : Osq w a2 L) (hm : L.length ≤ 1000000000000) :
    Calls Try.prog 26 #[.slice a1 L.length c1, .slice a2 L.length c2] w fun e w' => e = .returned (.bool true) ∧ Chg [] w w' := by
  go_enter Try.func26, Try.ntmps26
  go_wp2_with fail
  go_loopw [5] (fun i wr => ∃ j : Nat, j ≤ L.length ∧ i = .int .i64 j ∧ Chg [] w wr) (fun i _ => L.length - (intOf i).toNat)
  case atStart => exact ⟨0, by omega, rfl, Chg.refl _ _⟩
  case round =>
    obtain ⟨j, hj, rfl, hc⟩ := hrel
    by_cases hlt : j < L.length
    · obtain ⟨g1, rfl, x0, x1, x2, x3, x4⟩ := (h1.chg hc).cells hlt
      obtain ⟨g2, rfl, y0, y1, y2, y3, y4⟩ := (h2.chg hc).cells hlt
      generalize L.getD j Ord.zero = u at *
      have i1 : (0 : Int) ≤ (j : Int) := by omega
      have i2 : (j : Int) < (L.length : Int) := by omega
      go_wp2_with fail
      go_quiet (fail)
      go_wp2_with fail
      go_roundw
      case rel => exact ⟨j + 1, by omega, by go_num, hc.drewN _⟩
      case measure => simp [intOf]; omega
    · go_wp2_with fail
      go_ret
      exact ⟨rfl, hc⟩
end Go.Proofs.Ytofcphfgpnobnaa
