
import Derived.Test.YteabcpmpcbjicaaGreatWireR
import Derived.Deep.DrawnRows
import Derived.Deep.RegionHeld3
import Derived.Deep.RegionLaw
import Derived.Deep.AppendLies
namespace Go.Proofs.YteabcpmpcbjicaaGreat
set_option linter.unusedVariables false
open Go Go.Proofs Go.RowKit
attribute [local go_sem ↓] Go.wp_at_zero Go.wp_at_succ

theorem wri_sto {w1 : World} {g K : Nat} {Fr : List Nat} {v v1 : Value} {l : List Int} (hb : Blk w1 g 236 [v]) (ho : w1.ownsRow (g + 1) 5 1 v1 l.length (bys l)) (hv : ∀ k, v1.ownBlock = some k → k ∈ Fr ∨ K ≤ k) (hin : g ∈ Fr) (hlo : ∀ z ∈ Fr, g ≤ z) (hg : g < K) :
    ∃ F2, Wri (w1.setCell ⟨g, 0, none⟩ v1) g F2 l ∧ Grw K Fr F2 := by
  have how : (w1.setCell ⟨g, 0, none⟩ v1).ownsRow (g + 1) 5 1 v1 l.length (bys l) := by
    refine ⟨ho.1, ?_⟩
    rcases ho.2 with h1 | ⟨gg, c, cur, hv, hg, hh, hr⟩
    · exact .inl h1
    · refine .inr ⟨gg, c, cur, hv, hg, ?_, hr⟩
      rw [Below.heap_setCell _ _ _ _ (by show gg ≠ g; omega)]
      exact hh
  cases hvo : v1.ownBlock with
  | none => exact ⟨Fr, ⟨⟨v1, hb.set 0 v1, how, fun k hk => by rw [hvo] at hk; cases hk⟩, hin, hlo⟩, Grw.refl _ _⟩
  | some k =>
    rcases hv k hvo with h1 | h1
    · exact ⟨Fr, ⟨⟨v1, hb.set 0 v1, how, fun j hj => by rw [hvo] at hj; injection hj with hj; exact hj ▸ h1⟩, hin, hlo⟩, Grw.refl _ _⟩
    · refine ⟨k :: Fr, ⟨⟨v1, hb.set 0 v1, how, fun j hj => by rw [hvo] at hj; injection hj with hj; simp [hj]⟩, by simp [hin], fun z hz => ?_⟩, fun z hz => ?_⟩
      · rcases List.mem_cons.1 hz with e | e
        · omega
        · exact hlo z e
      · rcases List.mem_cons.1 hz with e | e
        · exact .inr (by omega)
        · exact .inl e
set_option maxRecDepth 100000 in
set_option maxHeartbeats 4000000 in
theorem wnum {w : World} {g : Nat} {F : List Nat} {l : List Int} (h : Wri w g F l) (n : Int) (hn : U n) (hl0 : l.length < 900000000) :
    Calls Tryz.prog 107 #[.pointer (some ⟨g, 0, none⟩), .int .u64 n] w fun e w' => e = .returned (.tuple #[]) ∧ ∃ F', Wri w' g F' (l ++ num8 n) ∧ Chg F w w' ∧ Grw w.heap.size F F' := by
  obtain ⟨i0, hi, hz0, hz1, hz2⟩ := info_parts info_u8
  go_enter Tryz.func107, Tryz.ntmps107
  go_wp2_with fail
  go_loopw [4] (fun i wr => ∃ (k : Nat) (Fr : List Nat), k ≤ 8 ∧ i = .int .i64 (56 - 8 * (k : Int)) ∧ Wri wr g Fr (l ++ (num8 n).take k) ∧ Chg F w wr ∧ Grw w.heap.size F Fr) (fun i _ => (intOf i + 8).toNat)
  case atStart => exact ⟨0, F, by omega, rfl, by simpa using h, Chg.refl _ _, Grw.refl _ _⟩
  case round =>
    clear h
    obtain ⟨k, Fr, hk, rfl, h, hbl, hgr⟩ := hrel
    rcases (by omega : k = 0 ∨ k = 1 ∨ k = 2 ∨ k = 3 ∨ k = 4 ∨ k = 5 ∨ k = 6 ∨ k = 7 ∨ k = 8) with rfl | rfl | rfl | rfl | rfl | rfl | rfl | rfl | rfl
    · obtain ⟨v, hb, hown, hvF⟩ := h.hd
      have h0 := hb.at (i := 0) rfl
      have hlt := hb.lt
      have hlen : (l ++ (num8 n).take 0).length = l.length + 0 := by simp [num8]
      have hA : ∀ ob, (wr.drew.alloc ob).cell? ⟨g, 0, none⟩ = some v := fun ob => (hb.drew.alloc ob).at (i := 0) rfl
      have hFr : ∀ ob, (wr.drew.alloc ob).frozen? ⟨g, 0, none⟩ = false := fun ob => (hb.drew.alloc ob).free 0
      go_upto_region 3 with (fail)
      refine wnum_reg0 (b := n / 72057594037927936 % 256) (by intro c a d v w h; cases d <;> exact h) hi hz0 hz1 hz2 (by rw [hlen]; omega) hlt (by simp [IntKind.wrap, IntKind.bits, IntKind.signed]) (Lib.hid hown) hA hFr h0 ?_
      intro v1 w1 hown1 hS1 hb1 hat1
      intros
      have hl : (l ++ (num8 n).take 0).length + 1 = (l ++ (num8 n).take 1).length := by simp [num8]
      have hs : bys (l ++ (num8 n).take 0) ++ [.int .u8 (n / 72057594037927936 % 256)] = bys (l ++ (num8 n).take 1) := by simp [num8, bys]
      obtain ⟨F2, hW, hG2⟩ := wri_sto (hb.same hS1) (by rw [hl, hs] at hown1; exact hown1) (Fr := Fr) (K := wr.heap.size) (fun k hk => (hat1 k hk).imp (hvF k) id) h.inF h.lo (by omega)
      have hB : Chg F w (w1.setCell ⟨g, 0, none⟩ v1) := hbl.trans' (((hb1 Fr hvF)).setCell ⟨g, 0, none⟩ v1 (.inl h.inF)) (fun z hz => (hgr z hz).imp id id)
      have hG3 : Grw w.heap.size F F2 := hgr.trans hG2 (hbl.size)
      clear h hb h0 hA hFr hown hown1 hS1 hb1 hbl hl hs hlen hat1 hvF hG2 hgr
      generalize w1.setCell _ _ = W9 at *
      go_wp2_with fail
      go_roundw
      case rel => exact ⟨1, F2, by omega, rfl, hW, hB, hG3⟩
      case measure => simp [intOf]
    · obtain ⟨v, hb, hown, hvF⟩ := h.hd
      have h0 := hb.at (i := 0) rfl
      have hlt := hb.lt
      have hlen : (l ++ (num8 n).take 1).length = l.length + 1 := by simp [num8]
      have hA : ∀ ob, (wr.drew.alloc ob).cell? ⟨g, 0, none⟩ = some v := fun ob => (hb.drew.alloc ob).at (i := 0) rfl
      have hFr : ∀ ob, (wr.drew.alloc ob).frozen? ⟨g, 0, none⟩ = false := fun ob => (hb.drew.alloc ob).free 0
      go_upto_region 3 with (fail)
      refine wnum_reg1 (b := n / 281474976710656 % 256) (by intro c a d v w h; cases d <;> exact h) hi hz0 hz1 hz2 (by rw [hlen]; omega) hlt (by simp [IntKind.wrap, IntKind.bits, IntKind.signed]) (Lib.hid hown) hA hFr h0 ?_
      intro v1 w1 hown1 hS1 hb1 hat1
      intros
      have hl : (l ++ (num8 n).take 1).length + 1 = (l ++ (num8 n).take 2).length := by simp [num8]
      have hs : bys (l ++ (num8 n).take 1) ++ [.int .u8 (n / 281474976710656 % 256)] = bys (l ++ (num8 n).take 2) := by simp [num8, bys]
      obtain ⟨F2, hW, hG2⟩ := wri_sto (hb.same hS1) (by rw [hl, hs] at hown1; exact hown1) (Fr := Fr) (K := wr.heap.size) (fun k hk => (hat1 k hk).imp (hvF k) id) h.inF h.lo (by omega)
      have hB : Chg F w (w1.setCell ⟨g, 0, none⟩ v1) := hbl.trans' (((hb1 Fr hvF)).setCell ⟨g, 0, none⟩ v1 (.inl h.inF)) (fun z hz => (hgr z hz).imp id id)
      have hG3 : Grw w.heap.size F F2 := hgr.trans hG2 (hbl.size)
      clear h hb h0 hA hFr hown hown1 hS1 hb1 hbl hl hs hlen hat1 hvF hG2 hgr
      generalize w1.setCell _ _ = W9 at *
      go_wp2_with fail
      go_roundw
      case rel => exact ⟨2, F2, by omega, rfl, hW, hB, hG3⟩
      case measure => simp [intOf]
    · obtain ⟨v, hb, hown, hvF⟩ := h.hd
      have h0 := hb.at (i := 0) rfl
      have hlt := hb.lt
      have hlen : (l ++ (num8 n).take 2).length = l.length + 2 := by simp [num8]
      have hA : ∀ ob, (wr.drew.alloc ob).cell? ⟨g, 0, none⟩ = some v := fun ob => (hb.drew.alloc ob).at (i := 0) rfl
      have hFr : ∀ ob, (wr.drew.alloc ob).frozen? ⟨g, 0, none⟩ = false := fun ob => (hb.drew.alloc ob).free 0
      go_upto_region 3 with (fail)
      refine wnum_reg2 (b := n / 1099511627776 % 256) (by intro c a d v w h; cases d <;> exact h) hi hz0 hz1 hz2 (by rw [hlen]; omega) hlt (by simp [IntKind.wrap, IntKind.bits, IntKind.signed]) (Lib.hid hown) hA hFr h0 ?_
      intro v1 w1 hown1 hS1 hb1 hat1
      intros
      have hl : (l ++ (num8 n).take 2).length + 1 = (l ++ (num8 n).take 3).length := by simp [num8]
      have hs : bys (l ++ (num8 n).take 2) ++ [.int .u8 (n / 1099511627776 % 256)] = bys (l ++ (num8 n).take 3) := by simp [num8, bys]
      obtain ⟨F2, hW, hG2⟩ := wri_sto (hb.same hS1) (by rw [hl, hs] at hown1; exact hown1) (Fr := Fr) (K := wr.heap.size) (fun k hk => (hat1 k hk).imp (hvF k) id) h.inF h.lo (by omega)
      have hB : Chg F w (w1.setCell ⟨g, 0, none⟩ v1) := hbl.trans' (((hb1 Fr hvF)).setCell ⟨g, 0, none⟩ v1 (.inl h.inF)) (fun z hz => (hgr z hz).imp id id)
      have hG3 : Grw w.heap.size F F2 := hgr.trans hG2 (hbl.size)
      clear h hb h0 hA hFr hown hown1 hS1 hb1 hbl hl hs hlen hat1 hvF hG2 hgr
      generalize w1.setCell _ _ = W9 at *
      go_wp2_with fail
      go_roundw
      case rel => exact ⟨3, F2, by omega, rfl, hW, hB, hG3⟩
      case measure => simp [intOf]
    · obtain ⟨v, hb, hown, hvF⟩ := h.hd
      have h0 := hb.at (i := 0) rfl
      have hlt := hb.lt
      have hlen : (l ++ (num8 n).take 3).length = l.length + 3 := by simp [num8]
      have hA : ∀ ob, (wr.drew.alloc ob).cell? ⟨g, 0, none⟩ = some v := fun ob => (hb.drew.alloc ob).at (i := 0) rfl
      have hFr : ∀ ob, (wr.drew.alloc ob).frozen? ⟨g, 0, none⟩ = false := fun ob => (hb.drew.alloc ob).free 0
      go_upto_region 3 with (fail)
      refine wnum_reg3 (b := n / 4294967296 % 256) (by intro c a d v w h; cases d <;> exact h) hi hz0 hz1 hz2 (by rw [hlen]; omega) hlt (by simp [IntKind.wrap, IntKind.bits, IntKind.signed]) (Lib.hid hown) hA hFr h0 ?_
      intro v1 w1 hown1 hS1 hb1 hat1
      intros
      have hl : (l ++ (num8 n).take 3).length + 1 = (l ++ (num8 n).take 4).length := by simp [num8]
      have hs : bys (l ++ (num8 n).take 3) ++ [.int .u8 (n / 4294967296 % 256)] = bys (l ++ (num8 n).take 4) := by simp [num8, bys]
      obtain ⟨F2, hW, hG2⟩ := wri_sto (hb.same hS1) (by rw [hl, hs] at hown1; exact hown1) (Fr := Fr) (K := wr.heap.size) (fun k hk => (hat1 k hk).imp (hvF k) id) h.inF h.lo (by omega)
      have hB : Chg F w (w1.setCell ⟨g, 0, none⟩ v1) := hbl.trans' (((hb1 Fr hvF)).setCell ⟨g, 0, none⟩ v1 (.inl h.inF)) (fun z hz => (hgr z hz).imp id id)
      have hG3 : Grw w.heap.size F F2 := hgr.trans hG2 (hbl.size)
      clear h hb h0 hA hFr hown hown1 hS1 hb1 hbl hl hs hlen hat1 hvF hG2 hgr
      generalize w1.setCell _ _ = W9 at *
      go_wp2_with fail
      go_roundw
      case rel => exact ⟨4, F2, by omega, rfl, hW, hB, hG3⟩
      case measure => simp [intOf]
    · obtain ⟨v, hb, hown, hvF⟩ := h.hd
      have h0 := hb.at (i := 0) rfl
      have hlt := hb.lt
      have hlen : (l ++ (num8 n).take 4).length = l.length + 4 := by simp [num8]
      have hA : ∀ ob, (wr.drew.alloc ob).cell? ⟨g, 0, none⟩ = some v := fun ob => (hb.drew.alloc ob).at (i := 0) rfl
      have hFr : ∀ ob, (wr.drew.alloc ob).frozen? ⟨g, 0, none⟩ = false := fun ob => (hb.drew.alloc ob).free 0
      go_upto_region 3 with (fail)
      refine wnum_reg4 (b := n / 16777216 % 256) (by intro c a d v w h; cases d <;> exact h) hi hz0 hz1 hz2 (by rw [hlen]; omega) hlt (by simp [IntKind.wrap, IntKind.bits, IntKind.signed]) (Lib.hid hown) hA hFr h0 ?_
      intro v1 w1 hown1 hS1 hb1 hat1
      intros
      have hl : (l ++ (num8 n).take 4).length + 1 = (l ++ (num8 n).take 5).length := by simp [num8]
      have hs : bys (l ++ (num8 n).take 4) ++ [.int .u8 (n / 16777216 % 256)] = bys (l ++ (num8 n).take 5) := by simp [num8, bys]
      obtain ⟨F2, hW, hG2⟩ := wri_sto (hb.same hS1) (by rw [hl, hs] at hown1; exact hown1) (Fr := Fr) (K := wr.heap.size) (fun k hk => (hat1 k hk).imp (hvF k) id) h.inF h.lo (by omega)
      have hB : Chg F w (w1.setCell ⟨g, 0, none⟩ v1) := hbl.trans' (((hb1 Fr hvF)).setCell ⟨g, 0, none⟩ v1 (.inl h.inF)) (fun z hz => (hgr z hz).imp id id)
      have hG3 : Grw w.heap.size F F2 := hgr.trans hG2 (hbl.size)
      clear h hb h0 hA hFr hown hown1 hS1 hb1 hbl hl hs hlen hat1 hvF hG2 hgr
      generalize w1.setCell _ _ = W9 at *
      go_wp2_with fail
      go_roundw
      case rel => exact ⟨5, F2, by omega, rfl, hW, hB, hG3⟩
      case measure => simp [intOf]
    · obtain ⟨v, hb, hown, hvF⟩ := h.hd
      have h0 := hb.at (i := 0) rfl
      have hlt := hb.lt
      have hlen : (l ++ (num8 n).take 5).length = l.length + 5 := by simp [num8]
      have hA : ∀ ob, (wr.drew.alloc ob).cell? ⟨g, 0, none⟩ = some v := fun ob => (hb.drew.alloc ob).at (i := 0) rfl
      have hFr : ∀ ob, (wr.drew.alloc ob).frozen? ⟨g, 0, none⟩ = false := fun ob => (hb.drew.alloc ob).free 0
      go_upto_region 3 with (fail)
      refine wnum_reg5 (b := n / 65536 % 256) (by intro c a d v w h; cases d <;> exact h) hi hz0 hz1 hz2 (by rw [hlen]; omega) hlt (by simp [IntKind.wrap, IntKind.bits, IntKind.signed]) (Lib.hid hown) hA hFr h0 ?_
      intro v1 w1 hown1 hS1 hb1 hat1
      intros
      have hl : (l ++ (num8 n).take 5).length + 1 = (l ++ (num8 n).take 6).length := by simp [num8]
      have hs : bys (l ++ (num8 n).take 5) ++ [.int .u8 (n / 65536 % 256)] = bys (l ++ (num8 n).take 6) := by simp [num8, bys]
      obtain ⟨F2, hW, hG2⟩ := wri_sto (hb.same hS1) (by rw [hl, hs] at hown1; exact hown1) (Fr := Fr) (K := wr.heap.size) (fun k hk => (hat1 k hk).imp (hvF k) id) h.inF h.lo (by omega)
      have hB : Chg F w (w1.setCell ⟨g, 0, none⟩ v1) := hbl.trans' (((hb1 Fr hvF)).setCell ⟨g, 0, none⟩ v1 (.inl h.inF)) (fun z hz => (hgr z hz).imp id id)
      have hG3 : Grw w.heap.size F F2 := hgr.trans hG2 (hbl.size)
      clear h hb h0 hA hFr hown hown1 hS1 hb1 hbl hl hs hlen hat1 hvF hG2 hgr
      generalize w1.setCell _ _ = W9 at *
      go_wp2_with fail
      go_roundw
      case rel => exact ⟨6, F2, by omega, rfl, hW, hB, hG3⟩
      case measure => simp [intOf]
    · obtain ⟨v, hb, hown, hvF⟩ := h.hd
      have h0 := hb.at (i := 0) rfl
      have hlt := hb.lt
      have hlen : (l ++ (num8 n).take 6).length = l.length + 6 := by simp [num8]
      have hA : ∀ ob, (wr.drew.alloc ob).cell? ⟨g, 0, none⟩ = some v := fun ob => (hb.drew.alloc ob).at (i := 0) rfl
      have hFr : ∀ ob, (wr.drew.alloc ob).frozen? ⟨g, 0, none⟩ = false := fun ob => (hb.drew.alloc ob).free 0
      go_upto_region 3 with (fail)
      refine wnum_reg6 (b := n / 256 % 256) (by intro c a d v w h; cases d <;> exact h) hi hz0 hz1 hz2 (by rw [hlen]; omega) hlt (by simp [IntKind.wrap, IntKind.bits, IntKind.signed]) (Lib.hid hown) hA hFr h0 ?_
      intro v1 w1 hown1 hS1 hb1 hat1
      intros
      have hl : (l ++ (num8 n).take 6).length + 1 = (l ++ (num8 n).take 7).length := by simp [num8]
      have hs : bys (l ++ (num8 n).take 6) ++ [.int .u8 (n / 256 % 256)] = bys (l ++ (num8 n).take 7) := by simp [num8, bys]
      obtain ⟨F2, hW, hG2⟩ := wri_sto (hb.same hS1) (by rw [hl, hs] at hown1; exact hown1) (Fr := Fr) (K := wr.heap.size) (fun k hk => (hat1 k hk).imp (hvF k) id) h.inF h.lo (by omega)
      have hB : Chg F w (w1.setCell ⟨g, 0, none⟩ v1) := hbl.trans' (((hb1 Fr hvF)).setCell ⟨g, 0, none⟩ v1 (.inl h.inF)) (fun z hz => (hgr z hz).imp id id)
      have hG3 : Grw w.heap.size F F2 := hgr.trans hG2 (hbl.size)
      clear h hb h0 hA hFr hown hown1 hS1 hb1 hbl hl hs hlen hat1 hvF hG2 hgr
      generalize w1.setCell _ _ = W9 at *
      go_wp2_with fail
      go_roundw
      case rel => exact ⟨7, F2, by omega, rfl, hW, hB, hG3⟩
      case measure => simp [intOf]
    · obtain ⟨v, hb, hown, hvF⟩ := h.hd
      have h0 := hb.at (i := 0) rfl
      have hlt := hb.lt
      have hlen : (l ++ (num8 n).take 7).length = l.length + 7 := by simp [num8]
      have hA : ∀ ob, (wr.drew.alloc ob).cell? ⟨g, 0, none⟩ = some v := fun ob => (hb.drew.alloc ob).at (i := 0) rfl
      have hFr : ∀ ob, (wr.drew.alloc ob).frozen? ⟨g, 0, none⟩ = false := fun ob => (hb.drew.alloc ob).free 0
      go_upto_region 3 with (fail)
      refine wnum_reg7 (b := n % 256) (by intro c a d v w h; cases d <;> exact h) hi hz0 hz1 hz2 (by rw [hlen]; omega) hlt (by simp [IntKind.wrap, IntKind.bits, IntKind.signed]) (Lib.hid hown) hA hFr h0 ?_
      intro v1 w1 hown1 hS1 hb1 hat1
      intros
      have hl : (l ++ (num8 n).take 7).length + 1 = (l ++ (num8 n).take 8).length := by simp [num8]
      have hs : bys (l ++ (num8 n).take 7) ++ [.int .u8 (n % 256)] = bys (l ++ (num8 n).take 8) := by simp [num8, bys]
      obtain ⟨F2, hW, hG2⟩ := wri_sto (hb.same hS1) (by rw [hl, hs] at hown1; exact hown1) (Fr := Fr) (K := wr.heap.size) (fun k hk => (hat1 k hk).imp (hvF k) id) h.inF h.lo (by omega)
      have hB : Chg F w (w1.setCell ⟨g, 0, none⟩ v1) := hbl.trans' (((hb1 Fr hvF)).setCell ⟨g, 0, none⟩ v1 (.inl h.inF)) (fun z hz => (hgr z hz).imp id id)
      have hG3 : Grw w.heap.size F F2 := hgr.trans hG2 (hbl.size)
      clear h hb h0 hA hFr hown hown1 hS1 hb1 hbl hl hs hlen hat1 hvF hG2 hgr
      generalize w1.setCell _ _ = W9 at *
      go_wp2_with fail
      go_roundw
      case rel => exact ⟨8, F2, by omega, rfl, hW, hB, hG3⟩
      case measure => simp [intOf]
    · go_wp2_with fail
      go_end0
      exact ⟨rfl, Fr, by simpa [num8] using h, hbl, hgr⟩
end Go.Proofs.YteabcpmpcbjicaaGreat
