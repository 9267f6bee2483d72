
import Derived.Test.YteabcpmpcbjicaaGreatExB
namespace Go.Proofs.YteabcpmpcbjicaaGreat
set_option linter.unusedVariables false
open Go Go.Proofs Go.RowKit
attribute [local go_sem ↓] Go.wp_at_zero Go.wp_at_succ

/-- New, with what it turns and makes. -/
theorem exNewC {w wr : World} {ab s n : Nat} {xs : List Int} (ha : Acc wr ab s n xs) (c : Chg [] w wr) (l1 : w.heap.size ≤ ab) (l2 : w.heap.size ≤ s) :
    Calls Tryz.prog 72 #[.pointer (some ⟨ab, 0, none⟩)] wr fun e w' => ∃ x kb F, e = .returned (.pointer (some ⟨x, 0, none⟩)) ∧ Exc w w' x ab s kb n F xs [] [] 0 ∧ Chg [] wr w' ∧ wr.heap.size ≤ x ∧ ∀ z ∈ F, wr.heap.size ≤ z := by
  obtain ⟨m1, m2⟩ := ha.lt
  go_enter Tryz.func72, Tryz.ntmps72
  go_wp2_with fail
  refine (bNewS w wr c).mono ?_
  rintro e w1 ⟨kb, F, rfl, hB, c1, lo⟩
  have hb : Blk (w1.alloc (.cells #[.pointer (some ⟨ab, 0, none⟩), .pointer (some ⟨kb, 0, none⟩), .int .i64 0] 207)) w1.heap.size 207 [.pointer (some ⟨ab, 0, none⟩), .pointer (some ⟨kb, 0, none⟩), .int .i64 0] := Blk.new w1 _ _
  have hc : Chg [] w1 (w1.alloc (.cells #[.pointer (some ⟨ab, 0, none⟩), .pointer (some ⟨kb, 0, none⟩), .int .i64 0] 207)) := (Chg.refl _ _).alloc _
  have ha1 := (ha.chg c1 (by simp) (by simp)).chg hc (by simp) (by simp)
  have hB1 := hB.to hc
  have z1 := c1.size
  have z0 := c.size
  have hnew := hB.new
  have hcc := c1.trans hc
  clear ha hB hc
  go_wp2_with fail
  go_ret
  exact ⟨w1.heap.size, kb, F, rfl, ⟨⟨hb⟩, ha1, hB1, ⟨by omega, fun hm => by have := hnew _ hm; omega, fun hm => by have := lo _ hm; omega, fun hm => by have := lo _ hm; omega, by omega⟩, ⟨by omega, l1, l2⟩, EOk.start n⟩, hcc, z1, lo⟩
theorem BkS.asideL {w wr w' : World} {F S : List Nat} {k : Nat} {L M : List Ord} (h : BkS w wr F k L M) (c : Chg S wr w') (hs : ∀ z ∈ S, z ∉ F) (hl : ∀ z ∈ S, w.heap.size ≤ z) : BkS w w' F k L M :=
  ⟨h.bk.chg c (fun z hz hm => hs z hm hz), h.c.trans' c fun z hz => .inr (hl z hz), h.lo⟩
theorem Exc.asideL {w wr w' : World} {x ab s kb n : Nat} {F S : List Nat} {xs : List Int} {L M : List Ord} {k : Nat} (h : Exc w wr x ab s kb n F xs L M k) (c : Chg S wr w') (hs : ∀ z ∈ S, z ∉ F ∧ z ≠ x ∧ z ≠ ab ∧ z ≠ s ∧ w.heap.size ≤ z) : Exc w w' x ab s kb n F xs L M k :=
  ⟨h.e.chg c (fun hm => (hs _ hm).2.1 rfl), h.a.chg c (fun hm => (hs _ hm).2.2.1 rfl) (fun hm => (hs _ hm).2.2.2.1 rfl), h.b.asideL c (fun z hz => (hs z hz).1) (fun z hz => (hs z hz).2.2.2.2), h.ne, h.lo, h.ok⟩
end Go.Proofs.YteabcpmpcbjicaaGreat
