
import Derived.Test.YteabcpmpcbjicaaRxA
import Derived.Test.YteabcpmpcbjicaaExB
namespace Go.Proofs.Yteabcpmpcbjicaa
set_option linter.unusedVariables false
open Go Go.Proofs Go.RowKit
attribute [local go_sem ↓] Go.wp_at_zero Go.wp_at_succ

/-- New, with what it turns and makes. -/
theorem exNewC {w wr : World} {ab s n : Nat} {xs : List Int} (ha : Acc wr ab s n xs) (c : Chg [] w wr) (l1 : w.heap.size ≤ ab) (l2 : w.heap.size ≤ s) :
    Calls Try.prog 28 #[.pointer (some ⟨ab, 0, none⟩)] wr fun e w' => ∃ x kb F, e = .returned (.pointer (some ⟨x, 0, none⟩)) ∧ Exc w w' x ab s kb n F xs [] [] 0 ∧ Chg [] wr w' ∧ wr.heap.size ≤ x ∧ ∀ z ∈ F, wr.heap.size ≤ z := by
  obtain ⟨m1, m2⟩ := ha.lt
  go_enter Try.func28, Try.ntmps28
  go_wp2_with fail
  refine (bNewS w wr c).mono ?_
  rintro e w1 ⟨kb, F, rfl, hB, c1, lo⟩
  have hb : Blk (w1.alloc (.cells #[.pointer (some ⟨ab, 0, none⟩), .pointer (some ⟨kb, 0, none⟩), .int .i64 0] 150)) w1.heap.size 150 [.pointer (some ⟨ab, 0, none⟩), .pointer (some ⟨kb, 0, none⟩), .int .i64 0] := Blk.new w1 _ _
  have hc : Chg [] w1 (w1.alloc (.cells #[.pointer (some ⟨ab, 0, none⟩), .pointer (some ⟨kb, 0, none⟩), .int .i64 0] 150)) := (Chg.refl _ _).alloc _
  have ha1 := (ha.chg c1 (by simp) (by simp)).chg hc (by simp) (by simp)
  have hB1 := hB.to hc
  have z1 := c1.size
  have z0 := c.size
  have hnew := hB.new
  have hcc := c1.trans hc
  clear ha hB hc
  go_wp2_with fail
  go_ret
  exact ⟨w1.heap.size, kb, F, rfl, ⟨⟨hb⟩, ha1, hB1, ⟨by omega, fun hm => by have := hnew _ hm; omega, fun hm => by have := lo _ hm; omega, fun hm => by have := lo _ hm; omega, by omega⟩, ⟨by omega, l1, l2⟩, EOk.start n⟩, hcc, z1, lo⟩
/-! The program's exchange beside the document's. -/
theorem BkS.asideL {w wr w' : World} {F S : List Nat} {k : Nat} {L M : List Ord} (h : BkS w wr F k L M) (c : Chg S wr w') (hs : ∀ z ∈ S, z ∉ F) (hl : ∀ z ∈ S, w.heap.size ≤ z) : BkS w w' F k L M :=
  ⟨h.bk.chg c (fun z hz hm => hs z hm hz), h.c.trans' c fun z hz => .inr (hl z hz), h.lo⟩
theorem Exc.asideL {w wr w' : World} {x ab s kb n : Nat} {F S : List Nat} {xs : List Int} {L M : List Ord} {k : Nat} (h : Exc w wr x ab s kb n F xs L M k) (c : Chg S wr w') (hs : ∀ z ∈ S, z ∉ F ∧ z ≠ x ∧ z ≠ ab ∧ z ≠ s ∧ w.heap.size ≤ z) : Exc w w' x ab s kb n F xs L M k :=
  ⟨h.e.chg c (fun hm => (hs _ hm).2.1 rfl), h.a.chg c (fun hm => (hs _ hm).2.2.1 rfl) (fun hm => (hs _ hm).2.2.2.1 rfl), h.b.asideL c (fun z hz => (hs z hz).1) (fun z hz => (hs z hz).2.2.2.2), h.ne, h.lo, h.ok⟩
/-- What the document's exchange keeps off. -/
def offs (y rb rs x ab s : Nat) (F : List Nat) : List Nat := y :: rb :: rs :: x :: ab :: s :: F
structure Twin (w wr : World) (x ab s kb y rb rs g n : Nat) (F : List Nat) (xs ys : List Int) (L M L2 M2 : List Ord) (k j : Nat) : Prop where
  p : Exc w wr x ab s kb n F xs L M k
  r : Rxc w wr y rb rs g n (offs y rb rs x ab s F) ys L2 M2 j
  ne : ∀ z ∈ [y, rb, rs], z ∉ F ∧ z ≠ x ∧ z ≠ ab ∧ z ≠ s
theorem Twin.to {w wr w' : World} {x ab s kb y rb rs g n : Nat} {F : List Nat} {xs ys : List Int} {L M L2 M2 : List Ord} {k j : Nat} (h : Twin w wr x ab s kb y rb rs g n F xs ys L M L2 M2 k j) (c : Chg [] wr w') : Twin w w' x ab s kb y rb rs g n F xs ys L M L2 M2 k j :=
  ⟨h.p.to c, h.r.to c, h.ne⟩
/-- The program has turned. -/
theorem Twin.left {w wr w' : World} {x ab s kb y rb rs g n : Nat} {F F' : List Nat} {xs ys xs' : List Int} {L M L2 M2 L' M' : List Ord} {k j k' : Nat} (h : Twin w wr x ab s kb y rb rs g n F xs ys L M L2 M2 k j) (p : Exc w w' x ab s kb n F' xs' L' M' k') (c : Chg (x :: s :: F) wr w') (gr : Grw wr.heap.size F F') : Twin w w' x ab s kb y rb rs g n F' xs' ys L' M' L2 M2 k' j := by
  obtain ⟨l1, l2, l3, l4, l5⟩ := p.lt
  have n1 := h.ne y (by simp)
  have n2 := h.ne rb (by simp)
  have n3 := h.ne rs (by simp)
  have hf := h.r.b.fr
  have sz := c.size
  have fy := hf y (by simp [offs])
  have frb := hf rb (by simp [offs])
  have frs := hf rs (by simp [offs])
  have nF : ∀ z, z < wr.heap.size → z ∉ F → z ∉ F' := fun z hz hn hm => (gr z hm).elim hn fun e => by omega
  refine ⟨p, h.r.far c (fun z hz => ?_) ⟨?_, ?_, ?_⟩ (fun z hz => ?_) (fun z hz => ?_) (by simp [offs]), fun z hz => ?_⟩
  · simp at hz; unfold offs; simp; rcases hz with e | e | e <;> simp [e]
  · simp; exact ⟨n1.2.1, n1.2.2.2, n1.1⟩
  · simp; exact ⟨n2.2.1, n2.2.2.2, n2.1⟩
  · simp; exact ⟨n3.2.1, n3.2.2.2, n3.1⟩
  · unfold offs at hz ⊢
    simp only [List.mem_cons] at hz ⊢
    rcases hz with e | e | e | e | e | e | e
    · simp [e]
    · simp [e]
    · simp [e]
    · simp [e]
    · simp [e]
    · simp [e]
    · rcases gr z e with e | e
      · simp [e]
      · exact .inr e
  · unfold offs at hz
    simp only [List.mem_cons] at hz
    rcases hz with e | e | e | e | e | e | e
    · omega
    · omega
    · omega
    · omega
    · omega
    · omega
    · exact l5 z e
  · have := h.ne z hz
    have hz2 : z < wr.heap.size := by
      simp at hz
      rcases hz with e | e | e <;> omega
    exact ⟨nF z hz2 this.1, this.2⟩
/-- The document's has turned. -/
theorem Twin.right {w wr w' : World} {x ab s kb y rb rs g n : Nat} {F : List Nat} {xs ys ys' : List Int} {L M L2 M2 L' M' : List Ord} {k j j' : Nat} (h : Twin w wr x ab s kb y rb rs g n F xs ys L M L2 M2 k j) (r : Rxc w w' y rb rs g n (offs y rb rs x ab s F) ys' L' M' j') (c : Chg [y, g, rs] wr w') : Twin w w' x ab s kb y rb rs g n F xs ys' L M L' M' k j' := by
  have n1 := h.ne y (by simp)
  have n3 := h.ne rs (by simp)
  have ng := h.r.b.ne
  have lo := h.r.lo
  refine ⟨h.p.asideL c fun z hz => ?_, r, h.ne⟩
  simp at hz
  unfold offs at ng
  simp only [List.mem_cons, not_or] at ng
  rcases hz with e | e | e
  · subst e; exact ⟨n1.1, n1.2.1, n1.2.2.1, n1.2.2.2, lo.1⟩
  · subst e; exact ⟨ng.2.2.2.2.2.2, ng.2.2.2.1, ng.2.2.2.2.1, ng.2.2.2.2.2.1, lo.2.2.2⟩
  · subst e; exact ⟨n3.1, n3.2.1, n3.2.2.1, n3.2.2.2, lo.2.2.1⟩
end Go.Proofs.Yteabcpmpcbjicaa
