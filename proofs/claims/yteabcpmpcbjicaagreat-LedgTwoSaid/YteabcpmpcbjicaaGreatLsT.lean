
import Derived.Test.YteabcpmpcbjicaaGreatSame
import Derived.Deep.CutBlock
import Derived.Deep.RegionHeld3
namespace Go.Proofs.YteabcpmpcbjicaaGreat
set_option linter.unusedVariables false
set_option linter.unusedSimpArgs false
set_option maxRecDepth 100000
open Go Go.Proofs Go.RowKit
attribute [local go_sem ↓] Go.wp_at_zero Go.wp_at_succ

theorem stB_byt2 (n : Nat) (S : LS) : Byt (stB n S) := by
  have ho : ∀ L : List Ord, Byt (L.flatMap onum) := fun L x hx => by
    obtain ⟨o, _, hx⟩ := List.mem_flatMap.1 hx
    unfold onum at hx
    simp only [List.mem_append] at hx
    rcases hx with ((h | h) | h) | h <;> exact num8_byt _ x h
  unfold stB
  refine byt_append (byt_append (byt_append ?_ ?_) ?_) ?_
  · intro x hx
    unfold cliB at hx
    obtain ⟨j, _, hx⟩ := List.mem_flatMap.1 hx
    unfold cnum at hx
    simp only [List.mem_append] at hx
    rcases hx with (h | h) | h <;> exact num8_byt _ x h
  · intro x hx
    unfold midB at hx
    simp only [List.mem_append] at hx
    rcases hx with ((((h | h) | h) | h) | h) | h <;> exact num8_byt _ x h
  · exact byt_append (num8_byt _) (ho _)
  · exact byt_append (num8_byt _) (ho _)
/-- string(l.State()) where it was told. -/
theorem st_str0 {w : World} {n : Nat} {S : LS} {gg c : Nat} (h : Beg w gg 5 (bys (stB n S))) : (convert 95 9 (.slice (some ⟨gg, 0, none⟩) (stB n S).length c)).run Tryz.prog w = .ok (.string (bstr (stB n S))) w := conv_str (stB_byt2 n S) rfl h

theorem st_str2 {w : World} {n : Nat} {S : LS} {gg c : Nat} (h : Beg w gg 5 (bys (stB n S))) {s : ByteArray} (hs : bstr (stB n S) = s) : (convert 95 9 (.slice (some ⟨gg, 0, none⟩) (stB n S).length c)).run Tryz.prog w = .ok (.string s) w := hs ▸ st_str0 h
theorem ent_cells {w : World} {g : Nat} {e : Ent} (h : Blk w g 51 (ec e)) : w.cell? ⟨g, 0, none⟩ = some (.int .i64 e.client) ∧ w.cell? ⟨g, 1, none⟩ = some (.int .u64 e.nonce) ∧ w.cell? ⟨g, 2, none⟩ = some (.int .u64 e.fee) ∧ w.cell? ⟨g, 3, none⟩ = some (.bool e.good) ∧ w.cell? ⟨g, 4, none⟩ = some (.int .i64 e.tx.kind) ∧ w.cell? ⟨g, 5, none⟩ = some (.int .i64 e.tx.asset) ∧ w.cell? ⟨g, 6, none⟩ = some (.int .i64 e.tx.dst) ∧ w.cell? ⟨g, 7, none⟩ = some (.bool e.tx.buy) ∧ w.cell? ⟨g, 8, none⟩ = some (.int .u64 e.tx.price) ∧ w.cell? ⟨g, 9, none⟩ = some (.int .u64 e.tx.qty) ∧ w.cell? ⟨g, 10, none⟩ = some (.int .i64 e.tx.id) :=
  ⟨h.at (i := 0) rfl, h.at (i := 1) rfl, h.at (i := 2) rfl, h.at (i := 3) rfl, h.at (i := 4) rfl, h.at (i := 5) rfl, h.at (i := 6) rfl, h.at (i := 7) rfl, h.at (i := 8) rfl, h.at (i := 9) rfl, h.at (i := 10) rfl⟩
theorem cell_blk {w : World} {b o : Nat} {v : Value} (h : w.cell? ⟨b, o, none⟩ = some v) : b < w.heap.size := by
  rcases Nat.lt_or_ge b w.heap.size with q | q
  · exact q
  · unfold World.cell? at h
    rw [Array.getElem?_eq_none q] at h
    simp at h
theorem bsame {w : World} {g1 g2 n c1 c2 : Nat} {l : List Int} (hb : Byt l) (hl : l.length = n) (h1 : Beg w g1 5 (bys l)) (h2 : Beg w g2 5 (bys l)) :
    Calls Tryz.prog 57 #[.slice (some ⟨g1, 0, none⟩) n c1, .slice (some ⟨g2, 0, none⟩) n c2] w fun y w' => y = .returned (.bool true) ∧ Chg [] w w' := by
  have k1 := conv_str (c := c1) hb hl h1
  have k2 := conv_str (c := c2) hb hl h2
  obtain ⟨s, hs⟩ : ∃ s, bstr l = s := ⟨_, rfl⟩
  rw [hs] at k1 k2
  clear hs h1 h2 hl hb
  go_enter Tryz.func57, Tryz.ntmps57
  go_wp2_with fail
  go_ret
  exact ⟨rfl, Chg.refl _ _⟩
theorem neq_bytes {a b : ByteArray} (h : a ≠ b) : (a.toList == b.toList) = false := by
  rw [ByteArray.toList_eq, ByteArray.toList_eq, beq_eq_false_iff_ne]
  intro q
  refine h ?_
  obtain ⟨⟨x⟩⟩ := a
  obtain ⟨⟨y⟩⟩ := b
  have q2 : x = y := q
  rw [q2]
end Go.Proofs.YteabcpmpcbjicaaGreat
