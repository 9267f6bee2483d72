import Derived.Test.YtofcphfgpnobnaaAwake8
import Derived.Test.YtofcphfgpnobnaaShell
import Derived.Deep.CutBlock
import Derived.Deep.DeepCutAuto
namespace Go.Proofs.Ytofcphfgpnobnaa
set_option linter.unusedVariables false
open Go Go.Proofs Go.RowKit
attribute [local go_sem ↓] Go.wp_at_zero Go.wp_at_succ

/-- Behind i pushes, of orders 1, 2, ..: few wanted. -/
structure Pu (i : Nat) (L : List Ord) : Prop where
  len : L.length = i
  el : ∀ x ∈ L, ∃ k : Nat, k < i ∧ x.id = (k : Int) + 1
  has : ∀ k : Nat, k < i → ∃ x ∈ L, x.id = (k : Int) + 1
  qty : ∀ x ∈ L, x.qty ≤ 16
theorem Pu.start : Pu 0 [] := ⟨rfl, by simp, fun k h => by omega, by simp⟩
theorem Pu.step {i : Nat} {L : List Ord} {x : Ord} (up : Bool) (h : Pu i L) (hx : x.id = (i : Int) + 1) (hq : x.qty ≤ 16) : Pu (i + 1) (ins up x L) ∧ ∀ y ∈ L, y.id ≠ x.id := by
  have hp := ins_perm up x L
  refine ⟨⟨by rw [hp.length_eq]; simp [h.len], fun y hy => ?_, fun k hk => ?_, fun y hy => ?_⟩, fun y hy => ?_⟩
  · rcases List.mem_cons.1 (hp.mem_iff.1 hy) with h1 | h1
    · exact ⟨i, by omega, by rw [h1, hx]⟩
    · obtain ⟨k, h2, h3⟩ := h.el y h1
      exact ⟨k, by omega, h3⟩
  · by_cases c : k = i
    · subst c; exact ⟨x, hp.mem_iff.2 (by simp), hx⟩
    · obtain ⟨y, h1, h2⟩ := h.has k (by omega)
      exact ⟨y, hp.mem_iff.2 (by simp [h1]), h2⟩
  · rcases List.mem_cons.1 (hp.mem_iff.1 hy) with h1 | h1
    · rw [h1]; exact hq
    · exact h.qty y h1
  · obtain ⟨k, h2, h3⟩ := h.el y hy
    rw [h3, hx]; omega
theorem row_cells {w : World} {a : Option Addr} {z : List Int} (h : Row64 w a z) {k : Nat} (hk : k < z.length) : ∃ b off, a = some ⟨b, off, none⟩ ∧ ∀ wr, Below w.heap.size w wr → wr.cell? ⟨b, off + k, none⟩ = some (.int .u64 (z.getD k 0)) := by
  rcases h with rfl | ⟨b, off, rfl, hc⟩
  · simp at hk
  · exact ⟨b, off, rfl, fun wr hb => below_cell hb (hc k hk)⟩
theorem quiet_len {W : World} {b s m : Nat} {up : Bool} {L : List Ord} {q : Int} (h : Que W b s up L) (hq : ((L.length : Nat) : Int) = q) : Calls Try.prog 16 #[.pointer (some ⟨b, 0, none⟩)] (W.drewN m) fun e w'' => e = .returned (.int .i64 q) ∧ ∃ k, w'' = W.drewN k :=
  (qLen (h.drewN m)).mono fun e w' ⟨he, hw⟩ => ⟨by rw [he, hq], m, hw.symm⟩
theorem cutQ_head (m : Int) (y : Ord) (L : List Ord) : cutQ m (y :: L) = { y with qty := if m ≤ y.qty then y.qty - m else y.qty } :: L := by
  rw [cutQ_cons]
  by_cases h : m ≤ y.qty
  · rw [if_pos h, if_pos h]
  · rw [if_neg h, if_neg h]
/-- The wanted of an order in a row, stored. -/
theorem ocs_setq (l : List Ord) (k : Nat) (q : Int) (hk : k < l.length) : (ocs l).set (k * 5 + 4) (.int .u64 q) = ocs (l.set k { l.getD k Ord.zero with qty := q }) := by
  induction l generalizing k with
  | nil => simp at hk
  | cons x l ih =>
    cases k with
    | zero => simp [ocs, oc]
    | succ k =>
      have := ih k (by simpa using hk)
      rw [List.set_cons_succ]
      show (oc x ++ ocs l).set _ _ = oc x ++ ocs (l.set k _)
      rw [List.set_append_right _ _ (by rw [oc_len]; omega), oc_len, show (k + 1) * 5 + 4 - 5 = k * 5 + 4 by omega, this]
      rfl
theorem Orow.setq {w : World} {g : Nat} {l : List Ord} (h : Orow w g l) {k : Nat} (hk : k < l.length) (q : Int) : Orow (w.setCell ⟨g, k * 5 + 4, none⟩ (.int .u64 q)) g (l.set k { l.getD k Ord.zero with qty := q }) := by
  unfold Orow
  rw [← ocs_setq l k q hk]
  exact Beg.set h _ _ (by rw [ocs_len]; omega)

end Go.Proofs.Ytofcphfgpnobnaa
