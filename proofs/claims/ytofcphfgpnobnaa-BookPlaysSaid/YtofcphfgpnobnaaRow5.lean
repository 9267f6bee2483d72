import Derived.Test.YtofcphfgpnobnaaRow4
namespace Go.Proofs.Ytofcphfgpnobnaa
set_option linter.unusedVariables false
open Go Go.Proofs Go.RowKit
attribute [local go_sem ↓] Go.wp_at_zero Go.wp_at_succ

/-- The last one goes. -/
theorem Row.popped {w : World} {b s : Nat} {up : Bool} {l : List Ord} {o : Ord} (h : Row w b s up (l ++ [o])) : ∃ cap, w.cell? ⟨b, 0, none⟩ = some (.slice (some ⟨s, 0, none⟩) (l.length + 1) cap) ∧ l.length + 1 ≤ cap ∧ cap ≤ maxLen ∧ Oat w s (l.length * 5) o ∧
    w.frozen? ⟨b, 0, none⟩ = false ∧ ∀ w', Chg [] w w' → Row (w'.setCell ⟨b, 0, none⟩ (.slice (some ⟨s, 0, none⟩) l.length cap)) b s up l := by
  obtain ⟨cap, hne, hlc, hcm, h0, hr⟩ := h.full (by simp)
  have hat := hr.at (k := l.length) (by simp)
  simp [List.getD] at hat
  refine ⟨cap, by simpa using h0, by simpa using hlc, hcm, hat, ?_, fun w' hc => ?_⟩
  · rcases h.mem with ⟨h1, _⟩ | ⟨cap, sp, _, h1, _⟩
    · exact h1.free 0
    · exact h1.free 0
  · refine ⟨fun x hx => h.ok x (by simp [hx]), ?_, .inr ?_⟩
    · have := h.lt; have := hc.size; simp [World.setCell]; omega
    · rcases h.mem with ⟨_, h1⟩ | ⟨cap', sp, h1, h2, h3, h4, h5⟩
      · simp at h1
      · have := h2.at (i := 0) rfl
        rw [this] at h0
        injection h0 with h0
        injection h0 with _ _ h0
        subst h0
        refine ⟨cap', oc o ++ sp, h1, (h2.chg hc (by simp)).set 0 _, ?_, ?_, h5⟩
        · rw [ocs_snoc, List.append_assoc] at h3
          exact (h3.chg hc (by simp)).put _ _ h1
        · simp [oc_len] at h4 ⊢; omega

set_option maxRecDepth 100000 in
set_option maxHeartbeats 4000000 in
/-- (*row).Pop. -/
theorem rowPop {w : World} {b s : Nat} {up : Bool} {l : List Ord} {o : Ord} (h : Row w b s up (l ++ [o])) :
    Calls Try.prog 88 #[.pointer (some ⟨b, 0, none⟩)] w fun e w' => e = .returned (.iface 28 (ov o)) ∧ Row w' b s up l ∧ Chg [b] w w' := by
  have hlt := h.hlt
  obtain ⟨cap, h0, hlc, hcm, ⟨c0, c1, c2, c3, c4⟩, f0, hd⟩ := h.popped
  have HD := Lib.hid hd
  clear hd h
  unfold maxLen at hcm
  go_enter Try.func88, Try.ntmps88
  go_wp2_with fail
  go_ret
  exact ⟨rfl, (HD.out w (Chg.refl _ _)).alloc _, ((Chg.refl [b] w).setCell _ _ (by simp)).alloc _⟩
end Go.Proofs.Ytofcphfgpnobnaa
