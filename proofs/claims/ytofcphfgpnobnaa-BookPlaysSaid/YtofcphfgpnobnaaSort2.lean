import Derived.Test.YtofcphfgpnobnaaSort
namespace Go.Proofs.Ytofcphfgpnobnaa
set_option linter.unusedVariables false
open Go Go.Proofs Go.RowKit

theorem rotA_id (a p : Nat) : rot a (a + 1) (a + 1) p = p := by
  unfold rot
  repeat' split
  all_goals omega
theorem rotB_id (m p : Nat) : rot m m (m + 1) p = p := by
  unfold rot
  repeat' split
  all_goals omega
theorem rotA_step (a k p : Nat) (h : a ≤ k) : rot a (a + 1) (k + 1 + 1) p = rot a (a + 1) (k + 1) (if p = k + 1 then k else if p = k then k + 1 else p) := by
  unfold rot
  repeat' split
  all_goals omega
theorem rotB_step (m k p : Nat) (h : k + 1 ≤ m) : rot k m (m + 1) p = rot (k + 1) m (m + 1) (if p = k then k + 1 else if p = k + 1 then k else p) := by
  unfold rot
  repeat' split
  all_goals omega
theorem Turn.start {f : Nat → Nat} (l : List Ord) (h : ∀ p, f p = p) : Turn f l l := ⟨List.Perm.refl _, fun p => by rw [h]⟩
theorem Turn.stepA {a k : Nat} {l d : List Ord} (t : Turn (rot a (a + 1) (k + 1)) l d) (ha : a ≤ k) (hk : k + 1 < l.length) : Turn (rot a (a + 1) (k + 1 + 1)) l (Go.Proofs.Ytofcphfgpnobnaa.sw Ord.zero d k (k + 1)) := by
  have hl := t.perm.length_eq
  refine ⟨(sw_perm Ord.zero (by omega) (by omega)).trans t.perm, fun p => ?_⟩
  rw [swO d (by omega) (by omega), rotA_step a k p ha]
  repeat' split
  all_goals exact t.pt _
theorem Turn.stepB {m k : Nat} {l d : List Ord} (t : Turn (rot (k + 1) m (m + 1)) l d) (hk : k + 1 ≤ m) (hm : m < l.length) : Turn (rot k m (m + 1)) l (Go.Proofs.Ytofcphfgpnobnaa.sw Ord.zero d (k + 1) k) := by
  have hl := t.perm.length_eq
  refine ⟨(sw_perm Ord.zero (by omega) (by omega)).trans t.perm, fun p => ?_⟩
  rw [swO d (by omega) (by omega), rotB_step m k p hk]
  repeat' split
  all_goals exact t.pt _
theorem mergeA {up : Bool} {l l' : List Ord} {a b i : Nat} (h2 : SrtI up l (a + 1) b) (t : Turn (rot a (a + 1) i) l l') (h3 : a + 1 ≤ i) (h4 : i ≤ b) (hl : a + 1 < i → ahead up (gO l (i - 1)) (gO l a) = true) (hr : i < b → ahead up (gO l i) (gO l a) = false) : SrtI up l' a b := by
  obtain ⟨k1, k2, k3, k4, k5⟩ := merge_halves (mid := i - 1) (SrtI.one up l (a := a) (b := a + 1) (Nat.le_refl _)) h2 t (Nat.le_refl _) (by omega) h3 h4 (by omega) (fun h => by omega) (fun _ h => hl h)
  refine SrtI.join k2 (SrtI.join k3 k4 fun p q p1 p2 q1 q2 => ?_) k5
  rw [t.pt q, t.pt p, show rot a (a + 1) i q = q by unfold rot; rw [if_neg (by omega), if_neg (by omega)], show rot a (a + 1) i p = a by unfold rot; rw [if_neg (by omega), if_pos (by omega)]; omega]
  have := h2.at (i := i) (j := q) h3 q1 q2
  exact (ahead_swo up).ntr _ _ _ this (hr (by omega))
theorem mergeB {up : Bool} {l l' : List Ord} {a m i : Nat} (h1 : SrtI up l a m) (t : Turn (rot i m (m + 1)) l l') (h3 : a ≤ i) (h4 : i ≤ m) (hl : a < i → ahead up (gO l m) (gO l (i - 1)) = false) (hr : i < m → ahead up (gO l m) (gO l i) = true) : SrtI up l' a (m + 1) := by
  obtain ⟨k1, k2, k3, k4, k5⟩ := merge_halves (mid := i + 1) h1 (SrtI.one up l (a := m) (b := m + 1) (Nat.le_refl _)) t h3 h4 (by omega) (Nat.le_refl _) (by omega) (fun _ h => by omega) (fun h _ => by simpa using hr h)
  refine SrtI.join (SrtI.join k1 k2 fun p q p1 p2 q1 q2 => ?_) (by simpa using k3) (fun p q p1 p2 q1 q2 => k5 p q p1 p2 q1 q2)
  rw [t.pt q, t.pt p, show rot i m (m + 1) p = p by unfold rot; rw [if_neg (by omega), if_neg (by omega)], show rot i m (m + 1) q = m by unfold rot; rw [if_pos (by omega)]; omega]
  have := h1.at (i := p) (j := i - 1) p1 (by omega) (by omega)
  exact (ahead_swo up).ntr _ _ _ (hl (by omega)) this
/-- What a search by halves has found: i of lo .. hi. -/
structure Srch (u v i j : Nat) (f : Nat → Bool) : Prop where
  lo : u ≤ i
  mid : i ≤ j
  hi : j ≤ v
  left : u < i → f (i - 1) = true
  right : j < v → f j = false
theorem Srch.start {lo hi : Nat} {f : Nat → Bool} (h : lo ≤ hi) : Srch lo hi lo hi f := ⟨Nat.le_refl _, h, Nat.le_refl _, fun h => by omega, fun h => by omega⟩
theorem Srch.up {lo hi i j h : Nat} {f : Nat → Bool} (s : Srch lo hi i j f) (h1 : i ≤ h) (h2 : h < j) (e : f h = true) : Srch lo hi (h + 1) j f := ⟨by have := s.lo; omega, by omega, s.hi, fun _ => e, s.right⟩
theorem Srch.down {lo hi i j h : Nat} {f : Nat → Bool} (s : Srch lo hi i j f) (h1 : i ≤ h) (h2 : h < j) (e : f h = false) : Srch lo hi i h f := ⟨s.lo, h1, by have := s.hi; omega, s.left, fun _ => e⟩

/-- The general case of symMerge, the search over: what is left to be done. -/
theorem mergeC {up : Bool} {l l' : List Ord} {a m b s mid s0 r0 : Nat} (h1 : SrtI up l a m) (h2 : SrtI up l m b) (ham : a < m) (hmb : m < b) (hmid : mid = (a + b) / 2)
    (hs0 : (mid < m ∧ s0 = mid + m - b ∧ r0 = mid) ∨ (m ≤ mid ∧ s0 = a ∧ r0 = m)) (hf : Srch s0 r0 s s fun c => !ahead up (gO l (mid + m - 1 - c)) (gO l c)) (t : Turn (rot s m (mid + m - s)) l l') :
    SrtI up l' a s ∧ SrtI up l' s mid ∧ SrtI up l' mid (mid + m - s) ∧ SrtI up l' (mid + m - s) b ∧ ∀ p q, a ≤ p → p < mid → mid ≤ q → q < b → ahead up (gO l' q) (gO l' p) = false := by
  have g1 := hf.lo
  have g2 := hf.hi
  refine merge_halves h1 h2 t (by omega) (by omega) (by omega) (by omega) (by omega) (fun c1 c2 => ?_) (fun c1 c2 => ?_)
  · have := hf.left (by omega)
    rw [show mid + m - 1 - (s - 1) = mid + m - s by omega] at this
    simpa using this
  · have := hf.right (by omega)
    rw [show mid + m - 1 - s = mid + m - s - 1 by omega] at this
    simpa using this
theorem merge_bounds {a m b s mid s0 r0 : Nat} (ham : a < m) (hmb : m < b) (hmid : mid = (a + b) / 2) (hs0 : (mid < m ∧ s0 = mid + m - b ∧ r0 = mid) ∨ (m ≤ mid ∧ s0 = a ∧ r0 = m)) (h1 : s0 ≤ s) (h2 : s ≤ r0) :
    a ≤ s ∧ s ≤ m ∧ s ≤ mid ∧ m ≤ mid + m - s ∧ mid + m - s ≤ b ∧ mid ≤ mid + m - s ∧ a < mid ∧ mid < b := by omega
/-- Behind the two halves. -/
theorem merge_end {up : Bool} {l l1 l2 : List Ord} {a b mid : Nat} (ha : a ≤ mid) (hb : mid ≤ b) (hx : ∀ p q, a ≤ p → p < mid → mid ≤ q → q < b → ahead up (gO l q) (gO l p) = false)
    (m1 : Mix l l1 a mid) (s1 : SrtI up l1 a mid) (m2 : Mix l1 l2 mid b) (s2 : SrtI up l2 mid b) : Mix l l2 a b ∧ SrtI up l2 a b := by
  refine ⟨(m1.wide (Nat.le_refl _) hb).trans (m2.wide ha (Nat.le_refl _)), SrtI.join (s1.keep m2 (.inl (Nat.le_refl _))) s2 fun p q p1 p2 q1 q2 => ?_⟩
  obtain ⟨q', u1, u2, e⟩ := m2.within q q1 q2
  obtain ⟨p', v1, v2, f⟩ := m1.within p p1 p2
  rw [e, m2.out p (by omega), f, m1.out q' (by omega)]
  exact hx p' q' v1 v2 u1 u2
end Go.Proofs.Ytofcphfgpnobnaa
