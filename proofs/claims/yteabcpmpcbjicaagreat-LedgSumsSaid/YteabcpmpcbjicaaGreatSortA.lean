
import Derived.Test.YteabcpmpcbjicaaGreatMemA
namespace Go.Proofs.YteabcpmpcbjicaaGreat
set_option linter.unusedVariables false
open Go Go.Proofs Go.RowKit

/-! Sorting in place, told by places: plain. -/
abbrev gO (l : List Ord) (p : Nat) : Ord := l.getD p Ord.zero
/-- Sorted from a to b. -/
def SrtI (up : Bool) (l : List Ord) (a b : Nat) : Prop := ∀ i j, a ≤ i → i < j → j < b → ahead up (gO l j) (gO l i) = false
/-- Turned from a to b alone. -/
structure Mix (l l' : List Ord) (a b : Nat) : Prop where
  perm : l'.Perm l
  out : ∀ p, p < a ∨ b ≤ p → gO l' p = gO l p
  within : ∀ p, a ≤ p → p < b → ∃ q, a ≤ q ∧ q < b ∧ gO l' p = gO l q
theorem Mix.len {l l' : List Ord} {a b : Nat} (h : Mix l l' a b) : l'.length = l.length := h.perm.length_eq
theorem Mix.refl (l : List Ord) (a b : Nat) : Mix l l a b := ⟨List.Perm.refl _, fun _ _ => rfl, fun p h1 h2 => ⟨p, h1, h2, rfl⟩⟩
theorem Mix.trans {l m n : List Ord} {a b : Nat} (h : Mix l m a b) (k : Mix m n a b) : Mix l n a b :=
  ⟨k.perm.trans h.perm, fun p hp => (k.out p hp).trans (h.out p hp), fun p h1 h2 => by
    obtain ⟨q, q1, q2, e⟩ := k.within p h1 h2
    obtain ⟨r, r1, r2, f⟩ := h.within q q1 q2
    exact ⟨r, r1, r2, e.trans f⟩⟩
theorem Mix.wide {l m : List Ord} {a b c d : Nat} (h : Mix l m c d) (h1 : a ≤ c) (h2 : d ≤ b) : Mix l m a b :=
  ⟨h.perm, fun p hp => h.out p (by omega), fun p p1 p2 => by
    by_cases hc : c ≤ p ∧ p < d
    · obtain ⟨q, q1, q2, e⟩ := h.within p hc.1 hc.2
      exact ⟨q, by omega, by omega, e⟩
    · exact ⟨p, p1, p2, h.out p (by omega)⟩⟩
theorem SrtI.keep {up : Bool} {l l' : List Ord} {a b c d : Nat} (h : SrtI up l a b) (m : Mix l l' c d) (hd : b ≤ c ∨ d ≤ a) : SrtI up l' a b := fun i j h1 h2 h3 => by
  rw [m.out i (by omega), m.out j (by omega)]
  exact h i j h1 h2 h3
theorem SrtI.sub {up : Bool} {l : List Ord} {a b c d : Nat} (h : SrtI up l a b) (h1 : a ≤ c) (h2 : d ≤ b) : SrtI up l c d := fun i j i1 i2 i3 => h i j (by omega) i2 (by omega)
theorem SrtI.one (up : Bool) (l : List Ord) {a b : Nat} (h : b ≤ a + 1) : SrtI up l a b := fun i j h1 h2 h3 => by omega
theorem SrtI.at {up : Bool} {l : List Ord} {a b i j : Nat} (h : SrtI up l a b) (h1 : a ≤ i) (h2 : i ≤ j) (h3 : j < b) : ahead up (gO l j) (gO l i) = false := by
  rcases Nat.lt_or_ge i j with h4 | h4
  · exact h i j h1 h4 h3
  · obtain rfl : i = j := by omega
    exact (ahead_swo up).irr _
theorem SrtI.cong {up : Bool} {l l' : List Ord} {a b : Nat} (h : SrtI up l a b) (e : ∀ p, a ≤ p → p < b → gO l' p = gO l p) : SrtI up l' a b := fun i j h1 h2 h3 => by
  rw [e i (by omega) (by omega), e j (by omega) (by omega)]; exact h i j h1 h2 h3
/-- Two sorted halves, none of the second ahead of one of the first. -/
theorem SrtI.join {up : Bool} {l : List Ord} {a m b : Nat} (h : SrtI up l a m) (k : SrtI up l m b) (x : ∀ p q, a ≤ p → p < m → m ≤ q → q < b → ahead up (gO l q) (gO l p) = false) : SrtI up l a b := fun i j h1 h2 h3 => by
  by_cases c1 : j < m
  · exact h i j h1 h2 c1
  · by_cases c2 : m ≤ i
    · exact k i j c2 h2 h3
    · exact x i j h1 (by omega) (by omega) h3

theorem swO (l : List Ord) {i j : Nat} (hi : i < l.length) (hj : j < l.length) (k : Nat) : gO (sw Ord.zero l i j) k = if k = j then gO l i else if k = i then gO l j else gO l k := sw_get Ord.zero hi hj k
theorem sw_mix (l : List Ord) {i j a b : Nat} (hi : i < l.length) (hj : j < l.length) (h1 : a ≤ i) (h2 : i < b) (h3 : a ≤ j) (h4 : j < b) : Mix l (sw Ord.zero l i j) a b :=
  ⟨sw_perm Ord.zero hi hj, fun p hp => by rw [swO l hi hj, if_neg (by omega), if_neg (by omega)], fun p p1 p2 => by
    rw [swO l hi hj]
    by_cases c : p = j
    · exact ⟨i, h1, h2, by rw [if_pos c]⟩
    · by_cases d : p = i
      · exact ⟨j, h3, h4, by rw [if_neg c, if_pos d]⟩
      · exact ⟨p, p1, p2, by rw [if_neg c, if_neg d]⟩⟩

/-- insertionSort: the one at i goes down: from a to i + 1 all is sorted but for the one at j. -/
structure InsI (up : Bool) (l : List Ord) (a i j : Nat) : Prop where
  lo : a ≤ j
  hi : j ≤ i
  rest : ∀ p q, a ≤ p → p < q → q ≤ i → p ≠ j → q ≠ j → ahead up (gO l q) (gO l p) = false
  above : ∀ q, j < q → q ≤ i → ahead up (gO l q) (gO l j) = false
theorem InsI.start {up : Bool} {l : List Ord} {a i : Nat} (h : SrtI up l a i) (ha : a ≤ i) : InsI up l a i i :=
  ⟨ha, Nat.le_refl _, fun p q h1 h2 h3 h4 h5 => h p q h1 h2 (by omega), fun q h1 h2 => by omega⟩
theorem InsI.step {up : Bool} {l : List Ord} {a i j : Nat} (h : InsI up l a i j) (hj : a < j) (hil : i < l.length) (hl : ahead up (gO l j) (gO l (j - 1)) = true) : InsI up (sw Ord.zero l j (j - 1)) a i (j - 1) := by
  have hi := h.hi
  have g := swO l (i := j) (j := j - 1) (by omega) (by omega)
  refine ⟨by omega, by omega, fun p q h1 h2 h3 h4 h5 => ?_, fun q h1 h2 => ?_⟩
  · rw [g, g, if_neg (show q ≠ j - 1 by omega), if_neg (show p ≠ j - 1 by omega)]
    by_cases c1 : q = j
    · rw [if_pos c1, if_neg (show p ≠ j by omega)]
      exact h.rest p (j - 1) h1 (by omega) (by omega) (by omega) (by omega)
    · rw [if_neg c1]
      by_cases c2 : p = j
      · rw [if_pos c2]
        exact h.rest (j - 1) q (by omega) (by omega) h3 (by omega) c1
      · rw [if_neg c2]
        exact h.rest p q h1 h2 h3 c2 c1
  · rw [g, g, if_neg (show q ≠ j - 1 by omega), if_pos rfl]
    by_cases c1 : q = j
    · rw [if_pos c1]
      exact (ahead_swo up).asy hl
    · rw [if_neg c1]
      exact h.above q (by omega) h2
theorem InsI.done {up : Bool} {l : List Ord} {a i j : Nat} (h : InsI up l a i j) (hs : j = a ∨ ahead up (gO l j) (gO l (j - 1)) = false) : SrtI up l a (i + 1) := fun p q h1 h2 h3 => by
  by_cases c1 : p = j
  · subst c1; exact h.above q h2 (by omega)
  · by_cases c2 : q = j
    · subst c2
      rcases hs with h4 | h4
      · omega
      · by_cases c3 : p = q - 1
        · subst c3; exact h4
        · exact (ahead_swo up).ntr _ _ _ h4 (h.rest p (q - 1) h1 (by omega) (by have := h.hi; omega) c1 (by omega))
    · exact h.rest p q h1 h2 (by omega) c1 c2

/-! symMerge -/
/-- Where what stands at p behind the exchange of a..m and m..b stood ahead of it. -/
def rot (a m b p : Nat) : Nat := if a ≤ p ∧ p < a + (b - m) then p - a + m else if a + (b - m) ≤ p ∧ p < b then p - (b - m) else p
/-- The same of two rows of one length n, at a and at b. -/
def swr (a b n p : Nat) : Nat := if a ≤ p ∧ p < a + n then p - a + b else if b ≤ p ∧ p < b + n then p - b + a else p
structure Turn (f : Nat → Nat) (l l' : List Ord) : Prop where
  perm : l'.Perm l
  pt : ∀ p, gO l' p = gO l (f p)
theorem Turn.cong {f g : Nat → Nat} {l l' : List Ord} (h : Turn f l l') (e : ∀ p, f p = g p) : Turn g l l' := ⟨h.perm, fun p => by rw [h.pt, e]⟩
theorem Turn.mix {a m b : Nat} {l l' : List Ord} (h : Turn (rot a m b) l l') (h1 : a ≤ m) (h2 : m ≤ b) : Mix l l' a b :=
  ⟨h.perm, fun p hp => by rw [h.pt]; unfold rot; rw [if_neg (by omega), if_neg (by omega)], fun p p1 p2 => ⟨rot a m b p, by unfold rot; split; omega; split <;> omega, by unfold rot; split; omega; split <;> omega, h.pt p⟩⟩
theorem swr_step (a b k p : Nat) (h : a + k < b) : swr a b (k + 1) p = swr a b k (if p = b + k then a + k else if p = a + k then b + k else p) := by
  unfold swr
  repeat' split
  all_goals omega
theorem Turn.sw {a b k : Nat} {l l' : List Ord} (h : Turn (swr a b k) l l') (hab : a + k < b) (hl : b + k < l.length) : Turn (swr a b (k + 1)) l (sw Ord.zero l' (a + k) (b + k)) := by
  have hlen := h.perm.length_eq
  refine ⟨(sw_perm Ord.zero (by omega) (by omega)).trans h.perm, fun p => ?_⟩
  rw [swO l' (by omega) (by omega), swr_step a b k p hab]
  repeat' split
  all_goals exact h.pt _
/-- rotate: what is still to be turned. -/
structure RotI (a m b : Nat) (l c : List Ord) (i j : Nat) : Prop where
  i1 : 1 ≤ i
  j1 : 1 ≤ j
  ia : i ≤ m - a
  jb : j ≤ b - m
  perm : c.Perm l
  pt : ∀ p, gO c (rot (m - i) m (m + j) p) = gO l (rot a m b p)
theorem RotI.start {a m b : Nat} (l : List Ord) (h1 : a < m) (h2 : m < b) : RotI a m b l l (m - a) (b - m) :=
  ⟨by omega, by omega, by omega, by omega, List.Perm.refl _, fun p => by rw [show m - (m - a) = a by omega, show m + (b - m) = b by omega]⟩
theorem rot_left {m i j : Nat} (p : Nat) (h : j < i) (hi : i ≤ m) (hj : 1 ≤ j) : swr (m - i) m j (rot (m - (i - j)) m (m + j) p) = rot (m - i) m (m + j) p := by
  unfold swr rot
  repeat' split
  all_goals omega
theorem rot_right {m i j : Nat} (p : Nat) (h : i < j) (hi : i ≤ m) (hj : 1 ≤ i) : swr (m - i) (m + j - i) i (rot (m - i) m (m + (j - i)) p) = rot (m - i) m (m + j) p := by
  unfold swr rot
  repeat' split
  all_goals omega
theorem RotI.left {a m b i j : Nat} {l c c' : List Ord} (h : RotI a m b l c i j) (hij : j < i) (t : Turn (swr (m - i) m j) c c') : RotI a m b l c' (i - j) j := by
  have := h.i1; have := h.j1; have := h.ia
  exact ⟨by omega, h.j1, by omega, h.jb, t.perm.trans h.perm, fun p => by rw [t.pt, rot_left p hij (by omega) h.j1, h.pt]⟩
theorem RotI.right {a m b i j : Nat} {l c c' : List Ord} (h : RotI a m b l c i j) (hij : i < j) (t : Turn (swr (m - i) (m + j - i) i) c c') : RotI a m b l c' i (j - i) := by
  have := h.i1; have := h.j1; have := h.ia; have := h.jb
  exact ⟨h.i1, by omega, h.ia, by omega, t.perm.trans h.perm, fun p => by rw [t.pt, rot_right p hij (by omega) h.i1, h.pt]⟩
theorem rot_eq {m i : Nat} (p : Nat) (hi : i ≤ m) : swr (m - i) m i p = rot (m - i) m (m + i) p := by
  unfold swr rot
  repeat' split
  all_goals omega
theorem RotI.last {a m b i : Nat} {l c c' : List Ord} (h : RotI a m b l c i i) (t : Turn (swr (m - i) m i) c c') : Turn (rot a m b) l c' := by
  have := h.ia; have := h.i1
  exact ⟨t.perm.trans h.perm, fun p => by rw [t.pt, rot_eq p (by omega), h.pt]⟩

/-- What the search for start has found: s, of those from a0 to r0; n - s is the end. -/
structure FndI (up : Bool) (l : List Ord) (n s0 r0 s r : Nat) : Prop where
  lo : s0 ≤ s
  mid : s ≤ r
  hi : r ≤ r0
  left : s0 < s → ahead up (gO l (n - s)) (gO l (s - 1)) = false
  right : r < r0 → ahead up (gO l (n - 1 - r)) (gO l r) = true
/-- The halves behind the rotation. -/
theorem merge_halves {up : Bool} {l l' : List Ord} {a m b s e mid : Nat} (h1 : SrtI up l a m) (h2 : SrtI up l m b) (t : Turn (rot s m e) l l') (ha : a ≤ s) (hs : s ≤ m) (he : m ≤ e) (hb : e ≤ b) (hmid : s + (e - m) = mid)
    (hl : a < s → e < b → ahead up (gO l e) (gO l (s - 1)) = false) (hr : s < m → m < e → ahead up (gO l (e - 1)) (gO l s) = true) :
    SrtI up l' a s ∧ SrtI up l' s mid ∧ SrtI up l' mid e ∧ SrtI up l' e b ∧ ∀ p q, a ≤ p → p < mid → mid ≤ q → q < b → ahead up (gO l' q) (gO l' p) = false := by
  have o1 : ∀ p, p < s → gO l' p = gO l p := fun p hp => by rw [t.pt]; unfold rot; rw [if_neg (by omega), if_neg (by omega)]
  have o2 : ∀ p, s ≤ p → p < mid → gO l' p = gO l (p - s + m) := fun p p1 p2 => by rw [t.pt]; unfold rot; rw [if_pos (by omega)]
  have o3 : ∀ p, mid ≤ p → p < e → gO l' p = gO l (p - (e - m)) := fun p p1 p2 => by rw [t.pt]; unfold rot; rw [if_neg (by omega), if_pos (by omega)]
  have o4 : ∀ p, e ≤ p → gO l' p = gO l p := fun p hp => by rw [t.pt]; unfold rot; rw [if_neg (by omega), if_neg (by omega)]
  refine ⟨fun i j i1 i2 i3 => ?_, fun i j i1 i2 i3 => ?_, fun i j i1 i2 i3 => ?_, fun i j i1 i2 i3 => ?_, fun p q p1 p2 q1 q2 => ?_⟩
  · rw [o1 i (by omega), o1 j (by omega)]; exact h1 i j i1 i2 (by omega)
  · rw [o2 i (by omega) (by omega), o2 j (by omega) (by omega)]; exact h2 _ _ (by omega) (by omega) (by omega)
  · rw [o3 i (by omega) (by omega), o3 j (by omega) (by omega)]; exact h1 _ _ (by omega) (by omega) (by omega)
  · rw [o4 i (by omega), o4 j (by omega)]; exact h2 i j (by omega) i2 i3
  · by_cases c1 : p < s
    · rw [o1 p c1]
      by_cases c2 : q < e
      · rw [o3 q q1 c2]; exact h1.at p1 (by omega) (by omega)
      · rw [o4 q (by omega)]
        have x1 := hl (by omega) (by omega)
        have x2 := h1.at (i := p) (j := s - 1) p1 (by omega) (by omega)
        have x3 := h2.at (i := e) (j := q) he (by omega) q2
        exact (ahead_swo up).ntr _ _ _ x3 ((ahead_swo up).ntr _ _ _ x1 x2)
    · rw [o2 p (by omega) p2]
      by_cases c2 : q < e
      · rw [o3 q q1 c2]
        have x1 := (ahead_swo up).asy (hr (by omega) (by omega))
        have x2 := h2.at (i := p - s + m) (j := e - 1) (by omega) (by omega) (by omega)
        have x3 := h1.at (i := s) (j := q - (e - m)) ha (by omega) (by omega)
        exact (ahead_swo up).ntr _ _ _ x3 ((ahead_swo up).ntr _ _ _ x1 x2)
      · rw [o4 q (by omega)]; exact h2.at (by omega) (by omega) q2

/-- Two rows of one make that are sorted are one. -/
theorem srt_eq {up : Bool} {l L : List Ord} (hp : l.Perm L) (hl : l.Pairwise fun a b => ahead up b a = false) (hL : Srt up L) : l = L := by
  induction L generalizing l with
  | nil => exact List.Perm.eq_nil hp
  | cons y L ih =>
    cases l with
    | nil => have := hp.length_eq; simp at this
    | cons x l =>
      obtain ⟨h1, h2⟩ := List.pairwise_cons.1 hl
      obtain ⟨g1, g2⟩ := List.pairwise_cons.1 hL
      have e : x = y := by
        rcases List.mem_cons.1 (hp.mem_iff.1 (show x ∈ x :: l by simp)) with h | h
        · exact h
        · rcases List.mem_cons.1 (hp.mem_iff.2 (show y ∈ y :: L by simp)) with k | k
          · exact k.symm
          · have := g1 x h
            rw [h1 y k] at this
            cases this
      subst e
      rw [ih ((List.perm_cons x).1 hp) h2 g2]
theorem srti_pairwise {up : Bool} {l : List Ord} (h : SrtI up l 0 l.length) : l.Pairwise fun a b => ahead up b a = false := by
  rw [List.pairwise_iff_getElem]
  intro i j hi hj hij
  have := h i j (Nat.zero_le _) hij hj
  simpa [gO, List.getD, hi, hj] using this
end Go.Proofs.YteabcpmpcbjicaaGreat

namespace Go.Proofs.YteabcpmpcbjicaaGreat
set_option linter.unusedVariables false
open Go Go.Proofs Go.RowKit

theorem rotA_id (a p : Nat) : rot a (a + 1) (a + 1) p = p := by
  unfold rot
  repeat' split
  all_goals omega
theorem rotB_id (m p : Nat) : rot m m (m + 1) p = p := by
  unfold rot
  repeat' split
  all_goals omega
theorem rotA_step (a k p : Nat) (h : a ≤ k) : rot a (a + 1) (k + 1 + 1) p = rot a (a + 1) (k + 1) (if p = k + 1 then k else if p = k then k + 1 else p) := by
  unfold rot
  repeat' split
  all_goals omega
theorem rotB_step (m k p : Nat) (h : k + 1 ≤ m) : rot k m (m + 1) p = rot (k + 1) m (m + 1) (if p = k then k + 1 else if p = k + 1 then k else p) := by
  unfold rot
  repeat' split
  all_goals omega
theorem Turn.start {f : Nat → Nat} (l : List Ord) (h : ∀ p, f p = p) : Turn f l l := ⟨List.Perm.refl _, fun p => by rw [h]⟩
theorem Turn.stepA {a k : Nat} {l d : List Ord} (t : Turn (rot a (a + 1) (k + 1)) l d) (ha : a ≤ k) (hk : k + 1 < l.length) : Turn (rot a (a + 1) (k + 1 + 1)) l (Go.Proofs.YteabcpmpcbjicaaGreat.sw Ord.zero d k (k + 1)) := by
  have hl := t.perm.length_eq
  refine ⟨(sw_perm Ord.zero (by omega) (by omega)).trans t.perm, fun p => ?_⟩
  rw [swO d (by omega) (by omega), rotA_step a k p ha]
  repeat' split
  all_goals exact t.pt _
theorem Turn.stepB {m k : Nat} {l d : List Ord} (t : Turn (rot (k + 1) m (m + 1)) l d) (hk : k + 1 ≤ m) (hm : m < l.length) : Turn (rot k m (m + 1)) l (Go.Proofs.YteabcpmpcbjicaaGreat.sw Ord.zero d (k + 1) k) := by
  have hl := t.perm.length_eq
  refine ⟨(sw_perm Ord.zero (by omega) (by omega)).trans t.perm, fun p => ?_⟩
  rw [swO d (by omega) (by omega), rotB_step m k p hk]
  repeat' split
  all_goals exact t.pt _
theorem mergeA {up : Bool} {l l' : List Ord} {a b i : Nat} (h2 : SrtI up l (a + 1) b) (t : Turn (rot a (a + 1) i) l l') (h3 : a + 1 ≤ i) (h4 : i ≤ b) (hl : a + 1 < i → ahead up (gO l (i - 1)) (gO l a) = true) (hr : i < b → ahead up (gO l i) (gO l a) = false) : SrtI up l' a b := by
  obtain ⟨k1, k2, k3, k4, k5⟩ := merge_halves (mid := i - 1) (SrtI.one up l (a := a) (b := a + 1) (Nat.le_refl _)) h2 t (Nat.le_refl _) (by omega) h3 h4 (by omega) (fun h => by omega) (fun _ h => hl h)
  refine SrtI.join k2 (SrtI.join k3 k4 fun p q p1 p2 q1 q2 => ?_) k5
  rw [t.pt q, t.pt p, show rot a (a + 1) i q = q by unfold rot; rw [if_neg (by omega), if_neg (by omega)], show rot a (a + 1) i p = a by unfold rot; rw [if_neg (by omega), if_pos (by omega)]; omega]
  have := h2.at (i := i) (j := q) h3 q1 q2
  exact (ahead_swo up).ntr _ _ _ this (hr (by omega))
theorem mergeB {up : Bool} {l l' : List Ord} {a m i : Nat} (h1 : SrtI up l a m) (t : Turn (rot i m (m + 1)) l l') (h3 : a ≤ i) (h4 : i ≤ m) (hl : a < i → ahead up (gO l m) (gO l (i - 1)) = false) (hr : i < m → ahead up (gO l m) (gO l i) = true) : SrtI up l' a (m + 1) := by
  obtain ⟨k1, k2, k3, k4, k5⟩ := merge_halves (mid := i + 1) h1 (SrtI.one up l (a := m) (b := m + 1) (Nat.le_refl _)) t h3 h4 (by omega) (Nat.le_refl _) (by omega) (fun _ h => by omega) (fun h _ => by simpa using hr h)
  refine SrtI.join (SrtI.join k1 k2 fun p q p1 p2 q1 q2 => ?_) (by simpa using k3) (fun p q p1 p2 q1 q2 => k5 p q p1 p2 q1 q2)
  rw [t.pt q, t.pt p, show rot i m (m + 1) p = p by unfold rot; rw [if_neg (by omega), if_neg (by omega)], show rot i m (m + 1) q = m by unfold rot; rw [if_pos (by omega)]; omega]
  have := h1.at (i := p) (j := i - 1) p1 (by omega) (by omega)
  exact (ahead_swo up).ntr _ _ _ (hl (by omega)) this
/-- What a search by halves has found: i of lo .. hi. -/
structure Srch (u v i j : Nat) (f : Nat → Bool) : Prop where
  lo : u ≤ i
  mid : i ≤ j
  hi : j ≤ v
  left : u < i → f (i - 1) = true
  right : j < v → f j = false
theorem Srch.start {lo hi : Nat} {f : Nat → Bool} (h : lo ≤ hi) : Srch lo hi lo hi f := ⟨Nat.le_refl _, h, Nat.le_refl _, fun h => by omega, fun h => by omega⟩
theorem Srch.up {lo hi i j h : Nat} {f : Nat → Bool} (s : Srch lo hi i j f) (h1 : i ≤ h) (h2 : h < j) (e : f h = true) : Srch lo hi (h + 1) j f := ⟨by have := s.lo; omega, by omega, s.hi, fun _ => e, s.right⟩
theorem Srch.down {lo hi i j h : Nat} {f : Nat → Bool} (s : Srch lo hi i j f) (h1 : i ≤ h) (h2 : h < j) (e : f h = false) : Srch lo hi i h f := ⟨s.lo, h1, by have := s.hi; omega, s.left, fun _ => e⟩

/-- The general case of symMerge, the search over: what is left to be done. -/
theorem mergeC {up : Bool} {l l' : List Ord} {a m b s mid s0 r0 : Nat} (h1 : SrtI up l a m) (h2 : SrtI up l m b) (ham : a < m) (hmb : m < b) (hmid : mid = (a + b) / 2)
    (hs0 : (mid < m ∧ s0 = mid + m - b ∧ r0 = mid) ∨ (m ≤ mid ∧ s0 = a ∧ r0 = m)) (hf : Srch s0 r0 s s fun c => !ahead up (gO l (mid + m - 1 - c)) (gO l c)) (t : Turn (rot s m (mid + m - s)) l l') :
    SrtI up l' a s ∧ SrtI up l' s mid ∧ SrtI up l' mid (mid + m - s) ∧ SrtI up l' (mid + m - s) b ∧ ∀ p q, a ≤ p → p < mid → mid ≤ q → q < b → ahead up (gO l' q) (gO l' p) = false := by
  have g1 := hf.lo
  have g2 := hf.hi
  refine merge_halves h1 h2 t (by omega) (by omega) (by omega) (by omega) (by omega) (fun c1 c2 => ?_) (fun c1 c2 => ?_)
  · have := hf.left (by omega)
    rw [show mid + m - 1 - (s - 1) = mid + m - s by omega] at this
    simpa using this
  · have := hf.right (by omega)
    rw [show mid + m - 1 - s = mid + m - s - 1 by omega] at this
    simpa using this
theorem merge_bounds {a m b s mid s0 r0 : Nat} (ham : a < m) (hmb : m < b) (hmid : mid = (a + b) / 2) (hs0 : (mid < m ∧ s0 = mid + m - b ∧ r0 = mid) ∨ (m ≤ mid ∧ s0 = a ∧ r0 = m)) (h1 : s0 ≤ s) (h2 : s ≤ r0) :
    a ≤ s ∧ s ≤ m ∧ s ≤ mid ∧ m ≤ mid + m - s ∧ mid + m - s ≤ b ∧ mid ≤ mid + m - s ∧ a < mid ∧ mid < b := by omega
/-- Behind the two halves. -/
theorem merge_end {up : Bool} {l l1 l2 : List Ord} {a b mid : Nat} (ha : a ≤ mid) (hb : mid ≤ b) (hx : ∀ p q, a ≤ p → p < mid → mid ≤ q → q < b → ahead up (gO l q) (gO l p) = false)
    (m1 : Mix l l1 a mid) (s1 : SrtI up l1 a mid) (m2 : Mix l1 l2 mid b) (s2 : SrtI up l2 mid b) : Mix l l2 a b ∧ SrtI up l2 a b := by
  refine ⟨(m1.wide (Nat.le_refl _) hb).trans (m2.wide ha (Nat.le_refl _)), SrtI.join (s1.keep m2 (.inl (Nat.le_refl _))) s2 fun p q p1 p2 q1 q2 => ?_⟩
  obtain ⟨q', u1, u2, e⟩ := m2.within q q1 q2
  obtain ⟨p', v1, v2, f⟩ := m1.within p p1 p2
  rw [e, m2.out p (by omega), f, m1.out q' (by omega)]
  exact hx p' q' v1 v2 u1 u2
end Go.Proofs.YteabcpmpcbjicaaGreat

namespace Go.Proofs.YteabcpmpcbjicaaGreat
set_option linter.unusedVariables false
open Go Go.Proofs Go.RowKit

/-- Sorted in blocks of bs. -/
def AllB (up : Bool) (n bs : Nat) (l : List Ord) : Prop := ∀ k, SrtI up l (k * bs) (min (k * bs + bs) n)
/-- The first q blocks of bs are sorted. -/
structure InsB (up : Bool) (bs q a : Nat) (l : List Ord) : Prop where
  at' : a = q * bs
  done : ∀ k, k < q → SrtI up l (k * bs) (k * bs + bs)
theorem InsB.start (up : Bool) (bs : Nat) (l : List Ord) : InsB up bs 0 0 l := ⟨by simp, fun k h => by omega⟩
theorem blk_le {k q bs : Nat} (h : k < q) : k * bs + bs ≤ q * bs := by
  have : (k + 1) * bs ≤ q * bs := Nat.mul_le_mul_right bs h
  rwa [Nat.succ_mul] at this
theorem InsB.step {up : Bool} {bs q a : Nat} {l l' : List Ord} (h : InsB up bs q a l) (m : Mix l l' a (a + bs)) (s : SrtI up l' a (a + bs)) : InsB up bs (q + 1) (a + bs) l' := by
  have e := h.at'
  refine ⟨by rw [Nat.succ_mul, ← e], fun k hk => ?_⟩
  by_cases c : k = q
  · subst c; rw [← e]; exact s
  · have := blk_le (bs := bs) (show k < q by omega)
    exact (h.done k (by omega)).keep m (.inl (by omega))
theorem InsB.last {up : Bool} {bs q a n : Nat} {l l' : List Ord} (h : InsB up bs q a l) (ha : a ≤ n) (hb : n < a + bs) (m : Mix l l' a n) (s : SrtI up l' a n) : AllB up n bs l' := by
  have e := h.at'
  intro k
  by_cases c : k < q
  · have := blk_le (bs := bs) c
    rw [Nat.min_eq_left (by omega)]
    exact (h.done k c).keep m (.inl (by omega))
  · by_cases d : k = q
    · subst d; rw [← e, Nat.min_eq_right (by omega)]; exact s
    · have := blk_le (bs := bs) (show q < k by omega)
      exact SrtI.one up l' (by omega)
/-- The first q blocks of 2 bs are sorted, the rest in blocks of bs. -/
structure MrgB (up : Bool) (n bs q a : Nat) (l : List Ord) : Prop where
  at' : a = q * (2 * bs)
  done : ∀ k, k < q → SrtI up l (k * (2 * bs)) (k * (2 * bs) + 2 * bs)
  rest : ∀ k, 2 * q ≤ k → SrtI up l (k * bs) (min (k * bs + bs) n)
theorem MrgB.start {up : Bool} {n bs : Nat} {l : List Ord} (h : AllB up n bs l) : MrgB up n bs 0 0 l := ⟨by simp, fun k h => by omega, fun k _ => h k⟩
theorem MrgB.pos {up : Bool} {n bs q a : Nat} {l : List Ord} (h : MrgB up n bs q a l) : 2 * q * bs = a ∧ (2 * q + 1) * bs = a + bs := by
  have e : 2 * q * bs = a := by rw [h.at', Nat.mul_comm 2 q, Nat.mul_assoc]
  exact ⟨e, by rw [Nat.succ_mul, e]⟩
theorem MrgB.halves {up : Bool} {n bs q a : Nat} {l : List Ord} (h : MrgB up n bs q a l) : SrtI up l a (min (a + bs) n) ∧ SrtI up l (a + bs) (min (a + bs + bs) n) := by
  obtain ⟨e1, e2⟩ := h.pos
  have h1 := h.rest (2 * q) (Nat.le_refl _)
  have h2 := h.rest (2 * q + 1) (by omega)
  rw [e1] at h1
  rw [e2] at h2
  exact ⟨h1, h2⟩
theorem MrgB.step {up : Bool} {n bs q a : Nat} {l l' : List Ord} (h : MrgB up n bs q a l) (m : Mix l l' a (a + 2 * bs)) (s : SrtI up l' a (a + 2 * bs)) : MrgB up n bs (q + 1) (a + 2 * bs) l' := by
  have e := h.at'
  obtain ⟨e1, e2⟩ := h.pos
  refine ⟨by rw [Nat.succ_mul q (2 * bs), ← e], fun k hk => ?_, fun k hk => ?_⟩
  · by_cases c : k = q
    · subst c; rw [← e]; exact s
    · have := blk_le (bs := 2 * bs) (show k < q by omega)
      exact (h.done k (by omega)).keep m (.inl (by omega))
  · have := blk_le (bs := bs) (show 2 * q + 1 < k by omega)
    exact (h.rest k (by omega)).keep m (.inr (by omega))
theorem MrgB.last {up : Bool} {n bs q a : Nat} {l l' : List Ord} (h : MrgB up n bs q a l) (ha : a ≤ n) (hb : n < a + 2 * bs) (m : Mix l l' a n) (s : SrtI up l' a n) : AllB up n (2 * bs) l' := by
  have e := h.at'
  intro k
  by_cases c : k < q
  · have := blk_le (bs := 2 * bs) c
    rw [Nat.min_eq_left (by omega)]
    exact (h.done k c).keep m (.inl (by omega))
  · by_cases d : k = q
    · subst d; rw [← e, Nat.min_eq_right (by omega)]; exact s
    · have := blk_le (bs := 2 * bs) (show q < k by omega)
      exact SrtI.one up l' (by omega)
theorem AllB.done {up : Bool} {n bs : Nat} {l : List Ord} (h : AllB up n bs l) (hb : n ≤ bs) : SrtI up l 0 n := by
  have := h 0
  simp only [Nat.zero_mul, Nat.zero_add] at this
  rwa [Nat.min_eq_right hb] at this
end Go.Proofs.YteabcpmpcbjicaaGreat
