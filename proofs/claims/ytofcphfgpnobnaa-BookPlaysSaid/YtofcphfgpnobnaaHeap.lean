import Derived.WalkKit
namespace Go.Proofs.Ytofcphfgpnobnaa
set_option linter.unusedVariables false

/-! A heap in a list: plain. -/
section
variable {α : Type} (d : α) (lt : α → α → Bool)

/-- An order: strict, and what is not ahead of what is not ahead is not ahead. -/
structure Swo : Prop where
  irr : ∀ a, lt a a = false
  tr : ∀ a b c, lt a b = true → lt b c = true → lt a c = true
  ntr : ∀ a b c, lt a b = false → lt b c = false → lt a c = false
variable {lt}
theorem Swo.asy (h : Swo lt) {a b : α} (g : lt a b = true) : lt b a = false := by
  cases e : lt b a
  · rfl
  · have := h.tr _ _ _ g e; rw [h.irr] at this; cases this
variable (lt)

def sw (l : List α) (i j : Nat) : List α := (l.set i (l.getD j d)).set j (l.getD i d)
theorem sw_len (l : List α) (i j : Nat) : (sw d l i j).length = l.length := by simp [sw]
theorem sw_get {l : List α} {i j : Nat} (hi : i < l.length) (hj : j < l.length) (k : Nat) : (sw d l i j).getD k d = if k = j then l.getD i d else if k = i then l.getD j d else l.getD k d := by
  unfold sw
  simp only [List.getD, List.getElem?_set, List.length_set]
  by_cases h1 : k = j
  · subst h1; simp [hj]
  · rw [if_neg (Ne.symm h1), if_neg h1]
    by_cases h2 : k = i
    · subst h2; simp [hi]
    · rw [if_neg (Ne.symm h2), if_neg h2]
theorem set_perm (l : List α) (i : Nat) (x : α) (hi : i < l.length) : (x :: l).Perm (l.getD i d :: l.set i x) := by
  induction l generalizing i with
  | nil => simp at hi
  | cons y l ih =>
    cases i with
    | zero => simp [List.getD]; exact List.Perm.swap _ _ _
    | succ i =>
      have hi' : i < l.length := by simpa using hi
      have := ih i hi'
      simp only [List.set_cons_succ, List.getD_cons_succ]
      exact (List.Perm.swap _ _ _).trans ((List.Perm.cons y this).trans (List.Perm.swap _ _ _))
theorem sw_perm {l : List α} {i j : Nat} (hi : i < l.length) (hj : j < l.length) : (sw d l i j).Perm l := by
  have h1 := set_perm d l i (l.getD j d) hi
  have hj' : j < (l.set i (l.getD j d)).length := by simpa using hj
  have h2 := set_perm d (l.set i (l.getD j d)) j (l.getD i d) hj'
  have e : (l.set i (l.getD j d)).getD j d = l.getD j d := by
    simp only [List.getD, List.getElem?_set]
    by_cases h : i = j
    · subst h; simp [hi]
    · rw [if_neg h]
  rw [e] at h2
  have h3 := h1.trans h2
  exact (List.perm_cons _).1 h3.symm

def par (k : Nat) : Nat := (k - 1) / 2
/-- The one at k is not ahead of its parent. -/
def okAt (l : List α) (k : Nat) : Prop := lt (l.getD k d) (l.getD (par k) d) = false
/-- The first n are a heap. -/
def Hp (n : Nat) (l : List α) : Prop := ∀ k, 0 < k → k < n → okAt d lt l k
/-- .. but for the one at j and its parent. -/
def UpI (n : Nat) (l : List α) (j : Nat) : Prop :=
  (∀ k, 0 < k → k < n → k ≠ j → okAt d lt l k) ∧ (0 < j → ∀ k, 0 < k → k < n → par k = j → lt (l.getD k d) (l.getD (par j) d) = false)
theorem UpI.done {n : Nat} {l : List α} {j : Nat} (h : UpI d lt n l j) (hj : j = 0 ∨ okAt d lt l j) : Hp d lt n l := by
  intro k h0 hk
  by_cases e : k = j
  · subst e
    rcases hj with h1 | h1
    · omega
    · exact h1
  · exact h.1 k h0 hk e
variable {d lt}
theorem UpI.step (o : Swo lt) {n : Nat} {l : List α} {j : Nat} (h : UpI d lt n l j) (hn : n ≤ l.length) (hj : j < n) (h0 : 0 < j) (hl : lt (l.getD j d) (l.getD (par j) d) = true) : UpI d lt n (sw d l (par j) j) (par j) := by
  have hp : par j < j := by unfold par; omega
  have g := sw_get d (l := l) (i := par j) (j := j) (by omega) (by omega)
  refine ⟨fun k k0 kn kp => ?_, fun p0 k k0 kn kp => ?_⟩
  · unfold okAt
    rw [g, g]
    by_cases e : k = j
    · subst e
      rw [if_pos rfl, if_neg (by omega), if_pos rfl]
      exact o.asy hl
    · rw [if_neg e, if_neg kp]
      by_cases e2 : par k = j
      · rw [if_pos e2]; exact h.2 h0 k k0 kn e2
      · rw [if_neg e2]
        by_cases e3 : par k = par j
        · rw [if_pos e3]
          have hk := h.1 k k0 kn e
          unfold okAt at hk
          rw [e3] at hk
          cases e4 : lt (l.getD k d) (l.getD j d)
          · rfl
          · have := o.tr _ _ _ e4 hl; rw [hk] at this; cases this
        · rw [if_neg e3]; exact h.1 k k0 kn e
  · have hpp : par (par j) < par j := by unfold par at p0 ⊢; omega
    have hpj := h.1 (par j) p0 (by omega) (by omega)
    rw [g, g, if_neg (show par (par j) ≠ j by omega), if_neg (show par (par j) ≠ par j by omega)]
    by_cases e : k = j
    · subst e; rw [if_pos rfl]; exact hpj
    · rw [if_neg e, if_neg (by unfold par at kp; intro h; subst h; unfold par at *; omega)]
      have hk := h.1 k k0 kn e
      unfold okAt at hk
      rw [kp] at hk
      exact o.ntr _ _ _ hk hpj

/-- On the way down from i0: all is right but for the one at i (and, as long as nothing moved, for i and its parent). -/
structure DnI (d : α) (lt : α → α → Bool) (n : Nat) (l : List α) (i0 i : Nat) : Prop where
  le : i0 ≤ i
  a : ∀ k, 0 < k → k < n → par k ≠ i → k ≠ i → okAt d lt l k
  b : i0 < i → okAt d lt l i
  c : 0 < i → ∀ k, 0 < k → k < n → par k = i → lt (l.getD k d) (l.getD (par i) d) = false
theorem DnI.step (o : Swo lt) {n : Nat} {l : List α} {i0 i j : Nat} (h : DnI d lt n l i0 i) (hn : n ≤ l.length) (hj : j < n) (hij : par j = i) (h0 : 0 < j) (hl : lt (l.getD j d) (l.getD i d) = true)
    (hs : ∀ k, 0 < k → k < n → par k = i → lt (l.getD k d) (l.getD j d) = false) : DnI d lt n (sw d l i j) i0 j := by
  have hlt : i < j := by unfold par at hij; omega
  have g := sw_get d (l := l) (i := i) (j := j) (by omega) (by omega)
  refine ⟨by have := h.le; omega, fun k k0 kn kp kj => ?_, fun _ => ?_, fun j0 k k0 kn kp => ?_⟩
  · unfold okAt
    rw [g, g, if_neg kj, if_neg kp]
    by_cases e : k = i
    · subst e
      rw [if_pos rfl]
      have : par k ≠ k := by unfold par; omega
      rw [if_neg this]
      exact h.c k0 j h0 hj hij
    · rw [if_neg e]
      by_cases e2 : par k = i
      · rw [if_pos e2]; exact hs k k0 kn e2
      · rw [if_neg e2]; exact h.a k k0 kn e2 e
  · unfold okAt
    rw [g, g, hij, if_pos rfl, if_neg (by omega), if_pos rfl]
    exact o.asy hl
  · have hkj : j < k := by unfold par at kp; omega
    rw [g, g, if_neg (by omega), if_neg (by omega), hij, if_neg (by omega), if_pos rfl]
    have := h.a k k0 kn (by omega) (by omega)
    unfold okAt at this
    rw [kp] at this
    exact this
/-- Nothing more moves: what is left is at most i0 and its parent. -/
theorem DnI.stop {n : Nat} {l : List α} {i0 i : Nat} (h : DnI d lt n l i0 i) (hs : ∀ k, 0 < k → k < n → par k = i → lt (l.getD k d) (l.getD i d) = false) : (i0 < i → Hp d lt n l) ∧ (i = i0 → UpI d lt n l i0) := by
  refine ⟨fun hlt k k0 kn => ?_, fun e => ⟨fun k k0 kn ki => ?_, fun i0' k k0 kn kp => ?_⟩⟩
  · by_cases e : k = i
    · subst e; exact h.b hlt
    · by_cases e2 : par k = i
      · unfold okAt; rw [e2]; exact hs k k0 kn e2
      · exact h.a k k0 kn e2 e
  · subst e
    by_cases e2 : par k = i
    · unfold okAt; rw [e2]; exact hs k k0 kn e2
    · exact h.a k k0 kn e2 ki
  · subst e; exact h.c i0' k k0 kn kp
/-- The first of a heap: nobody is ahead of it. -/
theorem Hp.min (o : Swo lt) {n : Nat} {l : List α} (h : Hp d lt n l) : ∀ k, k < n → lt (l.getD k d) (l.getD 0 d) = false := by
  intro k
  induction k using Nat.strongRecOn with
  | ind k ih =>
    intro hk
    by_cases e : k = 0
    · subst e; exact o.irr _
    · have hp : par k < k := by unfold par; omega
      exact o.ntr _ _ _ (h k (by omega) hk) (ih (par k) hp (by omega))
/-- One put at the end. -/
theorem Hp.push {l : List α} (h : Hp d lt l.length l) (x : α) : UpI d lt (l.length + 1) (l ++ [x]) l.length := by
  have g : ∀ k, k < l.length → (l ++ [x]).getD k d = l.getD k d := fun k hk => by simp [List.getD, List.getElem?_append_left hk]
  refine ⟨fun k k0 kn kj => ?_, fun _ k k0 kn kp => by unfold par at kp; omega⟩
  unfold okAt
  have hp : par k < k := by unfold par; omega
  rw [g k (by omega), g (par k) (by omega)]
  exact h k k0 (by omega)
/-- The one at i changes its place with the last one: on the way down from i. -/
theorem Hp.out (o : Swo lt) {n : Nat} {l : List α} (hl : l.length = n + 1) (h : Hp d lt (n + 1) l) {i : Nat} (hi : i < n) : DnI d lt n (sw d l i n) i i := by
  have g := sw_get d (l := l) (i := i) (j := n) (by omega) (by omega)
  refine ⟨Nat.le_refl _, fun k k0 kn kp ki => ?_, fun h => by omega, fun i0 k k0 kn kp => ?_⟩
  · unfold okAt
    have hp : par k < k := by unfold par; omega
    rw [g, g, if_neg (by omega), if_neg ki, if_neg (by omega), if_neg kp]
    exact h k k0 (by omega)
  · have hp : par i < i := by unfold par; omega
    have hk : i < k := by unfold par at kp; omega
    rw [g, g, if_neg (by omega), if_neg (by omega), if_neg (by omega), if_neg (by omega)]
    have h1 := h k k0 (by omega)
    have h2 := h i i0 (by omega)
    unfold okAt at h1 h2
    rw [kp] at h1
    exact o.ntr _ _ _ h1 h2
/-- A heap's beginning is one. -/
theorem Hp.take {n m : Nat} {l : List α} (h : Hp d lt n l) (hm : m ≤ n) (hn : n ≤ l.length) : Hp d lt m (l.take m) := by
  intro k k0 kn
  have g : ∀ k, k < m → (l.take m).getD k d = l.getD k d := fun k hk => by simp [List.getD, hk]
  have hp : par k < k := by unfold par; omega
  unfold okAt
  rw [g k kn, g (par k) (by omega)]
  exact h k k0 (by omega)
theorem Hp.mono {n m : Nat} {l : List α} (h : Hp d lt n l) (hm : m ≤ n) : Hp d lt m l := fun k k0 kn => h k k0 (by omega)
end
end Go.Proofs.Ytofcphfgpnobnaa
