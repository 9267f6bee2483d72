import Derived.Test.YtofcphfgpnobnaaOrd
namespace Go.Proofs.Ytofcphfgpnobnaa
set_option linter.unusedVariables false
open Go Go.Proofs Go.RowKit

/-! A queue, told as its orders in their order: plain. -/
def Srt (up : Bool) (L : List Ord) : Prop := L.Pairwise fun a b => ahead up a b = true
def Ids (L : List Ord) : Prop := (L.map Ord.id).Nodup
def ins (up : Bool) (o : Ord) : List Ord → List Ord
  | [] => [o]
  | y :: L => if ahead up o y = true then o :: y :: L else y :: ins up o L
def sans (k : Int) (L : List Ord) : List Ord := L.filter fun x => x.id != k
def cutQ (n : Int) : List Ord → List Ord
  | [] => []
  | x :: L => if n ≤ x.qty then { x with qty := x.qty - n } :: L else x :: L

theorem ins_perm (up : Bool) (o : Ord) (L : List Ord) : (ins up o L).Perm (o :: L) := by
  induction L with
  | nil => exact List.Perm.refl _
  | cons y L ih =>
    unfold ins; split
    · exact List.Perm.refl _
    · exact (List.Perm.cons y ih).trans (List.Perm.swap _ _ _)
theorem ahead_tr {up : Bool} {a b c : Ord} (h : ahead up a b = true) (g : ahead up b c = true) : ahead up a c = true := (ahead_swo up).tr _ _ _ h g
theorem ins_srt {up : Bool} {o : Ord} {L : List Ord} (h : Srt up L) (hn : ∀ x ∈ L, x.id ≠ o.id) : Srt up (ins up o L) := by
  induction L with
  | nil => exact List.pairwise_singleton _ _
  | cons y L ih =>
    obtain ⟨h1, h2⟩ := List.pairwise_cons.1 h
    unfold ins; split
    · rename_i g
      exact List.pairwise_cons.2 ⟨fun x hx => by
        rcases List.mem_cons.1 hx with h3 | h3
        · exact h3 ▸ g
        · exact ahead_tr g (h1 x h3), h⟩
    · rename_i g
      refine List.pairwise_cons.2 ⟨fun x hx => ?_, ih h2 (fun x hx => hn x (by simp [hx]))⟩
      rcases List.mem_cons.1 ((ins_perm up o L).mem_iff.1 hx) with h3 | h3
      · subst h3
        cases e : ahead up y x
        · exact absurd (ahead_eq e (by simpa using g)).2 (hn y (by simp))
        · rfl
      · exact h1 x h3
theorem ids_perm {L M : List Ord} (h : L.Perm M) (g : Ids L) : Ids M := (h.map _).nodup_iff.1 g
theorem ins_ids {up : Bool} {o : Ord} {L : List Ord} (h : Ids L) (hn : ∀ x ∈ L, x.id ≠ o.id) : Ids (ins up o L) := by
  refine ids_perm (ins_perm up o L).symm ?_
  unfold Ids
  rw [List.map_cons, List.nodup_cons]
  refine ⟨fun hm => ?_, h⟩
  obtain ⟨x, hx, e⟩ := List.mem_map.1 hm
  exact hn x hx e
theorem sans_sub (k : Int) (L : List Ord) : (sans k L).Sublist L := List.filter_sublist
theorem srt_sub {up : Bool} {L M : List Ord} (h : Srt up L) (s : M.Sublist L) : Srt up M := List.Pairwise.sublist s h
theorem ids_sub {L M : List Ord} (h : Ids L) (s : M.Sublist L) : Ids M := List.Pairwise.sublist (s.map _) h
/-- The one of a number taken away. -/
theorem sans_perm {x : Ord} {l L : List Ord} (h : (x :: l).Perm L) (g : Ids L) : l.Perm (sans x.id L) := by
  have g2 : Ids (x :: l) := ids_perm h.symm g
  unfold Ids at g2
  rw [List.map_cons, List.nodup_cons] at g2
  have h2 := h.filter (fun y => y.id != x.id)
  unfold sans
  refine List.Perm.trans (List.Perm.of_eq ?_) h2
  rw [List.filter_cons, if_neg (by simp)]
  symm
  rw [List.filter_eq_self]
  intro y hy
  simp only [bne_iff_ne]
  intro e
  exact g2.1 (List.mem_map.2 ⟨y, hy, e⟩)
theorem sans_none {k : Int} {L : List Ord} (h : ∀ x ∈ L, x.id ≠ k) : sans k L = L := by
  unfold sans
  rw [List.filter_eq_self]
  intro y hy
  simpa using h y hy
/-- The first of a heap is the first of all. -/
theorem heap_head {up : Bool} {l L : List Ord} {x : Ord} (hH : Hp Ord.zero (ahead up) l.length l) (hp : l.Perm (x :: L)) (hs : Srt up (x :: L)) : l.getD 0 Ord.zero = x := by
  have hl : 0 < l.length := by rw [hp.length_eq]; simp
  have hm : l.getD 0 Ord.zero ∈ x :: L := hp.mem_iff.1 (by simp [List.getD, hl])
  rcases List.mem_cons.1 hm with h | h
  · exact h
  · exfalso
    have h1 := (List.pairwise_cons.1 hs).1 _ h
    have hx : x ∈ l := hp.mem_iff.2 (by simp)
    obtain ⟨k, hk, e⟩ := List.getElem_of_mem hx
    have h2 := hH.min (ahead_swo up) k hk
    have e2 : l.getD k Ord.zero = x := by simp [List.getD, hk, e]
    rw [e2, h1] at h2
    cases h2
theorem ahead_qty (up : Bool) (a b : Ord) (n : Int) : ahead up { a with qty := n } b = ahead up a b := rfl
theorem ahead_qty' (up : Bool) (a b : Ord) (n : Int) : ahead up b { a with qty := n } = ahead up b a := rfl
/-- Another quantity of the first one. -/
theorem cut_srt {up : Bool} {x : Ord} {L : List Ord} (n : Int) (h : Srt up (x :: L)) : Srt up ({ x with qty := n } :: L) := by
  obtain ⟨h1, h2⟩ := List.pairwise_cons.1 h
  exact List.pairwise_cons.2 ⟨fun y hy => h1 y hy, h2⟩
theorem cutQ_cons (n : Int) (x : Ord) (L : List Ord) : cutQ n (x :: L) = if n ≤ x.qty then { x with qty := x.qty - n } :: L else x :: L := rfl
theorem cutQ_srt {up : Bool} {L : List Ord} (n : Int) (h : Srt up L) : Srt up (cutQ n L) := by
  cases L with
  | nil => exact h
  | cons x L => rw [cutQ_cons]; split; exact cut_srt _ h; exact h
theorem cutQ_ids {L : List Ord} (n : Int) (h : Ids L) : Ids (cutQ n L) := by
  cases L with
  | nil => exact h
  | cons x L => rw [cutQ_cons]; split; exact h; exact h
theorem set0_hp {up : Bool} {l : List Ord} (n : Int) (h : Hp Ord.zero (ahead up) l.length l) : Hp Ord.zero (ahead up) (l.set 0 { l.getD 0 Ord.zero with qty := n }).length (l.set 0 { l.getD 0 Ord.zero with qty := n }) := by
  intro k k0 kn
  have kn' : k < l.length := by simpa using kn
  have g : ∀ j, 0 < j → (l.set 0 { l.getD 0 Ord.zero with qty := n }).getD j Ord.zero = l.getD j Ord.zero := fun j hj => by
    simp only [List.getD]; rw [List.getElem?_set_ne (by omega)]
  unfold okAt
  rw [g k k0]
  by_cases e : par k = 0
  · have h1 := h k k0 kn'
    unfold okAt at h1
    rw [e] at h1 ⊢
    have e0 : (l.set 0 { l.getD 0 Ord.zero with qty := n }).getD 0 Ord.zero = { l.getD 0 Ord.zero with qty := n } := by
      simp only [List.getD]; rw [List.getElem?_set_self (by omega)]; rfl
    rw [e0]
    exact h1
  · rw [g (par k) (by omega)]
    exact h k k0 kn'
theorem set0_perm {l L : List Ord} {x : Ord} (y : Ord) (hp : l.Perm (x :: L)) (hx : l.getD 0 Ord.zero = x) : (l.set 0 y).Perm (y :: L) := by
  cases l with
  | nil => have := hp.length_eq; simp at this
  | cons a l =>
    have : a = x := hx
    subst this
    rw [List.set_cons_zero]
    exact List.Perm.cons _ ((List.perm_cons a).1 hp)
end Go.Proofs.Ytofcphfgpnobnaa
