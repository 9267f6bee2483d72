
import Derived.Test.YteabcpmpcbjicaaEx
namespace Go.Proofs.Yteabcpmpcbjicaa
set_option linter.unusedVariables false
open Go Go.Proofs Go.RowKit

/-! An exchange's orders: plain. -/
structure EOk (n : Nat) (L M : List Ord) (k : Nat) : Prop where
  fr : Fresh k L M
  oin : ∀ x ∈ L ++ M, OIn x ∧ 0 < x.qty ∧ aHas n x.client = true
  fl : ∀ x ∈ L, x.buy = true
  fm : ∀ x ∈ M, x.buy = false
  len : L.length + M.length ≤ k
theorem EOk.start (n : Nat) : EOk n [] [] 0 := ⟨Fresh.start, by simp, by simp, by simp, by simp⟩
theorem OIn.lt {o : Ord} (h : OIn o) (q : Int) (hq : 0 ≤ q ∧ q ≤ o.qty) : OIn { o with qty := q } := ⟨h.p, by have := h.q; exact ⟨hq.1, by show q ≤ _; omega⟩⟩
/-- What an order's match leaves. -/
theorem EOk.met {n : Nat} {L M : List Ord} {k : Nat} (h : EOk n L M k) (o : Ord) : EOk n (mL o L M) (mM o L M) k := by
  have hl := h.len
  have st : ∀ (Q : List Ord), (∀ x ∈ Q, x ∈ L ++ M) → ∀ y, y ∈ (mch o o.qty Q).2.2 → (OIn y ∧ 0 < y.qty ∧ aHas n y.client = true) ∧ ∃ x ∈ Q, y.buy = x.buy := fun Q hQ y hy => by
    obtain ⟨x, hx, e1, e2, e3, e4, e5, e6⟩ := @mch_stand o Q o.qty y hy
    obtain ⟨o1, o2, o3⟩ := h.oin x (hQ x hx)
    have g1 := e6 o2
    have g2 : OIn y := ⟨by rw [e2]; exact o1.p, by have := o1.q; omega⟩
    have g3 : aHas n y.client = true := by rw [e3]; exact o3
    exact ⟨⟨g2, g1, g3⟩, x, hx, e4⟩
  have ln := fun Q : List Ord => (mch_len o Q o.qty).2
  refine ⟨h.fr.mch o, ?_, ?_, ?_, ?_⟩
  · intro x hx
    unfold mL mM mres at hx
    cases hb : o.buy
    · simp only [hb, Bool.false_eq_true, if_false] at hx
      rcases List.mem_append.1 hx with g | g
      · exact (st L (by simp +contextual) x g).1
      · exact h.oin x (by simp [g])
    · simp only [hb, if_true] at hx
      rcases List.mem_append.1 hx with g | g
      · exact h.oin x (by simp [g])
      · exact (st M (by simp +contextual) x g).1
  · intro x hx
    unfold mL mres at hx
    cases hb : o.buy
    · simp only [hb, Bool.false_eq_true, if_false] at hx
      obtain ⟨_, y, hy, e⟩ := st L (by simp +contextual) x hx
      rw [e]; exact h.fl y hy
    · simp only [hb, if_true] at hx; exact h.fl x hx
  · intro x hx
    unfold mM mres at hx
    cases hb : o.buy
    · simp only [hb, Bool.false_eq_true, if_false] at hx; exact h.fm x hx
    · simp only [hb, if_true] at hx
      obtain ⟨_, y, hy, e⟩ := st M (by simp +contextual) x hx
      rw [e]; exact h.fm y hy
  · have h1 := ln L
    have h2 := ln M
    unfold mL mM mres
    cases o.buy <;> simp <;> omega
theorem EOk.mono {n : Nat} {L M : List Ord} {k j : Nat} (h : EOk n L M k) (hj : k ≤ j) : EOk n L M j := ⟨h.fr.mono hj, h.oin, h.fl, h.fm, by have := h.len; omega⟩
theorem EOk.rest {n : Nat} {L M : List Ord} {k : Nat} (h : EOk n L M k) {o : Ord} (ho : o.id = (k : Int) + 1) (hi : OIn o) (hc : aHas n o.client = true) : EOk n (restL o L) (restM o M) (k + 1) := by
  have hl := h.len
  refine ⟨h.fr.rest ho, rest_all' h.oin (fun hne => ⟨hi, by have := hi.q; omega, hc⟩), fun x hx => ?_, fun x hx => ?_, by rw [rest_len]; split <;> omega⟩
  · unfold restL at hx
    split at hx
    · rename_i hc
      rcases List.mem_cons.1 ((ins_perm _ _ _).mem_iff.1 hx) with e | e
      · subst e; exact hc.2
      · exact h.fl x e
    · exact h.fl x hx
  · unfold restM at hx
    split at hx
    · rename_i hc
      rcases List.mem_cons.1 ((ins_perm _ _ _).mem_iff.1 hx) with e | e
      · subst e; exact hc.2
      · exact h.fm x e
    · exact h.fm x hx
theorem EOk.remove {n : Nat} {L M : List Ord} {k : Nat} (h : EOk n L M k) (i : Int) : EOk n (sans i L) (remM i L M) k := by
  have s1 : ∀ x ∈ sans i L, x ∈ L := fun x hx => (sans_sub i L).subset hx
  have s2 : ∀ x ∈ remM i L M, x ∈ M := fun x hx => by
    unfold remM at hx; split at hx
    · exact hx
    · exact (sans_sub i M).subset hx
  refine ⟨h.fr.remove i, fun x hx => ?_, fun x hx => h.fl x (s1 x hx), fun x hx => h.fm x (s2 x hx), ?_⟩
  · rcases List.mem_append.1 hx with g | g
    · exact h.oin x (by simp [s1 x g])
    · exact h.oin x (by simp [s2 x g])
  · have h1 := (sans_sub i L).length_le
    have h2 : (remM i L M).length ≤ M.length := by
      unfold remM; split
      · omega
      · exact (sans_sub i M).length_le
    have := h.len; omega
/-- All trades of an order may be. -/
theorem EOk.trades {n : Nat} {L M : List Ord} {k : Nat} (h : EOk n L M k) {o : Ord} (ho : OIn o) : ∀ t ∈ (mres o L M).1, TIn o t := by
  intro t ht
  have hq : ∀ Q : List Ord, (∀ x ∈ Q, x ∈ L ++ M) → t ∈ (mch o o.qty Q).1 → TIn o t := fun Q hQ ht => by
    obtain ⟨x, hx, m, h1, h2, rfl, h4⟩ := mch_trades (fun x hx => (h.oin x (hQ x hx)).2.1) _ t ht
    obtain ⟨o1, o2, o3⟩ := h.oin x (hQ x hx)
    have e1 : (trd o x m).price = x.price := by unfold trd; split <;> rfl
    have e2 : (trd o x m).qty = m := by unfold trd; split <;> rfl
    refine ⟨by rw [e1]; exact o1.p, by rw [e2]; have := o1.q; omega, fun hb => ?_⟩
    rw [e1]
    unfold meet at h4
    rw [if_pos hb] at h4
    exact of_decide_eq_true h4
  unfold mres at ht
  split at ht
  · exact hq M (by simp +contextual) ht
  · exact hq L (by simp +contextual) ht
theorem mres_left {n : Nat} {L M : List Ord} {k : Nat} (h : EOk n L M k) {o : Ord} (ho : OIn o) : 0 ≤ (mres o L M).2.1 ∧ (mres o L M).2.1 ≤ o.qty := by
  unfold mres
  refine mch_left o _ (fun x hx => ?_) o.qty ho.q.1
  split at hx
  · have := (h.oin x (by simp [hx])).2.1; omega
  · have := (h.oin x (by simp [hx])).2.1; omega
theorem mres_len (o : Ord) (L M : List Ord) : (mres o L M).1.length ≤ L.length + M.length := by
  unfold mres
  have := (mch_len o (if o.buy = true then M else L) o.qty).1
  split at this <;> split <;> first | omega | contradiction

/-- What an order is refused for: 0, it is not. -/
def mtE (n : Nat) (xs : List Int) (c : Int) (b : Bool) (p q : Int) : Int :=
  if aHas n c = true then (if (wIn p && wIn q) = true then (if aTakeE n xs c (lockA ⟨0, c, b, p, q⟩) (lockN ⟨0, c, b, p, q⟩) = 0 then 0 else 4) else 6) else 2
theorem wIn_o {p q : Int} (h : (wIn p && wIn q) = true) (i c : Int) (b : Bool) : OIn ⟨i, c, b, p, q⟩ ∧ 1 ≤ p ∧ 1 ≤ q := by
  unfold wIn at h
  simp at h
  exact ⟨⟨by show 0 ≤ p ∧ p ≤ _; omega, by show 0 ≤ q ∧ q ≤ _; omega⟩, by omega, by omega⟩

/-- An exchange in memory, made since the world w. -/
structure Exc (w wr : World) (x ab s kb n : Nat) (F : List Nat) (xs : List Int) (L M : List Ord) (k : Nat) : Prop where
  e : Exb wr x ab kb (k : Int)
  a : Acc wr ab s n xs
  b : BkS w wr F kb L M
  ne : x ≠ s ∧ x ∉ F ∧ ab ∉ F ∧ s ∉ F ∧ x ≠ ab
  lo : w.heap.size ≤ x ∧ w.heap.size ≤ ab ∧ w.heap.size ≤ s
  ok : EOk n L M k
theorem Exc.to {w wr w' : World} {x ab s kb n : Nat} {F : List Nat} {xs : List Int} {L M : List Ord} {k : Nat} (h : Exc w wr x ab s kb n F xs L M k) (c : Chg [] wr w') : Exc w w' x ab s kb n F xs L M k :=
  ⟨h.e.chg c (by simp), h.a.chg c (by simp) (by simp), h.b.to c, h.ne, h.lo, h.ok⟩
theorem Exc.acct {w wr w' : World} {x ab s kb n : Nat} {F : List Nat} {xs ys : List Int} {L M : List Ord} {k : Nat} (h : Exc w wr x ab s kb n F xs L M k) (a : Acc w' ab s n ys) (c : Chg [s] wr w') : Exc w w' x ab s kb n F ys L M k :=
  ⟨h.e.chg c (by simp; exact h.ne.1), a, h.b.aside c h.ne.2.2.2.1 h.lo.2.2, h.ne, h.lo, h.ok⟩
theorem Exc.book {w wr w' : World} {x ab s kb n : Nat} {F F' : List Nat} {xs : List Int} {L M L' M' : List Ord} {k k' : Nat} (h : Exc w wr x ab s kb n F xs L M k) (hb : BkS w w' F' kb L' M') (c : Chg F wr w') (g : Grw wr.heap.size F F') (hk : k = k') (ok : EOk n L' M' k') : Exc w w' x ab s kb n F' xs L' M' k' := by
  subst hk
  obtain ⟨n1, n2, n3, n4, n5⟩ := h.ne
  have l1 := h.e.hd.lt
  obtain ⟨l2, l3⟩ := h.a.lt
  exact ⟨h.e.chg c n2, h.a.chg c n3 n4, hb, ⟨n1, g.not n2 l1, g.not n3 l2, g.not n4 l3, n5⟩, h.lo, ok⟩
theorem Exc.last {w wr : World} {x ab s kb n : Nat} {F : List Nat} {xs : List Int} {L M : List Ord} {k : Nat} (h : Exc w wr x ab s kb n F xs L M k) : Exc w (wr.setCell ⟨x, 2, none⟩ (.int .i64 ((k : Int) + 1))) x ab s kb n F xs L M (k + 1) := by
  obtain ⟨n1, n2, n3, n4, n5⟩ := h.ne
  have c : Chg [x] wr (wr.setCell ⟨x, 2, none⟩ (.int .i64 ((k : Int) + 1))) := (Chg.refl _ _).setCell _ _ (by simp)
  exact ⟨⟨by have := h.e.hd.set 2 (.int .i64 ((k : Int) + 1)); simpa using this⟩, h.a.chg c (by simp; omega) (by simp; omega), h.b.aside c n2 h.lo.1, h.ne, h.lo, h.ok.mono (Nat.le_succ k)⟩
theorem Exc.lt {w wr : World} {x ab s kb n : Nat} {F : List Nat} {xs : List Int} {L M : List Ord} {k : Nat} (h : Exc w wr x ab s kb n F xs L M k) : x < wr.heap.size ∧ ab < wr.heap.size ∧ s < wr.heap.size ∧ w.heap.size ≤ wr.heap.size ∧ ∀ z ∈ F, z < wr.heap.size := ⟨h.e.hd.lt, h.a.lt.1, h.a.lt.2, h.b.c.size, h.b.new⟩
theorem Exc.fresh {w wr w' : World} {x ab s kb n g : Nat} {F : List Nat} {xs : List Int} {L M : List Ord} {k : Nat} (h : Exc w wr x ab s kb n F xs L M k) (c : Chg [g] wr w') (hg : g ≠ x ∧ g ≠ ab ∧ g ≠ s ∧ g ∉ F) (hl : w.heap.size ≤ g) : Exc w w' x ab s kb n F xs L M k :=
  ⟨h.e.chg c (by simp; omega), h.a.chg c (by simp; omega) (by simp; omega), h.b.aside c hg.2.2.2 hl, h.ne, h.lo, h.ok⟩
theorem has_is {w : World} {b s n : Nat} {xs : List Int} (h : Acc w b s n xs) (c : Int) (r : Bool) (h1 : aHas n c = r) :
    Calls Try.prog 83 #[.pointer (some ⟨b, 0, none⟩), .int .i64 c] w fun e w' => e = .returned (.bool r) ∧ w = w' := by
  subst h1; exact has_any h c
theorem within_is (n : Int) (r : Bool) (w : World) (h1 : wIn n = r) : Calls Try.prog 116 #[.int .u64 n] w fun e w' => e = .returned (.bool r) ∧ w = w' := by
  subst h1; exact within_any n w
end Go.Proofs.Yteabcpmpcbjicaa
