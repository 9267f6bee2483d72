
import Derived.Test.YteabcpmpcbjicaaExS
import Derived.Test.YteabcpmpcbjicaaRbook
namespace Go.Proofs.Yteabcpmpcbjicaa
set_option linter.unusedVariables false
set_option linter.unusedSimpArgs false
open Go Go.Proofs Go.RowKit

/-- All four clients' sums are what they were. -/
structure Sok (xs : List Int) (L M : List Ord) : Prop where
  a : AOk 4 xs
  s0 : col4 0 xs + lks 0 (L ++ M) = 400
  s1 : col4 1 xs + lks 1 (L ++ M) = 400
theorem EOk.tcl {L M : List Ord} {k : Nat} (h : EOk 4 L M k) {o : Ord} (ho : aHas 4 o.client = true) : TCl (mres o L M).1 := by
  intro t ht
  have hq : ∀ Q : List Ord, (∀ x ∈ Q, x ∈ L ++ M) → t ∈ (mch o o.qty Q).1 → aHas 4 t.buyer = true ∧ aHas 4 t.seller = true := fun Q hQ ht => by
    obtain ⟨x, hx, m, h1, h2, rfl, h4⟩ := mch_trades (fun x hx => (h.oin x (hQ x hx)).2.1) _ t ht
    have := (h.oin x (hQ x hx)).2.2
    unfold trd
    split
    · exact ⟨ho, this⟩
    · exact ⟨this, ho⟩
  unfold mres at ht
  split at ht
  · exact hq M (by simp +contextual) ht
  · exact hq L (by simp +contextual) ht
theorem Sok.met {xs : List Int} {L M : List Ord} {k : Nat} (h : Sok xs L M) (ok : EOk 4 L M k) {o : Ord} (ho : OIn o) (hp : o.price ≤ 1000) (hc : aHas 4 o.client = true) (hE : aTakeE 4 xs o.client (lockA o) (lockN o) = 0) :
    AOk 4 ((mres o L M).1.foldl (payL 4 o) (aTake 4 xs o.client (lockA o) (lockN o))) ∧
    col4 0 ((mres o L M).1.foldl (payL 4 o) (aTake 4 xs o.client (lockA o) (lockN o))) + lks 0 (mL o L M ++ mM o L M) + (if o.buy = true then 0 else (mres o L M).2.1) = 400 ∧
    col4 1 ((mres o L M).1.foldl (payL 4 o) (aTake 4 xs o.client (lockA o) (lockN o))) + lks 1 (mL o L M ++ mM o L M) + (if o.buy = true then o.price * (mres o L M).2.1 else 0) = 400 := by
  have hl := h.a.len
  have lk := ho.lock
  have hTI := ok.trades ho
  have hTC := ok.tcl hc
  have hlf := mres_left ok ho
  have h0 := h.s0
  have h1 := h.s1
  have hA : aAsset (lockA o) = true := by unfold lockA; split <;> rfl
  have A1 := h.a.take o.client (lockA o) (v := lockN o) ⟨by omega, by omega⟩
  have t0 := col4_take (by omega) hc hA hE 0 rfl
  have t1 := col4_take (by omega) hc hA hE 1 rfl
  generalize aTake 4 xs o.client (lockA o) (lockN o) = ys at *
  rw [lks_append] at h0 h1 ⊢
  rw [lks_append]
  have ts : 0 ≤ tsum (mres o L M).1 := isum_nonneg _ fun x hx => by obtain ⟨y, hy, rfl⟩ := List.mem_map.1 hx; exact (hTI y hy).q.1
  have hoi : ∀ Q : List Ord, (∀ x ∈ Q, x ∈ L ++ M) → ∀ x ∈ Q, OIn x := fun Q hQ x hx => (ok.oin x (hQ x hx)).1
  have n0 := lks_nonneg (a := 0) (hoi L (by simp +contextual))
  have n1 := lks_nonneg (a := 0) (hoi M (by simp +contextual))
  have n2 := lks_nonneg (a := 1) (hoi L (by simp +contextual))
  have n3 := lks_nonneg (a := 1) (hoi M (by simp +contextual))
  have hq := ho.q
  have op := ho.p
  cases hb : o.buy
  · have e1 : mres o L M = mch o o.qty L := by unfold mres; rw [hb]; rfl
    have e2 : mL o L M = (mch o o.qty L).2.2 := by unfold mL; rw [hb, e1]; rfl
    have e3 : mM o L M = M := by unfold mM; rw [hb]; rfl
    have hs := mch_sum o L o.qty
    obtain ⟨u0, u1⟩ := lks_mch (o := o) ok.fl o.qty
    rw [e2, e3]
    rw [e1] at hTI hTC ts hlf ⊢
    have hs' : tsum (mch o o.qty L).1 + (mch o o.qty L).2.1 = o.qty := hs
    have eA : lockA o = 0 := by unfold lockA; rw [hb]; rfl
    have eN : lockN o = o.qty := by unfold lockN; rw [hb]; rfl
    rw [eA, eN] at t0 t1
    simp only [if_true, show ((1 : Int) = 0) = False by simp, if_false, Bool.false_eq_true] at t0 t1 u0 u1 ⊢
    have tv : 0 ≤ lks 1 (mch o o.qty L).2.2 := by
      refine lks_nonneg fun y hy => ?_
      have hm : y ∈ mL o L M ++ mM o L M := by rw [e2]; simp [hy]
      exact ((ok.met o).oin y hm).1
    have hpa := pays_all ho (mch o o.qty L).1 ys A1 hTI hTC (by omega) (by rw [hb]; simp only [Bool.false_eq_true, if_false]; omega)
    rw [hb] at hpa
    simp only [Bool.false_eq_true, if_false] at hpa
    obtain ⟨p1, p2, p3⟩ := hpa
    exact ⟨p1, by omega, by omega⟩
  · have e1 : mres o L M = mch o o.qty M := by unfold mres; rw [hb]; rfl
    have e2 : mL o L M = L := by unfold mL; rw [hb]; rfl
    have e3 : mM o L M = (mch o o.qty M).2.2 := by unfold mM; rw [hb, e1]; rfl
    have hs := mch_sum o M o.qty
    obtain ⟨u0, u1⟩ := lks_mch (o := o) ok.fm o.qty
    rw [e2, e3]
    rw [e1] at hTI hTC ts hlf ⊢
    have hs' : tsum (mch o o.qty M).1 + (mch o o.qty M).2.1 = o.qty := hs
    have eA : lockA o = 1 := by unfold lockA; rw [hb]; rfl
    have eN : lockN o = o.price * o.qty := by unfold lockN; rw [hb]; rfl
    rw [eA, eN] at t0 t1
    rw [eN] at lk
    simp only [if_true, show ((0 : Int) = 1) = False by simp, if_false, Bool.false_eq_true] at t0 t1 u0 u1 ⊢
    have m1 : o.price * o.qty = o.price * tsum (mch o o.qty M).1 + o.price * (mch o o.qty M).2.1 := by rw [← Int.mul_add, hs']
    have m2 : 0 ≤ o.price * (mch o o.qty M).2.1 := Int.mul_nonneg op.1 hlf.1
    have hpa := pays_all ho (mch o o.qty M).1 ys A1 hTI hTC (by omega) (by rw [hb]; simp only [if_true]; omega)
    rw [hb] at hpa
    simp only [if_true] at hpa
    obtain ⟨p1, p2, p3⟩ := hpa
    exact ⟨p1, by omega, by omega⟩
theorem lks_rest (a : Int) (o : Ord) (L M : List Ord) : lks a (restL o L ++ restM o M) = lks a (L ++ M) + (if lockA o = a then lockN o else 0) := by
  rw [lks_perm (rest_perm o L M)]
  by_cases hq : o.qty = 0
  · rw [if_neg (by simp [hq])]
    have : lockN o = 0 := by unfold lockN; rw [hq]; split <;> simp
    rw [this]; split <;> omega
  · rw [if_pos hq]
    simp [lks, isum]; omega
/-- An order's rest stays. -/
theorem Sok.limit {xs : List Int} {L M : List Ord} {k : Nat} (h : Sok xs L M) (ok : EOk 4 L M k) {o : Ord} (ho : OIn o) (hp : o.price ≤ 1000) (hc : aHas 4 o.client = true) (hE : aTakeE 4 xs o.client (lockA o) (lockN o) = 0) :
    Sok ((mres o L M).1.foldl (payL 4 o) (aTake 4 xs o.client (lockA o) (lockN o))) (restL { o with qty := (mres o L M).2.1 } (mL o L M)) (restM { o with qty := (mres o L M).2.1 } (mM o L M)) := by
  obtain ⟨m1, m2, m3⟩ := h.met ok ho hp hc hE
  generalize ((mres o L M).1.foldl (payL 4 o) (aTake 4 xs o.client (lockA o) (lockN o))) = zs at *
  refine ⟨m1, ?_, ?_⟩
  · rw [lks_rest]
    unfold lockA lockN
    cases hb : o.buy <;> simp [hb] at m2 ⊢ <;> omega
  · rw [lks_rest]
    unfold lockA lockN
    cases hb : o.buy <;> simp [hb] at m3 ⊢ <;> omega
/-- An order's rest goes. -/
theorem Sok.now {xs : List Int} {L M : List Ord} {k : Nat} (h : Sok xs L M) (ok : EOk 4 L M k) {o : Ord} (ho : OIn o) (hp : o.price ≤ 1000) (hc : aHas 4 o.client = true) (hE : aTakeE 4 xs o.client (lockA o) (lockN o) = 0) :
    Sok (aPut 4 ((mres o L M).1.foldl (payL 4 o) (aTake 4 xs o.client (lockA o) (lockN o))) o.client (lockA { o with qty := (mres o L M).2.1 }) (lockN { o with qty := (mres o L M).2.1 })) (mL o L M) (mM o L M) := by
  obtain ⟨m1, m2, m3⟩ := h.met ok ho hp hc hE
  have hlf := mres_left ok ho
  have op := ho.p
  have l2 : OIn { o with qty := (mres o L M).2.1 } := ho.lt _ hlf
  have lk := l2.lock
  have hoi : ∀ x ∈ mL o L M ++ mM o L M, OIn x := fun x hx => ((ok.met o).oin x hx).1
  have n0 := lks_nonneg (a := 0) hoi
  have n1 := lks_nonneg (a := 1) hoi
  have hA : aAsset (lockA { o with qty := (mres o L M).2.1 }) = true := by unfold lockA; split <;> rfl
  have g := col4_get m1 hc hA
  generalize ((mres o L M).1.foldl (payL 4 o) (aTake 4 xs o.client (lockA o) (lockN o))) = zs at *
  have hz := m1.len
  have hle : aGet zs o.client (lockA { o with qty := (mres o L M).2.1 }) ≤ 400 := by
    have m4 : 0 ≤ o.price * (mres o L M).2.1 := Int.mul_nonneg op.1 hlf.1
    have hlf1 := hlf.1
    unfold lockA at g ⊢
    cases hb : o.buy <;> simp [hb] at g m2 m3 ⊢ <;> omega
  have p0 := col4_put (by omega) hc hA (v := lockN { o with qty := (mres o L M).2.1 }) (by omega) 0 rfl
  have p1 := col4_put (by omega) hc hA (v := lockN { o with qty := (mres o L M).2.1 }) (by omega) 1 rfl
  refine ⟨m1.put _ _ ⟨by omega, by omega⟩, ?_, ?_⟩
  · rw [p0.1]
    unfold lockA lockN
    cases hb : o.buy <;> simp [hb] at m2 ⊢ <;> omega
  · rw [p1.1]
    unfold lockA lockN
    cases hb : o.buy <;> simp [hb] at m3 ⊢ <;> omega
theorem erase_perm {Q : List Ord} : ∀ {j : Nat}, j < Q.length → Q.Perm (Q.getD j Ord.zero :: Q.eraseIdx j) := by
  induction Q with
  | nil => intro j hj; simp at hj
  | cons x Q ih =>
    intro j hj
    cases j with
    | zero => exact List.Perm.refl _
    | succ j =>
      have := ih (j := j) (by simp at hj; omega)
      exact (this.cons x).trans (List.Perm.swap _ _ _)
theorem pick_perm {i : Int} {L M : List Ord} {k : Nat} {o : Ord} (hf : Fresh k L M) (h : pickB i L M = (o, true)) : (L ++ M).Perm (o :: (sans i L ++ remM i L M)) ∧ o ∈ L ++ M := by
  have one : ∀ Q : List Ord, Ids Q → pickQ i Q = (o, true) → Q.Perm (o :: sans i Q) ∧ o ∈ Q := fun Q hi hp => by
    rcases atQ_pick (k := i) hi with ⟨j, hj, -, e⟩ | ⟨-, e⟩
    · rw [hp] at e
      have e2 : o = Q.getD j Ord.zero := by injection e
      have e3 : (Q.getD j Ord.zero).id = i := by
        rcases pickQ_spec i Q with ⟨-, -, h3⟩ | ⟨h3, -⟩
        · rw [hp] at h3; rw [← e2]; exact h3
        · rw [hp] at h3; simp at h3
      rw [sans_erase hi hj e3, e2]
      refine ⟨?_, getD_mem hj⟩
      exact erase_perm hj
    · rw [hp] at e; simp at e
  obtain ⟨iL, iM⟩ := hf.two
  unfold pickB at h
  unfold remM
  cases hp : (pickQ i L).2
  · rw [hp] at h
    simp only [Bool.false_eq_true, if_false] at h ⊢
    obtain ⟨p1, p2⟩ := one M iM h
    have hs : sans i L = L := by
      rcases pickQ_spec i L with ⟨h1, -, -⟩ | ⟨-, h1⟩
      · rw [hp] at h1; simp at h1
      · exact sans_none h1
    rw [hs]
    exact ⟨((List.Perm.refl L).append p1).trans List.perm_middle, by simp [p2]⟩
  · rw [hp] at h
    simp only [if_true] at h ⊢
    obtain ⟨p1, p2⟩ := one L iL h
    exact ⟨p1.append_right M, by simp [p2]⟩
/-- An order is canceled. -/
theorem Sok.cancel {xs : List Int} {L M : List Ord} {k : Nat} (h : Sok xs L M) (ok : EOk 4 L M k) {i : Int} {o : Ord} (hp : pickB i L M = (o, true)) : Sok (aPut 4 xs o.client (lockA o) (lockN o)) (sans i L) (remM i L M) := by
  obtain ⟨pp, hm⟩ := pick_perm ok.fr hp
  obtain ⟨hi, hq, hc⟩ := ok.oin o hm
  have lk := hi.lock
  have hA : aAsset (lockA o) = true := by unfold lockA; split <;> rfl
  have hz := h.a.len
  have hoi : ∀ x ∈ L ++ M, OIn x := fun x hx => (ok.oin x hx).1
  have n0 := lks_nonneg (a := 0) hoi
  have n1 := lks_nonneg (a := 1) hoi
  have h0 := h.s0
  have h1 := h.s1
  have g := col4_get h.a hc hA
  have hle : aGet xs o.client (lockA o) ≤ 400 := by
    rcases (by unfold lockA; split <;> simp : lockA o = 0 ∨ lockA o = 1) with e | e <;> rw [e] at g ⊢ <;> omega
  have p0 := col4_put (by omega) hc hA (v := lockN o) (by omega) 0 rfl
  have p1 := col4_put (by omega) hc hA (v := lockN o) (by omega) 1 rfl
  have e0 : lks 0 (L ++ M) = (if lockA o = 0 then lockN o else 0) + lks 0 (sans i L ++ remM i L M) := by rw [lks_perm pp]; rfl
  have e1 : lks 1 (L ++ M) = (if lockA o = 1 then lockN o else 0) + lks 1 (sans i L ++ remM i L M) := by rw [lks_perm pp]; rfl
  refine ⟨h.a.put _ _ ⟨by omega, by omega⟩, ?_, ?_⟩
  · rw [p0.1]
    rcases (by unfold lockA; split <;> simp : lockA o = 0 ∨ lockA o = 1) with e | e <;> rw [e] at e0 ⊢ <;> simp at e0 ⊢ <;> omega
  · rw [p1.1]
    rcases (by unfold lockA; split <;> simp : lockA o = 0 ∨ lockA o = 1) with e | e <;> rw [e] at e1 ⊢ <;> simp at e1 ⊢ <;> omega
end Go.Proofs.Yteabcpmpcbjicaa
