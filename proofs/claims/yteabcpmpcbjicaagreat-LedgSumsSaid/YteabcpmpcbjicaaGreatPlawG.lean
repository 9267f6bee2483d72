
import Derived.Test.YteabcpmpcbjicaaGreatExSA
import Derived.Test.YteabcpmpcbjicaaGreatLedK
namespace Go.Proofs.YteabcpmpcbjicaaGreat
set_option linter.unusedVariables false
set_option linter.unusedSimpArgs false
open Go Go.Proofs Go.RowKit

theorem gpay_buy {o : Ord} {xs : List Int} {t : Trd} (h : AOk 4 xs) (hb : o.buy = true) (ho : OIn o) (ht : TIn o t) (hc : aHas 4 t.buyer = true ∧ aHas 4 t.seller = true) (l0 : col4 0 xs ≤ 9223372036854775807) (l1 : col4 1 xs ≤ 9223372036854775807) :
    AOk 4 (payL 4 o xs t) ∧ col4 0 (payL 4 o xs t) = col4 0 xs + t.qty ∧ col4 1 (payL 4 o xs t) = col4 1 xs + o.price * t.qty := by
  have hl := h.len
  have tp := ht.p
  have tq := ht.q
  have tl := ht.le hb
  have op := ho.p
  have m1 := mul_lt tp tq
  have m2 := mul_lt (a := o.price - t.price) ⟨by omega, by omega⟩ tq
  have m3 : o.price * t.qty = t.price * t.qty + (o.price - t.price) * t.qty := by rw [← Int.add_mul]; congr 1; omega
  have e : payL 4 o xs t = aPut 4 (aPut 4 (aPut 4 xs t.seller 1 (t.price * t.qty)) t.buyer 0 t.qty) t.buyer 1 ((o.price - t.price) * t.qty) := by unfold payL; rw [if_pos hb]
  rw [e]
  have g1 := col4_get h hc.2 (a := 1) rfl
  have A1 := h.put t.seller 1 (v := t.price * t.qty) ⟨by omega, by omega⟩
  have p0 := col4_put (by omega) hc.2 (b := 1) rfl (v := t.price * t.qty) (by omega) 0 rfl
  have p1 := col4_put (by omega) hc.2 (b := 1) rfl (v := t.price * t.qty) (by omega) 1 rfl
  clear e
  generalize aPut 4 xs t.seller 1 (t.price * t.qty) = ys at *
  simp only [if_true, show ((0 : Int) = 1) = False by simp, if_false] at p0 p1
  have g2 := col4_get A1 hc.1 (a := 0) rfl
  have A2 := A1.put t.buyer 0 (v := t.qty) ⟨by omega, by omega⟩
  have q0 := col4_put p0.2 hc.1 (b := 0) rfl (v := t.qty) (by omega) 0 rfl
  have q1 := col4_put p0.2 hc.1 (b := 0) rfl (v := t.qty) (by omega) 1 rfl
  generalize aPut 4 ys t.buyer 0 t.qty = zs at *
  simp only [if_true, show ((1 : Int) = 0) = False by simp, if_false] at q0 q1
  have g3 := col4_get A2 hc.1 (a := 1) rfl
  have A3 := A2.put t.buyer 1 (v := (o.price - t.price) * t.qty) ⟨by omega, by omega⟩
  have r0 := col4_put q0.2 hc.1 (b := 1) rfl (v := (o.price - t.price) * t.qty) (by omega) 0 rfl
  have r1 := col4_put q0.2 hc.1 (b := 1) rfl (v := (o.price - t.price) * t.qty) (by omega) 1 rfl
  simp only [if_true, show ((0 : Int) = 1) = False by simp, if_false] at r0 r1
  exact ⟨A3, by omega, by omega⟩
theorem gpay_sell {o : Ord} {xs : List Int} {t : Trd} (h : AOk 4 xs) (hb : o.buy = false) (ht : TIn o t) (hc : aHas 4 t.buyer = true ∧ aHas 4 t.seller = true) (l0 : col4 0 xs ≤ 9223372036854775807) (l1 : col4 1 xs ≤ 9223372036854775807) :
    AOk 4 (payL 4 o xs t) ∧ col4 0 (payL 4 o xs t) = col4 0 xs + t.qty ∧ col4 1 (payL 4 o xs t) = col4 1 xs + t.price * t.qty := by
  have hl := h.len
  have tp := ht.p
  have tq := ht.q
  have m1 := mul_lt tp tq
  have e : payL 4 o xs t = aPut 4 (aPut 4 xs t.seller 1 (t.price * t.qty)) t.buyer 0 t.qty := by unfold payL; rw [if_neg (by simp [hb])]
  rw [e]
  have g1 := col4_get h hc.2 (a := 1) rfl
  have A1 := h.put t.seller 1 (v := t.price * t.qty) ⟨by omega, by omega⟩
  have p0 := col4_put (by omega) hc.2 (b := 1) rfl (v := t.price * t.qty) (by omega) 0 rfl
  have p1 := col4_put (by omega) hc.2 (b := 1) rfl (v := t.price * t.qty) (by omega) 1 rfl
  clear e
  generalize aPut 4 xs t.seller 1 (t.price * t.qty) = ys at *
  simp only [if_true, show ((0 : Int) = 1) = False by simp, if_false] at p0 p1
  have g2 := col4_get A1 hc.1 (a := 0) rfl
  have A2 := A1.put t.buyer 0 (v := t.qty) ⟨by omega, by omega⟩
  have q0 := col4_put p0.2 hc.1 (b := 0) rfl (v := t.qty) (by omega) 0 rfl
  have q1 := col4_put p0.2 hc.1 (b := 0) rfl (v := t.qty) (by omega) 1 rfl
  simp only [if_true, show ((1 : Int) = 0) = False by simp, if_false] at q0 q1
  exact ⟨A2, by omega, by omega⟩
theorem gpays_all {o : Ord} (ho : OIn o) (T : List Trd) : ∀ xs, AOk 4 xs → (∀ t ∈ T, TIn o t) → TCl T → col4 0 xs + tsum T ≤ 9223372036854775807 → col4 1 xs + (if o.buy = true then o.price * tsum T else tval T) ≤ 9223372036854775807 →
    AOk 4 (T.foldl (payL 4 o) xs) ∧ col4 0 (T.foldl (payL 4 o) xs) = col4 0 xs + tsum T ∧ col4 1 (T.foldl (payL 4 o) xs) = col4 1 xs + (if o.buy = true then o.price * tsum T else tval T) := by
  induction T with
  | nil => intro xs h _ _ _ _; refine ⟨h, by simp [tsum, isum], by simp [tsum, tval, isum]⟩
  | cons t T ih =>
    intro xs h hT hC b0 b1
    have ht := hT t (by simp)
    have hc := hC t (by simp)
    have hT' : ∀ t ∈ T, TIn o t := fun y hy => hT y (by simp [hy])
    have hC' : TCl T := fun y hy => hC y (by simp [hy])
    have ts : 0 ≤ tsum T := isum_nonneg _ fun x hx => by obtain ⟨y, hy, rfl⟩ := List.mem_map.1 hx; exact (hT' y hy).q.1
    have tv : 0 ≤ tval T := isum_nonneg _ fun x hx => by obtain ⟨y, hy, rfl⟩ := List.mem_map.1 hx; exact (mul_lt (hT' y hy).p (hT' y hy).q).1
    have e0 : tsum (t :: T) = t.qty + tsum T := rfl
    have e1 : tval (t :: T) = t.price * t.qty + tval T := rfl
    have e2 : o.price * tsum (t :: T) = o.price * t.qty + o.price * tsum T := by rw [e0, Int.mul_add]
    have tq := ht.q
    have s1 := mul_lt ho.p tq
    have s2 := mul_lt ht.p tq
    have s3 : 0 ≤ o.price * tsum T := Int.mul_nonneg ho.p.1 ts
    rw [List.foldl_cons]
    cases hb : o.buy
    · simp only [hb, Bool.false_eq_true, if_false] at b1 ih ⊢
      obtain ⟨a1, a2, a3⟩ := gpay_sell h hb ht hc (by omega) (by omega)
      obtain ⟨c1, c2, c3⟩ := ih _ a1 hT' hC' (by omega) (by omega)
      exact ⟨c1, by omega, by omega⟩
    · simp only [hb, if_true] at b1 ih ⊢
      obtain ⟨a1, a2, a3⟩ := gpay_buy h hb ho ht hc (by omega) (by omega)
      obtain ⟨c1, c2, c3⟩ := ih _ a1 hT' hC' (by omega) (by omega)
      exact ⟨c1, by omega, by omega⟩
/-- All four clients' sums, of each asset. -/
structure Gok (G0 G1 : Int) (xs : List Int) (L M : List Ord) : Prop where
  a : AOk 4 xs
  s0 : col4 0 xs + lks 0 (L ++ M) = G0
  s1 : col4 1 xs + lks 1 (L ++ M) = G1
  b0 : G0 ≤ 4611686018427387904
  b1 : G1 ≤ 4611686018427387904
theorem Gok.met {G0 G1 : Int} {xs : List Int} {L M : List Ord} {k : Nat} (h : Gok G0 G1 xs L M) (ok : EOk 4 L M k) {o : Ord} (ho : OIn o) (hc : aHas 4 o.client = true) (hE : aTakeE 4 xs o.client (lockA o) (lockN o) = 0) :
    AOk 4 ((mres o L M).1.foldl (payL 4 o) (aTake 4 xs o.client (lockA o) (lockN o))) ∧
    col4 0 ((mres o L M).1.foldl (payL 4 o) (aTake 4 xs o.client (lockA o) (lockN o))) + lks 0 (mL o L M ++ mM o L M) + (if o.buy = true then 0 else (mres o L M).2.1) = G0 ∧
    col4 1 ((mres o L M).1.foldl (payL 4 o) (aTake 4 xs o.client (lockA o) (lockN o))) + lks 1 (mL o L M ++ mM o L M) + (if o.buy = true then o.price * (mres o L M).2.1 else 0) = G1 := by
  have hl := h.a.len
  have lk := ho.lock
  have hTI := ok.trades ho
  have hTC := ok.tcl hc
  have hlf := mres_left ok ho
  have h0 := h.s0
  have h1 := h.s1
  have gb0 := h.b0
  have gb1 := h.b1
  have hA : aAsset (lockA o) = true := by unfold lockA; split <;> rfl
  have A1 := h.a.take o.client (lockA o) (v := lockN o) ⟨by omega, by omega⟩
  have t0 := col4_take (by omega) hc hA hE 0 rfl
  have t1 := col4_take (by omega) hc hA hE 1 rfl
  generalize aTake 4 xs o.client (lockA o) (lockN o) = ys at *
  rw [lks_append] at h0 h1 ⊢
  rw [lks_append]
  have ts : 0 ≤ tsum (mres o L M).1 := isum_nonneg _ fun x hx => by obtain ⟨y, hy, rfl⟩ := List.mem_map.1 hx; exact (hTI y hy).q.1
  have hoi : ∀ Q : List Ord, (∀ x ∈ Q, x ∈ L ++ M) → ∀ x ∈ Q, OIn x := fun Q hQ x hx => (ok.oin x (hQ x hx)).1
  have n0 := lks_nonneg (a := 0) (hoi L (by simp +contextual))
  have n1 := lks_nonneg (a := 0) (hoi M (by simp +contextual))
  have n2 := lks_nonneg (a := 1) (hoi L (by simp +contextual))
  have n3 := lks_nonneg (a := 1) (hoi M (by simp +contextual))
  have hq := ho.q
  have op := ho.p
  cases hb : o.buy
  · have e1 : mres o L M = mch o o.qty L := by unfold mres; rw [hb]; rfl
    have e2 : mL o L M = (mch o o.qty L).2.2 := by unfold mL; rw [hb, e1]; rfl
    have e3 : mM o L M = M := by unfold mM; rw [hb]; rfl
    have hs := mch_sum o L o.qty
    obtain ⟨u0, u1⟩ := lks_mch (o := o) ok.fl o.qty
    rw [e2, e3]
    rw [e1] at hTI hTC ts hlf ⊢
    have hs' : tsum (mch o o.qty L).1 + (mch o o.qty L).2.1 = o.qty := hs
    have eA : lockA o = 0 := by unfold lockA; rw [hb]; rfl
    have eN : lockN o = o.qty := by unfold lockN; rw [hb]; rfl
    rw [eA, eN] at t0 t1
    simp only [if_true, show ((1 : Int) = 0) = False by simp, if_false, Bool.false_eq_true] at t0 t1 u0 u1 ⊢
    have tv : 0 ≤ lks 1 (mch o o.qty L).2.2 := by
      refine lks_nonneg fun y hy => ?_
      have hm : y ∈ mL o L M ++ mM o L M := by rw [e2]; simp [hy]
      exact ((ok.met o).oin y hm).1
    have hpa := gpays_all ho (mch o o.qty L).1 ys A1 hTI hTC (by omega) (by rw [hb]; simp only [Bool.false_eq_true, if_false]; omega)
    rw [hb] at hpa
    simp only [Bool.false_eq_true, if_false] at hpa
    obtain ⟨p1, p2, p3⟩ := hpa
    exact ⟨p1, by omega, by omega⟩
  · have e1 : mres o L M = mch o o.qty M := by unfold mres; rw [hb]; rfl
    have e2 : mL o L M = L := by unfold mL; rw [hb]; rfl
    have e3 : mM o L M = (mch o o.qty M).2.2 := by unfold mM; rw [hb, e1]; rfl
    have hs := mch_sum o M o.qty
    obtain ⟨u0, u1⟩ := lks_mch (o := o) ok.fm o.qty
    rw [e2, e3]
    rw [e1] at hTI hTC ts hlf ⊢
    have hs' : tsum (mch o o.qty M).1 + (mch o o.qty M).2.1 = o.qty := hs
    have eA : lockA o = 1 := by unfold lockA; rw [hb]; rfl
    have eN : lockN o = o.price * o.qty := by unfold lockN; rw [hb]; rfl
    rw [eA, eN] at t0 t1
    rw [eN] at lk
    simp only [if_true, show ((0 : Int) = 1) = False by simp, if_false, Bool.false_eq_true] at t0 t1 u0 u1 ⊢
    have m1 : o.price * o.qty = o.price * tsum (mch o o.qty M).1 + o.price * (mch o o.qty M).2.1 := by rw [← Int.mul_add, hs']
    have m2 : 0 ≤ o.price * (mch o o.qty M).2.1 := Int.mul_nonneg op.1 hlf.1
    have hpa := gpays_all ho (mch o o.qty M).1 ys A1 hTI hTC (by omega) (by rw [hb]; simp only [if_true]; omega)
    rw [hb] at hpa
    simp only [if_true] at hpa
    obtain ⟨p1, p2, p3⟩ := hpa
    exact ⟨p1, by omega, by omega⟩
theorem Gok.limit {G0 G1 : Int} {xs : List Int} {L M : List Ord} {k : Nat} (h : Gok G0 G1 xs L M) (ok : EOk 4 L M k) {o : Ord} (ho : OIn o) (hc : aHas 4 o.client = true) (hE : aTakeE 4 xs o.client (lockA o) (lockN o) = 0) :
    Gok G0 G1 ((mres o L M).1.foldl (payL 4 o) (aTake 4 xs o.client (lockA o) (lockN o))) (restL { o with qty := (mres o L M).2.1 } (mL o L M)) (restM { o with qty := (mres o L M).2.1 } (mM o L M)) := by
  have gb0 := h.b0
  have gb1 := h.b1
  obtain ⟨m1, m2, m3⟩ := h.met ok ho hc hE
  generalize ((mres o L M).1.foldl (payL 4 o) (aTake 4 xs o.client (lockA o) (lockN o))) = zs at *
  refine ⟨m1, ?_, ?_, gb0, gb1⟩
  · rw [lks_rest]
    unfold lockA lockN
    cases hb : o.buy <;> simp [hb] at m2 ⊢ <;> omega
  · rw [lks_rest]
    unfold lockA lockN
    cases hb : o.buy <;> simp [hb] at m3 ⊢ <;> omega
theorem Gok.now {G0 G1 : Int} {xs : List Int} {L M : List Ord} {k : Nat} (h : Gok G0 G1 xs L M) (ok : EOk 4 L M k) {o : Ord} (ho : OIn o) (hc : aHas 4 o.client = true) (hE : aTakeE 4 xs o.client (lockA o) (lockN o) = 0) :
    Gok G0 G1 (aPut 4 ((mres o L M).1.foldl (payL 4 o) (aTake 4 xs o.client (lockA o) (lockN o))) o.client (lockA { o with qty := (mres o L M).2.1 }) (lockN { o with qty := (mres o L M).2.1 })) (mL o L M) (mM o L M) := by
  have gb0 := h.b0
  have gb1 := h.b1
  obtain ⟨m1, m2, m3⟩ := h.met ok ho hc hE
  have hlf := mres_left ok ho
  have op := ho.p
  have l2 : OIn { o with qty := (mres o L M).2.1 } := ho.lt _ hlf
  have lk := l2.lock
  have hoi : ∀ x ∈ mL o L M ++ mM o L M, OIn x := fun x hx => ((ok.met o).oin x hx).1
  have n0 := lks_nonneg (a := 0) hoi
  have n1 := lks_nonneg (a := 1) hoi
  have hA : aAsset (lockA { o with qty := (mres o L M).2.1 }) = true := by unfold lockA; split <;> rfl
  have g := col4_get m1 hc hA
  generalize ((mres o L M).1.foldl (payL 4 o) (aTake 4 xs o.client (lockA o) (lockN o))) = zs at *
  have hz := m1.len
  have hle : aGet zs o.client (lockA { o with qty := (mres o L M).2.1 }) ≤ 4611686018427387904 := by
    have m4 : 0 ≤ o.price * (mres o L M).2.1 := Int.mul_nonneg op.1 hlf.1
    have hlf1 := hlf.1
    unfold lockA at g ⊢
    cases hb : o.buy <;> simp [hb] at g m2 m3 ⊢ <;> omega
  have p0 := col4_put (by omega) hc hA (v := lockN { o with qty := (mres o L M).2.1 }) (by omega) 0 rfl
  have p1 := col4_put (by omega) hc hA (v := lockN { o with qty := (mres o L M).2.1 }) (by omega) 1 rfl
  refine ⟨m1.put _ _ ⟨by omega, by omega⟩, ?_, ?_, gb0, gb1⟩
  · rw [p0.1]
    unfold lockA lockN
    cases hb : o.buy <;> simp [hb] at m2 ⊢ <;> omega
  · rw [p1.1]
    unfold lockA lockN
    cases hb : o.buy <;> simp [hb] at m3 ⊢ <;> omega
theorem Gok.cancel {G0 G1 : Int} {xs : List Int} {L M : List Ord} {k : Nat} (h : Gok G0 G1 xs L M) (ok : EOk 4 L M k) {i : Int} {o : Ord} (hp : pickB i L M = (o, true)) : Gok G0 G1 (aPut 4 xs o.client (lockA o) (lockN o)) (sans i L) (remM i L M) := by
  have gb0 := h.b0
  have gb1 := h.b1
  obtain ⟨pp, hm⟩ := pick_perm ok.fr hp
  obtain ⟨hi, hq, hc⟩ := ok.oin o hm
  have lk := hi.lock
  have hA : aAsset (lockA o) = true := by unfold lockA; split <;> rfl
  have hz := h.a.len
  have hoi : ∀ x ∈ L ++ M, OIn x := fun x hx => (ok.oin x hx).1
  have n0 := lks_nonneg (a := 0) hoi
  have n1 := lks_nonneg (a := 1) hoi
  have h0 := h.s0
  have h1 := h.s1
  have g := col4_get h.a hc hA
  have hle : aGet xs o.client (lockA o) ≤ 4611686018427387904 := by
    rcases (by unfold lockA; split <;> simp : lockA o = 0 ∨ lockA o = 1) with e | e <;> rw [e] at g ⊢ <;> omega
  have p0 := col4_put (by omega) hc hA (v := lockN o) (by omega) 0 rfl
  have p1 := col4_put (by omega) hc hA (v := lockN o) (by omega) 1 rfl
  have e0 : lks 0 (L ++ M) = (if lockA o = 0 then lockN o else 0) + lks 0 (sans i L ++ remM i L M) := by rw [lks_perm pp]; rfl
  have e1 : lks 1 (L ++ M) = (if lockA o = 1 then lockN o else 0) + lks 1 (sans i L ++ remM i L M) := by rw [lks_perm pp]; rfl
  refine ⟨h.a.put _ _ ⟨by omega, by omega⟩, ?_, ?_, gb0, gb1⟩
  · rw [p0.1]
    rcases (by unfold lockA; split <;> simp : lockA o = 0 ∨ lockA o = 1) with e | e <;> rw [e] at e0 ⊢ <;> simp at e0 ⊢ <;> omega
  · rw [p1.1]
    rcases (by unfold lockA; split <;> simp : lockA o = 0 ∨ lockA o = 1) with e | e <;> rw [e] at e1 ⊢ <;> simp at e1 ⊢ <;> omega
end Go.Proofs.YteabcpmpcbjicaaGreat
