
import Derived.Test.YteabcpmpcbjicaaGreatSta
import Derived.Test.YteabcpmpcbjicaaGreatTerm
namespace Go.Proofs.YteabcpmpcbjicaaGreat
set_option linter.unusedVariables false
set_option maxRecDepth 100000
open Go Go.Proofs Go.RowKit

/-! When an entry turns the state. -/
theorem lAct_nx (n : Nat) (S : LS) (c : Int) (t : Txx) : (lAct n S c t).1.nx = S.nx := by
  unfold lAct lDep lWd lTr lLim lNow lCan
  repeat' split
  all_goals rfl
theorem lAct_bad (n : Nat) (S : LS) (c : Int) (t : Txx) (h : (lAct n S c t).2.code ≠ 0) : (lAct n S c t).1 = S := by
  unfold lAct lDep lWd lTr lLim lNow lCan at h ⊢
  repeat' split
  all_goals first | rfl | (simp_all [no])
theorem lEnd_code (n : Nat) (r : LS × Rcp) (c : Int) : (lEnd n r c).2.code = r.2.code := by
  unfold lEnd; split <;> rfl
theorem lEnd_nx (n : Nat) (r : LS × Rcp) (c : Int) : (lEnd n r c).1.nx = r.1.nx := by
  unfold lEnd; split <;> rfl
theorem lHeld_nx (n : Nat) (S : LS) (e : Ent) : (lHeld n S e).nx = S.nx := rfl
/-- A refused entry leaves all but its fee and the nonce. -/
theorem lDone_bad (n : Nat) (S : LS) (e : Ent) (h : (lDone n S e).2.code ≠ 0) : (lDone n S e).1 = S ∨ (aHas n e.client = true ∧ (lDone n S e).1 = { S with nx := S.nx.set e.client.toNat (uW (lNx S e.client + 1)) }) := by
  unfold lDone at h ⊢
  split
  · rename_i h1
    rw [if_pos h1] at h
    split
    · rename_i h2
      rw [if_pos h2] at h
      split
      · rename_i h3
        rw [if_pos h3] at h
        exact .inr ⟨h1, lAct_bad _ _ _ _ h⟩
      · exact .inl rfl
    · exact .inl rfl
  · exact .inl rfl
/-- One that is done raises the nonce. -/
theorem lDone_ok (n : Nat) (S : LS) (e : Ent) (h : (lDone n S e).2.code = 0) : aHas n e.client = true ∧ (lDone n S e).1.nx = S.nx.set e.client.toNat (uW (lNx S e.client + 1)) := by
  unfold lDone at h ⊢
  split
  · rename_i h1
    rw [if_pos h1] at h
    refine ⟨h1, ?_⟩
    split
    · rename_i h2
      rw [if_pos h2] at h
      split
      · rename_i h3
        exact lAct_nx _ _ _ _
      · rename_i h3
        rw [if_neg h3] at h
        cases h
    · rename_i h2
      rw [if_neg h2] at h
      cases h
  · rename_i h1
    rw [if_neg h1] at h
    cases h
theorem nx_turns {n : Nat} {S S' : LS} {c : Int} (hc : aHas n c = true) (hl : S.nx.length = n) (hu : ∀ z ∈ S.nx, U z) (h : S'.nx = S.nx.set c.toNat (uW (lNx S c + 1))) : lNextV n S' c ≠ lNextV n S c := by
  unfold aHas at hc
  simp only [decide_eq_true_eq] at hc
  have hi : c.toNat < S.nx.length := by omega
  unfold lNextV
  rw [if_pos (by unfold aHas; simpa using hc), if_pos (by unfold aHas; simpa using hc), h]
  have h1 : S.nx.getD c.toNat 0 = S.nx[c.toNat] := by simp [List.getD, hi]
  have h2 : (S.nx.set c.toNat (uW (lNx S c + 1))).getD c.toNat 0 = uW (lNx S c + 1) := by simp [List.getD, hi]
  have h3 : lNx S c = S.nx[c.toNat] := h1
  rw [h1, h2, h3]
  have := hu _ (List.getElem_mem hi)
  unfold U at this
  unfold uW
  omega
theorem hold_same {n : Nat} {xs : List Int} {f : Int → Int} {c fee : Int} (h : aFree n (hHoldX n xs f c fee) c 1 = aFree n xs c 1) (hl : xs.length = n * 2) : hHoldX n xs f c fee = xs := by
  unfold hHoldX at h ⊢
  split
  · rename_i h1
    rw [if_pos h1] at h
    unfold aTake at h ⊢
    split
    · rename_i h2
      rw [if_pos h2] at h
      have hE : aErr n c 1 = 0 := by
        unfold aTakeE at h2
        split at h2
        · assumption
        · rename_i hh
          exact absurd h2 hh
      have hc : aHas n c = true := by
        unfold aErr at hE
        by_cases q : aHas n c = true
        · exact q
        · rw [if_neg q] at hE; cases hE
      unfold aHas at hc
      simp only [decide_eq_true_eq] at hc
      have hi : aAt c 1 < xs.length := by rw [hl]; unfold aAt; omega
      unfold aFree at h
      rw [if_pos hE, if_pos hE] at h
      unfold aGet at h ⊢
      have h3 : xs.getD (aAt c 1) 0 = xs[aAt c 1] := by simp [List.getD, hi]
      have h4 : ∀ v, (xs.set (aAt c 1) v).getD (aAt c 1) 0 = v := fun v => by simp [List.getD, hi]
      rw [h4] at h
      rw [h, h3, List.set_getElem_self]
    · rfl
  · rfl
theorem stB_eq {n : Nat} {S S' : LS} (h1 : S'.nx = S.nx) (h2 : S'.xs = S.xs) (h3 : S'.got = S.got) (h4 : S'.g0 = S.g0) (h5 : S'.g1 = S.g1) (h6 : S'.b0 = S.b0) (h7 : S'.b1 = S.b1) (h8 : S'.k = S.k) (h9 : S'.L = S.L) (h10 : S'.M = S.M) : stB n S' = stB n S := by
  have hc : cnum n S' = cnum n S := by funext j; unfold cnum; rw [h1, h2]
  have hg : ∀ a, lGivenV S' a = lGivenV S a := fun a => by unfold lGivenV; rw [h4, h5, h6, h7]
  unfold stB cliB midB
  rw [hc, hg, hg, h3, h4, h5, h8, h9, h10]
theorem cliB_inj {n : Nat} {S S' : LS} : ∀ {k : Nat}, cliB n S k = cliB n S' k → ∀ j, j < k → cnum n S j = cnum n S' j
  | 0, _, j, hj => by omega
  | k + 1, h, j, hj => by
    have e : ∀ T : LS, cliB n T (k + 1) = cliB n T k ++ cnum n T k := fun T => by unfold cliB; rw [List.range_succ, List.flatMap_append]; simp
    rw [e, e] at h
    obtain ⟨h1, h2⟩ := List.append_inj h (by rw [cliB_len, cliB_len])
    by_cases q : j < k
    · exact cliB_inj h1 j q
    · have : j = k := by omega
      subst this; exact h2
theorem cnum_inj {n : Nat} {S S' : LS} {j : Nat} (h : cnum n S j = cnum n S' j) (u1 : U (S.nx.getD j 0)) (u2 : U (S'.nx.getD j 0)) (a1 : AOk n S.xs) (a2 : AOk n S'.xs) : S.nx.getD j 0 = S'.nx.getD j 0 ∧ aFree n S.xs (j : Int) 0 = aFree n S'.xs (j : Int) 0 ∧ aFree n S.xs (j : Int) 1 = aFree n S'.xs (j : Int) 1 := by
  unfold cnum at h
  obtain ⟨h1, h2⟩ := List.append_inj h rfl
  obtain ⟨h3, h4⟩ := List.append_inj h1 rfl
  exact ⟨num8_inj u1 u2 h3, num8_inj (aFree_U a1 _ _) (aFree_U a2 _ _) h4, num8_inj (aFree_U a1 _ _) (aFree_U a2 _ _) h2⟩
theorem getU {l : List Int} (h : ∀ z ∈ l, U z) (j : Nat) : U (l.getD j 0) := by
  by_cases q : j < l.length
  · rw [show l.getD j 0 = l[j] by simp [List.getD, q]]; exact h _ (List.getElem_mem q)
  · rw [show l.getD j 0 = 0 by simp [List.getD, q]]; simp [U]
structure LSU (n : Nat) (S : LS) : Prop where
  got : U S.got
  nl : S.nx.length = n
  nu : ∀ z ∈ S.nx, U z
  ok : AOk n S.xs
theorem stB_inj {n : Nat} {S S' : LS} (h : stB n S = stB n S') (u : LSU n S) (v : LSU n S') (c : Int) : S.got = S'.got ∧ lNextV n S c = lNextV n S' c ∧ aFree n S.xs c 0 = aFree n S'.xs c 0 ∧ aFree n S.xs c 1 = aFree n S'.xs c 1 := by
  unfold stB at h
  rw [List.append_assoc, List.append_assoc, List.append_assoc, List.append_assoc] at h
  obtain ⟨h1, h2⟩ := List.append_inj h (by rw [cliB_len, cliB_len])
  obtain ⟨h3, h4⟩ := List.append_inj h2 (by rw [midB_len, midB_len])
  have hg : S.got = S'.got := by
    unfold midB at h3
    simp only [List.append_assoc] at h3
    exact num8_inj u.got v.got (List.append_inj h3 rfl).1
  refine ⟨hg, ?_⟩
  by_cases hc : aHas n c = true
  · have hc2 := hc
    unfold aHas at hc2
    simp only [decide_eq_true_eq] at hc2
    obtain ⟨j, rfl⟩ : ∃ j : Nat, c = j := ⟨c.toNat, by omega⟩
    obtain ⟨q1, q2, q3⟩ := cnum_inj (cliB_inj h1 j (by omega)) (getU u.nu j) (getU v.nu j) u.ok v.ok
    unfold lNextV
    rw [if_pos hc, if_pos hc]
    exact ⟨by simpa using q1, q2, q3⟩
  · have e : ∀ a, aErr n c a ≠ 0 := fun a => by unfold aErr; rw [if_neg hc]; decide
    unfold lNextV aFree
    rw [if_neg hc, if_neg hc, if_neg (e 0), if_neg (e 0), if_neg (e 1), if_neg (e 1)]
    exact ⟨rfl, rfl, rfl⟩
/-- Nothing turned: the state is as it was. -/
theorem sta_same {n : Nat} {S S' : LS} {e : Ent} {r : Rcp} (h : lDo n S e = (S', r)) (u : LSU n S) (hr : r.code ≠ 0) (h1 : lNextV n S' e.client = lNextV n S e.client) (h2 : aFree n S'.xs e.client 1 = aFree n S.xs e.client 1) (h3 : S'.got = S.got) : stB n S' = stB n S := by
  unfold lDo at h
  have hc : (lDone n (lHeld n S e) e).2.code ≠ 0 := by
    rw [← lEnd_code n (lDone n (lHeld n S e) e) e.client, h]; exact hr
  rcases lDone_bad _ _ _ hc with q | ⟨q1, q2⟩
  · have hS' : S' = (lEnd n (lDone n (lHeld n S e) e) e.client).1 := by rw [h]
    unfold lEnd at hS'
    rw [if_neg hc, q] at hS'
    have hx : S'.xs = hHoldX n S.xs S.f e.client e.fee := by rw [hS']; rfl
    have hx2 : S'.xs = S.xs := by
      rw [hx]
      rw [hx] at h2
      exact hold_same h2 u.ok.len
    exact stB_eq (by rw [hS']; rfl) hx2 h3 (by rw [hS']; rfl) (by rw [hS']; rfl) (by rw [hS']; rfl) (by rw [hS']; rfl) (by rw [hS']; rfl) (by rw [hS']; rfl) (by rw [hS']; rfl)
  · have hn : S'.nx = S.nx.set e.client.toNat (uW (lNx S e.client + 1)) := by
      have : S' = (lEnd n (lDone n (lHeld n S e) e) e.client).1 := by rw [h]
      rw [this, lEnd_nx, q2]; rfl
    exact absurd h1 (nx_turns q1 u.nl u.nu hn)
/-- Something turned: the state is another. -/
theorem sta_turn {n : Nat} {S S' : LS} {e : Ent} {r : Rcp} (h : lDo n S e = (S', r)) (u : LSU n S) (v : LSU n S') (ht : lNextV n S' e.client ≠ lNextV n S e.client ∨ aFree n S'.xs e.client 1 ≠ aFree n S.xs e.client 1 ∨ aFree n S'.xs e.client 0 ≠ aFree n S.xs e.client 0 ∨ S'.got ≠ S.got ∨ r.code = 0) : stB n S' ≠ stB n S := by
  intro hs
  obtain ⟨q1, q2, q3, q4⟩ := stB_inj hs v u e.client
  rcases ht with q | q | q | q | q
  · exact q q2
  · exact q q4
  · exact q q3
  · exact q q1
  · unfold lDo at h
    have hc : (lDone n (lHeld n S e) e).2.code = 0 := by
      rw [← lEnd_code n (lDone n (lHeld n S e) e) e.client, h]; exact q
    obtain ⟨k1, k2⟩ := lDone_ok _ _ _ hc
    have hn : S'.nx = S.nx.set e.client.toNat (uW (lNx S e.client + 1)) := by
      have : S' = (lEnd n (lDone n (lHeld n S e) e) e.client).1 := by rw [h]
      rw [this, lEnd_nx, k2]; rfl
    exact nx_turns k1 u.nl u.nu hn q2
theorem LedX.lsu {w wr : World} {l n : Nat} {F : List Nat} {S : LS} {t : Nat} (h : LedX w wr l n F S t) : LSU n S := by
  obtain ⟨ab, fb, x, ns, cap, hn, hkt, hLM, hoi, ug, u0, u1, hnl, hnu, hak, -⟩ := h.parts
  exact ⟨ug, hnl, hnu, hak⟩
end Go.Proofs.YteabcpmpcbjicaaGreat
