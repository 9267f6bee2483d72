import Derived.Test.YtofcphfgpnobnaaBk7
namespace Go.Proofs.Ytofcphfgpnobnaa
set_option linter.unusedVariables false
open Go Go.Proofs Go.RowKit

/-! What was asked, what was traded, what stands, what went. -/
def qsum (L : List Ord) : Int := isum (L.map Ord.qty)
theorem qsum_perm {L M : List Ord} (h : L.Perm M) : qsum L = qsum M := by
  induction h with
  | nil => rfl
  | cons x _ ih => simp [qsum, isum] at ih ⊢; omega
  | swap x y l => simp [qsum, isum]; omega
  | trans _ _ h1 h2 => exact h1.trans h2
theorem mch_qsum {o : Ord} {Q : List Ord} : ∀ q, qsum Q = isum ((mch o q Q).1.map Trd.qty) + qsum (mch o q Q).2.2 := by
  induction Q with
  | nil => intro q; simp [mch, isum, qsum]
  | cons x Q ih =>
    intro q
    have tq : ∀ m, (trd o x m).qty = m := fun m => by unfold trd; split <;> rfl
    by_cases h : 0 < q ∧ meet o x = true
    · by_cases k : q < x.qty
      · rw [mch_part h.1 h.2 k]
        simp [qsum, isum, tq]
        omega
      · rw [mch_all h.1 h.2 (by omega)]
        have := ih (q - x.qty)
        simp [qsum, isum, tq] at this ⊢
        omega
    · rw [mch_no h]; simp [isum]
theorem restL_qsum (o : Ord) (L : List Ord) : qsum (restL o L) = qsum L + (if o.buy = true then o.qty else 0) := by
  unfold restL
  by_cases hq : o.qty = 0
  · rw [if_neg (by simp [hq])]; split <;> omega
  · cases hb : o.buy
    · simp
    · rw [if_pos ⟨hq, rfl⟩, qsum_perm (ins_perm _ _ _)]; simp [qsum, isum]; omega
theorem restM_qsum (o : Ord) (M : List Ord) : qsum (restM o M) = qsum M + (if o.buy = true then 0 else o.qty) := by
  unfold restM
  by_cases hq : o.qty = 0
  · rw [if_neg (by simp [hq])]; split <;> omega
  · cases hb : o.buy
    · rw [if_pos ⟨hq, rfl⟩, qsum_perm (ins_perm _ _ _)]; simp [qsum, isum]; omega
    · simp

theorem rest_all' {P : Ord → Prop} {o : Ord} {L M : List Ord} (h : ∀ x ∈ L ++ M, P x) (ho : o.qty ≠ 0 → P o) : ∀ x ∈ restL o L ++ restM o M, P x := fun x hx => by
  have hm := (rest_perm o L M).mem_iff.1 hx
  split at hm
  · rename_i hne
    rcases List.mem_cons.1 hm with e | e
    · exact e ▸ ho hne
    · exact h x e
  · exact h x hm
/-- A script's books so far: k orders; asked of sellers, of buyers; traded; went of sellers, of buyers. -/
structure Fil (k : Nat) (L M : List Ord) (a0 a1 S w0 w1 : Int) : Prop where
  fr : Fresh k L M
  fl : ∀ x ∈ L, x.buy = true
  fm : ∀ x ∈ M, x.buy = false
  all : ∀ x ∈ L ++ M, 0 < x.qty ∧ x.qty ≤ 15
  len : L.length + M.length ≤ k
  e0 : a0 = S + qsum M + w0
  e1 : a1 = S + qsum L + w1
  pos : 0 ≤ S ∧ 0 ≤ w0 ∧ 0 ≤ w1
  le : a0 + a1 ≤ 15 * k
theorem Fil.start : Fil 0 [] [] 0 0 0 0 0 := ⟨Fresh.start, by simp, by simp, by simp, by simp, rfl, rfl, by simp, by simp⟩
theorem qsum_nonneg {L : List Ord} (h : ∀ x ∈ L, 0 < x.qty) : 0 ≤ qsum L := isum_nonneg _ fun x hx => by
  obtain ⟨y, hy, rfl⟩ := List.mem_map.1 hx
  have := h y hy
  omega
theorem Fil.bounds {k : Nat} {L M : List Ord} {a0 a1 S w0 w1 : Int} (h : Fil k L M a0 a1 S w0 w1) : 0 ≤ a0 ∧ 0 ≤ a1 ∧ 0 ≤ qsum L ∧ 0 ≤ qsum M := by
  have h1 := qsum_nonneg (L := L) fun x hx => (h.all x (by simp [hx])).1
  have h2 := qsum_nonneg (L := M) fun x hx => (h.all x (by simp [hx])).1
  have := h.e0; have := h.e1; have := h.pos
  omega
/-- An order has met others: what stands. -/
theorem Fil.met {k : Nat} {L M : List Ord} {a0 a1 S w0 w1 : Int} (h : Fil k L M a0 a1 S w0 w1) {o : Ord} (hq : 0 ≤ o.qty ∧ o.qty ≤ 15) :
    (∀ x ∈ mL o L M, x.buy = true) ∧ (∀ x ∈ mM o L M, x.buy = false) ∧ (∀ x ∈ mL o L M ++ mM o L M, 0 < x.qty ∧ x.qty ≤ 15) ∧ (mL o L M).length + (mM o L M).length ≤ k ∧
    0 ≤ (mres o L M).2.1 ∧ (mres o L M).2.1 ≤ o.qty ∧ isum ((mres o L M).1.map Trd.qty) + (mres o L M).2.1 = o.qty ∧ 0 ≤ isum ((mres o L M).1.map Trd.qty) ∧
    qsum (mL o L M) = qsum L - (if o.buy = true then 0 else isum ((mres o L M).1.map Trd.qty)) ∧ qsum (mM o L M) = qsum M - (if o.buy = true then isum ((mres o L M).1.map Trd.qty) else 0) := by
  have hl := h.len
  have side : ∀ Q : List Ord, (∀ x ∈ Q, x ∈ L ++ M) → 0 ≤ (mch o o.qty Q).2.1 ∧ (mch o o.qty Q).2.1 ≤ o.qty := fun Q hQ => mch_left o Q (fun x hx => by have := h.all x (hQ x hx); omega) o.qty hq.1
  have tpos : ∀ Q : List Ord, (∀ x ∈ Q, x ∈ L ++ M) → 0 ≤ isum ((mch o o.qty Q).1.map Trd.qty) := fun Q hQ => by
    have h1 := side Q hQ
    have h2 := mch_sum o Q o.qty
    omega
  cases hb : o.buy
  · have e1 : mres o L M = mch o o.qty L := by unfold mres; rw [hb]; rfl
    have e2 : mL o L M = (mch o o.qty L).2.2 := by unfold mL; rw [hb, e1]; rfl
    have e3 : mM o L M = M := by unfold mM; rw [hb]; rfl
    rw [e1, e2, e3]
    have h1 := side L (by simp +contextual)
    have h2 := mch_sum o L o.qty
    have h3 := @mch_qsum o L o.qty
    have h4 := (mch_len o L o.qty).2
    have h5 := tpos L (by simp +contextual)
    have st := @mch_stand o L o.qty
    refine ⟨fun x hx => ?_, h.fm, fun x hx => ?_, by omega, h1.1, h1.2, h2, h5, by simp; omega, by simp⟩
    · obtain ⟨y, hy, _, _, _, e, _⟩ := st x hx
      rw [e]; exact h.fl y hy
    · rcases List.mem_append.1 hx with g | g
      · obtain ⟨y, hy, _, _, _, _, e5, e6⟩ := st x g
        have := h.all y (by simp [hy])
        exact ⟨e6 this.1, by omega⟩
      · exact h.all x (by simp [g])
  · have e1 : mres o L M = mch o o.qty M := by unfold mres; rw [hb]; rfl
    have e2 : mL o L M = L := by unfold mL; rw [hb]; rfl
    have e3 : mM o L M = (mch o o.qty M).2.2 := by unfold mM; rw [hb, e1]; rfl
    rw [e1, e2, e3]
    have h1 := side M (by simp +contextual)
    have h2 := mch_sum o M o.qty
    have h3 := @mch_qsum o M o.qty
    have h4 := (mch_len o M o.qty).2
    have h5 := tpos M (by simp +contextual)
    have st := @mch_stand o M o.qty
    refine ⟨h.fl, fun x hx => ?_, fun x hx => ?_, by omega, h1.1, h1.2, h2, h5, by simp, by simp; omega⟩
    · obtain ⟨y, hy, _, _, _, e, _⟩ := st x hx
      rw [e]; exact h.fm y hy
    · rcases List.mem_append.1 hx with g | g
      · exact h.all x (by simp [g])
      · obtain ⟨y, hy, _, _, _, _, e5, e6⟩ := st x g
        have := h.all y (by simp [hy])
        exact ⟨e6 this.1, by omega⟩
/-- An order whose rest stays. -/
theorem Fil.stay {k : Nat} {L M : List Ord} {a0 a1 S w0 w1 : Int} (h : Fil k L M a0 a1 S w0 w1) {o : Ord} (ho : o.id = (k : Int) + 1) (hq : 0 ≤ o.qty ∧ o.qty ≤ 15) :
    Fil (k + 1) (restL { o with qty := (mres o L M).2.1 } (mL o L M)) (restM { o with qty := (mres o L M).2.1 } (mM o L M)) (a0 + if o.buy = true then 0 else o.qty) (a1 + if o.buy = true then o.qty else 0) (S + isum ((mres o L M).1.map Trd.qty)) w0 w1 := by
  obtain ⟨m1, m2, m3, m4, m5, m6, m7, m8, m9, m10⟩ := h.met hq
  have hp := rest_perm { o with qty := (mres o L M).2.1 } (mL o L M) (mM o L M)
  have g0 := h.e0; have g1 := h.e1; have gp := h.pos; have gl := h.le
  have r1 := restL_qsum { o with qty := (mres o L M).2.1 } (mL o L M)
  have r2 := restM_qsum { o with qty := (mres o L M).2.1 } (mM o L M)
  dsimp only at r1 r2
  refine ⟨(h.fr.mch o).rest ho, fun x hx => ?_, fun x hx => ?_, rest_all' ?_ ?_, ?_, ?_, ?_, by omega, ?_⟩
  · unfold restL at hx
    split at hx
    · rename_i hc
      rcases List.mem_cons.1 ((ins_perm _ _ _).mem_iff.1 hx) with e | e
      · subst e; exact hc.2
      · exact m1 x e
    · exact m1 x hx
  · unfold restM at hx
    split at hx
    · rename_i hc
      rcases List.mem_cons.1 ((ins_perm _ _ _).mem_iff.1 hx) with e | e
      · subst e; exact hc.2
      · exact m2 x e
    · exact m2 x hx
  · exact m3
  · intro hne
    have : (mres o L M).2.1 ≠ 0 := hne
    exact ⟨by show 0 < (mres o L M).2.1; omega, by show (mres o L M).2.1 ≤ 15; omega⟩
  · rw [rest_len]; split <;> omega
  · rw [r2, m10]; split <;> omega
  · rw [r1, m9]; split <;> omega
  · rw [Int.natCast_add]; split <;> omega
/-- An order whose rest goes. -/
theorem Fil.goes {k : Nat} {L M : List Ord} {a0 a1 S w0 w1 : Int} (h : Fil k L M a0 a1 S w0 w1) {o : Ord} (ho : o.id = (k : Int) + 1) (hq : 0 ≤ o.qty ∧ o.qty ≤ 15) :
    Fil (k + 1) (mL o L M) (mM o L M) (a0 + if o.buy = true then 0 else o.qty) (a1 + if o.buy = true then o.qty else 0) (S + isum ((mres o L M).1.map Trd.qty)) (w0 + if o.buy = true then 0 else (mres o L M).2.1) (w1 + if o.buy = true then (mres o L M).2.1 else 0) := by
  obtain ⟨m1, m2, m3, m4, m5, m6, m7, m8, m9, m10⟩ := h.met hq
  have g0 := h.e0; have g1 := h.e1; have gp := h.pos; have gl := h.le
  refine ⟨(h.fr.mch o).mono (Nat.le_succ k), m1, m2, m3, by omega, ?_, ?_, ?_, ?_⟩
  · rw [m10]; split <;> omega
  · rw [m9]; split <;> omega
  · split <;> omega
  · rw [Int.natCast_add]; split <;> omega
/-- A row's next order: what it is, what stood ahead of it. -/
structure Nxt (b up : Bool) (Q : List Ord) (m : Nat) : Prop where
  buy : (Q.getD m Ord.zero).buy = b
  qty : 0 < (Q.getD m Ord.zero).qty ∧ (Q.getD m Ord.zero).qty ≤ 15
  sum : qsum (Q.take (m + 1)) = qsum (Q.take m) + (Q.getD m Ord.zero).qty
  pos : 0 ≤ qsum (Q.take m) ∧ qsum (Q.take m) ≤ 15 * m
  ah : ∀ p, m = p + 1 → ahead up (Q.getD p Ord.zero) (Q.getD m Ord.zero) = true
theorem qsum_le {L : List Ord} (h : ∀ x ∈ L, x.qty ≤ 15) : qsum L ≤ 15 * L.length := by
  induction L with
  | nil => simp [qsum, isum]
  | cons x L ih =>
    have h1 := h x (by simp)
    have h2 := ih fun y hy => h y (by simp [hy])
    simp [qsum, isum] at h2 ⊢
    omega
theorem nxt {b up : Bool} {Q : List Ord} {m : Nat} (hs : Srt up Q) (hb : ∀ x ∈ Q, x.buy = b) (hq : ∀ x ∈ Q, 0 < x.qty ∧ x.qty ≤ 15) (hm : m < Q.length) : Nxt b up Q m := by
  have hx : Q.getD m Ord.zero ∈ Q := getD_mem hm
  have ht : ∀ x ∈ Q.take m, 0 < x.qty ∧ x.qty ≤ 15 := fun x hx => hq x (List.mem_of_mem_take hx)
  have h1 := qsum_nonneg (L := Q.take m) fun x hx => (ht x hx).1
  have h2 := qsum_le (L := Q.take m) fun x hx => (ht x hx).2
  rw [List.length_take, Nat.min_eq_left (by omega)] at h2
  refine ⟨hb _ hx, hq _ hx, ?_, ⟨h1, h2⟩, fun p hp => ?_⟩
  · unfold qsum
    rw [List.take_succ_eq_append_getElem hm, List.map_append, isum_append]
    simp [isum, List.getD, hm]
  · have hp2 : p < Q.length := by omega
    have := List.pairwise_iff_getElem.1 hs p m hp2 hm (by omega)
    simpa [List.getD, hm, hp2] using this
end Go.Proofs.Ytofcphfgpnobnaa
