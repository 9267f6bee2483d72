
import Derived.Test.YteabcpmpcbjicaaPool9
namespace Go.Proofs.Yteabcpmpcbjicaa
set_option linter.unusedVariables false
set_option maxRecDepth 100000
open Go Go.Proofs Go.RowKit Go.Maps

/-! What Add does of one whose client waits nowhere. -/
theorem tkn_no {L : List Env} {e : Env} (h : ∀ x ∈ L, x.client ≠ e.client) : L.any (tkn e) = false := by
  rw [List.any_eq_false]
  intro x hx
  have h1 := h x hx
  have h2 : x ≠ e := fun q => h1 (by rw [q])
  unfold tkn
  simp [h1, h2]
theorem tkn_self {L : List Env} {e : Env} (h : e ∈ L) : L.any (tkn e) = true := List.any_eq_true.2 ⟨e, h, by unfold tkn; simp⟩
theorem fsE_no {L : List Env} {e : Env} (h : ∀ x ∈ L, x.client ≠ e.client) : fsE e L = [e.fee] := by
  unfold fsE
  rw [List.filter_eq_nil_iff.2 (fun x hx => by simp [h x hx])]
  rfl
theorem cSum_one {a : Int} (h : a < 18446744073709551616) : cSumB [a] = true ∧ cSumN [a] = a := by
  unfold cSumB cSumN sumFrom
  rw [if_pos (by omega)]
  unfold sumFrom
  simp
theorem pAdd_one {nl : Nat} {S : LS} {most : Int} {L : List Env} {e : Env} (hc : ∀ x ∈ L, x.client ≠ e.client) (hn : e.nonce = 0) (hnx : lNextV nl S e.client = 0) (hfr : aFree nl S.xs e.client 1 = 1000) (hf0 : 0 < e.fee) (hf1 : e.fee ≤ 1000) :
    pAddV nl S most L true e = if most ≤ (L.length : Int) then (if bst L L.length < 0 ∨ e.fee ≤ (L.getD (bst L L.length).toNat Env.zero).fee then (11, L) else (0, L.eraseIdx (bst L L.length).toNat ++ [e])) else (0, L ++ [e]) := by
  unfold pAddV
  obtain ⟨h1, h2⟩ := cSum_one (a := e.fee) (by omega)
  rw [if_neg (by decide), tkn_no hc, if_neg (by decide), hnx, hn, if_neg (by omega), fsE_no hc, h1, h2, hfr, if_neg (by intro q; rcases q with q | q | q <;> first | omega | cases q)]
theorem pAdd_tkn {nl : Nat} {S : LS} {most : Int} {L : List Env} {e : Env} (h : e ∈ L) : pAddV nl S most L true e = (10, L) := by
  unfold pAddV
  rw [if_neg (by decide), tkn_self h, if_pos rfl]
/-! Envelopes that are made one behind the other, each of a client of its own. -/
def me (φ : Nat → Int) (i : Nat) : Env := ⟨i, 0, φ i, (i : Int) + 1⟩
def ml (φ : Nat → Int) (n : Nat) : List Env := (List.range n).map (me φ)
theorem ml_succ (φ : Nat → Int) (n : Nat) : ml φ (n + 1) = ml φ n ++ [me φ n] := by simp [ml, List.range_succ]
theorem ml_len (φ : Nat → Int) (n : Nat) : (ml φ n).length = n := by simp [ml]
theorem me_inj {φ : Nat → Int} {i k : Nat} (h : me φ i = me φ k) : i = k := by
  have : ((i : Nat) : Int) = (k : Nat) := congrArg Env.client h
  exact Int.ofNat.inj this
theorem me_mem {φ : Nat → Int} {n k : Nat} : me φ k ∈ ml φ n ↔ k < n := by
  unfold ml
  rw [List.mem_map]
  constructor
  · rintro ⟨a, ha, hak⟩
    rw [← me_inj hak]
    exact List.mem_range.1 ha
  · intro h
    exact ⟨k, List.mem_range.2 h, rfl⟩
theorem mem_ml {φ : Nat → Int} {n : Nat} {x : Env} : x ∈ ml φ n ↔ ∃ k, k < n ∧ x = me φ k := by
  unfold ml
  rw [List.mem_map]
  exact ⟨fun ⟨a, h, q⟩ => ⟨a, List.mem_range.1 h, q.symm⟩, fun ⟨a, h, q⟩ => ⟨a, List.mem_range.2 h, q.symm⟩⟩
theorem me_ok {φ : Nat → Int} {k : Nat} (hk : k ≤ 1000) (h : U (φ k)) : (me φ k).Ok := by
  refine ⟨⟨?_, ?_⟩, ⟨?_, ?_⟩, h, ⟨?_, ?_⟩⟩ <;> simp only [me] <;> omega
theorem ml_ins (φ : Nat → Int) (n : Nat) : eIns (ml φ n) (me φ n) = ml φ (n + 1) := by
  unfold eIns
  rw [if_neg (fun h => by have := me_mem.1 h; omega), ml_succ]
theorem ePos_ml {φ : Nat → Int} : ∀ {n k : Nat}, k < n → ePos (ml φ n) (me φ k) = (k : Int) + 1
  | 0, k, h => by omega
  | n + 1, k, h => by
    by_cases q : k < n
    · rw [← ml_ins, ePos_ins (me_mem.2 q)]
      exact ePos_ml q
    · have e : k = n := by omega
      subst e
      unfold ePos
      rw [if_pos (me_mem.2 (by omega)), ml_succ, List.idxOf_append, if_neg (fun h => by have := me_mem.1 h; omega), ml_len]
      simp
structure DW (φ : Nat → Int) (W : WS) (n : Nat) : Prop where
  T : W.T = ml φ n
  L : W.L.length = n
  kn : ∀ k, k < n → Known W (me φ k)
theorem DW.make {φ : Nat → Int} {W : WS} {n : Nat} (h : DW φ W n) (s : Nat) : DW φ (mkW W (me φ n) s) (n + 1) := by
  refine ⟨?_, ?_, fun k hk => ?_⟩
  · show eIns W.T (me φ n) = _
    rw [h.T, ml_ins]
  · show (W.L ++ _).length = _
    rw [List.length_append, h.L]; rfl
  · by_cases q : k < n
    · exact (h.kn k q).make _ _
    · have e : k = n := by omega
      subst e
      exact Known.new _ _ _
theorem DW.e {φ : Nat → Int} {W : WS} {n : Nat} (h : DW φ W n) (f : Int) (hf : φ n = f) : me φ n = ⟨n, 0, f, (W.L.length : Int) + 1⟩ := by
  rw [h.L, ← hf]; rfl
/-! Dropped and left. -/
def zsD (b : Nat → Bool) (n : Nat) : List Int := ((List.range n).filter b).map (fun k : Nat => (k : Int) + 1)
def rsD (φ : Nat → Int) (b : Nat → Bool) (n : Nat) : List Env := ((List.range n).filter (fun k => !b k)).map (me φ)
def dsD (φ : Nat → Int) (b : Nat → Bool) (n : Nat) : List Env := ((List.range n).filter b).map (me φ)
theorem zsD_succ (b : Nat → Bool) (n : Nat) : zsD b (n + 1) = if b n = true then zsD b n ++ [(n : Int) + 1] else zsD b n := by
  unfold zsD
  rw [List.range_succ, List.filter_append]
  cases h : b n <;> simp [h]
theorem rsD_succ (φ : Nat → Int) (b : Nat → Bool) (n : Nat) : rsD φ b (n + 1) = if b n = true then rsD φ b n else rsD φ b n ++ [me φ n] := by
  unfold rsD
  rw [List.range_succ, List.filter_append]
  cases h : b n <;> simp [h]
theorem dsD_succ (φ : Nat → Int) (b : Nat → Bool) (n : Nat) : dsD φ b (n + 1) = if b n = true then dsD φ b n ++ [me φ n] else dsD φ b n := by
  unfold dsD
  rw [List.range_succ, List.filter_append]
  cases h : b n <;> simp [h]
theorem mem_rsD {φ : Nat → Int} {b : Nat → Bool} {n : Nat} {x : Env} : x ∈ rsD φ b n ↔ ∃ k, k < n ∧ b k = false ∧ x = me φ k := by
  unfold rsD
  simp only [List.mem_map, List.mem_filter, List.mem_range]
  constructor
  · rintro ⟨a, ⟨h1, h2⟩, h3⟩; exact ⟨a, h1, by simpa using h2, h3.symm⟩
  · rintro ⟨a, h1, h2, h3⟩; exact ⟨a, ⟨h1, by simp [h2]⟩, h3.symm⟩
theorem mem_dsD {φ : Nat → Int} {b : Nat → Bool} {n : Nat} {x : Env} : x ∈ dsD φ b n ↔ ∃ k, k < n ∧ b k = true ∧ x = me φ k := by
  unfold dsD
  simp only [List.mem_map, List.mem_filter, List.mem_range]
  constructor
  · rintro ⟨a, ⟨h1, h2⟩, h3⟩; exact ⟨a, h1, h2, h3.symm⟩
  · rintro ⟨a, h1, h2, h3⟩; exact ⟨a, ⟨h1, h2⟩, h3.symm⟩
theorem zsD_len (b : Nat → Bool) (n : Nat) : (zsD b n).length ≤ n := by
  unfold zsD
  rw [List.length_map]
  have := List.length_filter_le b (List.range n)
  rwa [List.length_range] at this
theorem rds_len (φ : Nat → Int) (b : Nat → Bool) (n : Nat) : (rsD φ b n).length + (dsD φ b n).length = n := by
  induction n with
  | zero => rfl
  | succ n ih =>
    rw [rsD_succ, dsD_succ]
    split <;> simp <;> omega
theorem dsD_le (φ : Nat → Int) (b : Nat → Bool) (i k : Nat) : (dsD φ b i).length ≤ (dsD φ b (i + k)).length := by
  induction k with
  | zero => exact Nat.le_refl _
  | succ k ih =>
    rw [show i + (k + 1) = (i + k) + 1 by omega, dsD_succ]
    split
    · simp; omega
    · exact ih
theorem drop_law (φ : Nat → Int) (b : Nat → Bool) (n : Nat) : ((ml φ n).filter fun x => !decide (ePos (ml φ n) x ∈ zsD b n)) = rsD φ b n := by
  have h : ∀ k ∈ List.range n, ((fun x => !decide (ePos (ml φ n) x ∈ zsD b n)) ∘ me φ) k = (fun k => !b k) k := by
    intro k hk
    have hk := List.mem_range.1 hk
    show (!decide (ePos (ml φ n) (me φ k) ∈ zsD b n)) = !b k
    rw [ePos_ml hk]
    congr 1
    cases hb : b k
    · rw [decide_eq_false_iff_not]
      intro hm
      unfold zsD at hm
      obtain ⟨a, ha, he⟩ := List.mem_map.1 hm
      have : a = k := by omega
      subst this
      rw [(List.mem_filter.1 ha).2] at hb
      cases hb
    · rw [decide_eq_true_eq]
      exact List.mem_map.2 ⟨k, List.mem_filter.2 ⟨List.mem_range.2 hk, hb⟩, rfl⟩
  conv => lhs; arg 2; unfold ml
  rw [List.filter_map, List.filter_congr h]
  rfl
theorem drop_none {φ : Nat → Int} {b : Nat → Bool} {n : Nat} (hn : n ≤ 1000) : ((rsD φ b n).filter fun x => !decide (ePos (ml φ n) x ∈ ([-1, 1099511627776] : List Int))) = rsD φ b n := by
  rw [List.filter_eq_self]
  intro x hx
  obtain ⟨k, hk, -, rfl⟩ := mem_rsD.1 hx
  rw [ePos_ml hk]
  simp
  omega
theorem again_law {φ : Nat → Int} {b : Nat → Bool} {n i : Nat} {nl : Nat} {S : LS} {most : Int} (hi : i < n) (hm : (n : Int) ≤ most) (hnx : lNextV nl S (i : Int) = 0) (hfr : aFree nl S.xs (i : Int) 1 = 1000) (hf0 : 0 < φ i) (hf1 : φ i ≤ 1000) :
    pAddV nl S most (rsD φ b n ++ dsD φ b i) true (me φ i) = (if b i = true then 0 else 10, rsD φ b n ++ dsD φ b (i + 1)) := by
  cases hb : b i
  · rw [dsD_succ, hb, if_neg (by decide), if_neg (by decide)]
    exact pAdd_tkn (List.mem_append.2 (.inl (mem_rsD.2 ⟨i, hi, hb, rfl⟩)))
  · have hl : (rsD φ b n ++ dsD φ b (i + 1)).length ≤ n := by
      have h1 := rds_len φ b n
      have h2 := dsD_le φ b (i + 1) (n - (i + 1))
      rw [show i + 1 + (n - (i + 1)) = n by omega] at h2
      rw [List.length_append]
      omega
    rw [dsD_succ, hb, if_pos rfl, List.length_append, List.length_append] at hl
    rw [dsD_succ, hb, if_pos rfl, if_pos rfl, pAdd_one _ rfl hnx hfr hf0 hf1, if_neg, List.append_assoc]
    · rw [List.length_append]
      simp only [List.length_cons, List.length_nil] at hl
      omega
    · intro x hx
      rcases List.mem_append.1 hx with h | h
      · obtain ⟨k, hk, hbk, rfl⟩ := mem_rsD.1 h
        intro q
        have : k = i := Int.ofNat.inj q
        subst this
        rw [hb] at hbk; cases hbk
      · obtain ⟨k, hk, hbk, rfl⟩ := mem_dsD.1 h
        intro q
        have : k = i := Int.ofNat.inj q
        omega
theorem add_law {φ : Nat → Int} {i : Nat} {nl : Nat} {S : LS} {most : Int} (hm : (i : Int) < most) (hnx : lNextV nl S (i : Int) = 0) (hfr : aFree nl S.xs (i : Int) 1 = 1000) (hf0 : 0 < φ i) (hf1 : φ i ≤ 1000) :
    pAddV nl S most (ml φ i) true (me φ i) = (0, ml φ (i + 1)) := by
  rw [pAdd_one _ rfl hnx hfr hf0 hf1, if_neg (by rw [ml_len]; omega), ml_succ]
  intro x hx
  obtain ⟨k, hk, rfl⟩ := mem_ml.1 hx
  intro q
  have : k = i := Int.ofNat.inj q
  omega
/-! The last of those with the least fee. -/
def kx (L : List Env) (j : Nat) : Nat := (bst L j).toNat
theorem kx_succ (L : List Env) (j : Nat) : kx L (j + 1) = if (L.getD j Env.zero).fee ≤ (L.getD (kx L j) Env.zero).fee then j else kx L j := by
  unfold kx
  have h := bst_rng L j
  conv => lhs; unfold bst
  rcases h with ⟨rfl, h⟩ | ⟨h1, h2⟩
  · rw [h, if_pos (.inl (by decide)), show (-1 : Int).toNat = 0 from rfl, if_pos (Int.le_refl _)]; rfl
  · by_cases q : (L.getD j Env.zero).fee ≤ (L.getD (bst L j).toNat Env.zero).fee
    · rw [if_pos (.inr q), if_pos q]; rfl
    · rw [if_neg (by rintro (z | z); omega; exact q z), if_neg q]
theorem kx_lt {L : List Env} {j : Nat} (h : 0 < j) : kx L j < j := by
  unfold kx
  rcases bst_rng L j with ⟨h1, _⟩ | ⟨h1, h2⟩ <;> omega
theorem kx_le (L : List Env) (j : Nat) : kx L j ≤ j := by
  unfold kx
  rcases bst_rng L j with ⟨h1, h2⟩ | ⟨h1, h2⟩
  · rw [h2]; exact Nat.zero_le _
  · omega
def SubM (φ : Nat → Int) (n : Nat) (L : List Env) : Prop := ∀ x ∈ L, ∃ k, k < n ∧ x = me φ k
theorem full_no {φ : Nat → Int} {i : Nat} {L : List Env} (h : SubM φ i L) : ∀ x ∈ L, x.client ≠ (me φ i).client := by
  intro x hx
  obtain ⟨k, hk, rfl⟩ := h x hx
  intro q
  have : k = i := Int.ofNat.inj q
  omega
theorem SubM.snoc {φ : Nat → Int} {i : Nat} {L L' : List Env} (h : SubM φ i L) (hs : ∀ x ∈ L', x ∈ L) : SubM φ (i + 1) (L' ++ [me φ i]) := by
  intro x hx
  rcases List.mem_append.1 hx with q | q
  · obtain ⟨k, hk, e⟩ := h x (hs x q)
    exact ⟨k, by omega, e⟩
  · exact ⟨i, by omega, by simpa using q⟩
theorem SubM.up {φ : Nat → Int} {i : Nat} {L : List Env} (h : SubM φ i L) : SubM φ (i + 1) L := fun x hx => by
  obtain ⟨k, hk, e⟩ := h x hx
  exact ⟨k, by omega, e⟩
/-- Room is left. -/
theorem full_room {φ : Nat → Int} {i : Nat} {L : List Env} {nl : Nat} {S : LS} {most : Int} (h : SubM φ i L) (hm : (L.length : Int) < most) (hnx : lNextV nl S (i : Int) = 0) (hfr : aFree nl S.xs (i : Int) 1 = 1000) (hf0 : 0 < φ i) (hf1 : φ i ≤ 1000) :
    pAddV nl S most L true (me φ i) = (0, L ++ [me φ i]) := by
  rw [pAdd_one (full_no h) rfl hnx hfr hf0 hf1, if_neg (by omega)]
theorem full_none {φ : Nat → Int} {i : Nat} {L : List Env} {nl : Nat} {S : LS} {most : Int} (h : SubM φ i L) (hp : 0 < most) (hm : most ≤ (L.length : Int)) (hnx : lNextV nl S (i : Int) = 0) (hfr : aFree nl S.xs (i : Int) 1 = 1000) (hf0 : 0 < φ i) (hf1 : φ i ≤ 1000) :
    pAddV nl S most L true (me φ i) = if φ i ≤ (L.getD (kx L L.length) Env.zero).fee then (11, L) else (0, (L.take (kx L L.length) ++ L.drop (kx L L.length + 1)) ++ [me φ i]) := by
  rw [pAdd_one (full_no h) rfl hnx hfr hf0 hf1, if_pos hm]
  have hl : ¬ bst L L.length < 0 := by
    rcases bst_rng L L.length with ⟨h1, _⟩ | ⟨h1, h2⟩ <;> omega
  unfold kx
  rw [← List.eraseIdx_eq_take_drop_succ]
  by_cases q : (me φ i).fee ≤ (L.getD (bst L L.length).toNat Env.zero).fee
  · rw [if_pos (.inr q), if_pos (by simpa [me] using q)]
  · rw [if_neg (by rintro (z | z); exact hl z; exact q z), if_neg (by simpa [me] using q)]
/-! What is chosen. -/
def Pr (x y : Env) : Prop := ¬ (x.client = y.client ∧ x.nonce = y.nonce)
def Ppw (L : List Env) : Prop := L.Pairwise Pr
theorem Ppw.nodup {L : List Env} (h : Ppw L) : L.Nodup := h.imp (fun {a b} q e => q (by rw [e]; exact ⟨rfl, rfl⟩))
theorem Ppw.sub {L M : List Env} (h : Ppw L) (s : M.Sublist L) : Ppw M := List.Pairwise.sublist s h
theorem lowst_spec {L : List Env} {e : Env} (h : lowst L e = true) : ∀ x ∈ L, x.client = e.client → e.nonce ≤ x.nonce := by
  intro x hx hc
  unfold lowst at h
  have h1 : L.any (lowr e) = false := by simpa using h
  rw [List.any_eq_false] at h1
  have h2 := h1 x hx
  unfold lowr at h2
  simp only [Bool.and_eq_true, decide_eq_true_eq, not_and] at h2
  have := h2 hc
  omega
theorem bat_step {L : List Env} (h : L ≠ []) : ∃ j, j < L.length ∧ idxE (lowst L) L = (j : Nat) ∧ lowst L (L.getD j Env.zero) = true := by
  obtain ⟨j, h1, h2⟩ := first_some h
  rcases idxE_cases (lowst L) L with ⟨q1, q2⟩ | ⟨k, k1, k2, k3, _⟩
  · rw [q2] at h2; omega
  · have : k = j := by omega
    subst this
    exact ⟨k, h1, h2, k3⟩
theorem bat_len : ∀ (k : Nat) (L : List Env), (bat k L).length = min k L.length
  | 0, L => by simp [bat]
  | k + 1, L => by
    by_cases h : L = []
    · subst h; simp [bat]
    · rw [bat_succ k h]
      obtain ⟨j, h1, h2⟩ := first_some h
      rw [List.length_cons, bat_len k, h2, Int.toNat_natCast, List.length_eraseIdx, if_pos h1]
      omega
theorem bat_sub : ∀ (k : Nat) (L : List Env), ∀ x ∈ bat k L, x ∈ L
  | 0, L, x, hx => by simp [bat] at hx
  | k + 1, L, x, hx => by
    by_cases h : L = []
    · subst h; rw [bat_nil] at hx; exact hx
    · rw [bat_succ k h] at hx
      obtain ⟨j, h1, h2⟩ := first_some h
      rw [h2, Int.toNat_natCast] at hx
      rcases List.mem_cons.1 hx with q | q
      · rw [q]; exact getD_memE h1
      · exact List.mem_of_mem_eraseIdx (bat_sub k _ x q)
theorem bat_rise : ∀ (k : Nat) (L : List Env), Ppw L → (bat k L).Pairwise (fun x y => x.client = y.client → x.nonce < y.nonce)
  | 0, L, _ => by simp [bat]
  | k + 1, L, hp => by
    by_cases h : L = []
    · subst h; rw [bat_nil]; exact .nil
    · rw [bat_succ k h]
      obtain ⟨j, h1, h2, h3⟩ := bat_step h
      rw [h2, Int.toNat_natCast]
      refine List.pairwise_cons.2 ⟨fun y hy hc => ?_, bat_rise k _ (hp.sub (List.eraseIdx_sublist _ _))⟩
      have hy2 := bat_sub k _ y hy
      have hyL := List.mem_of_mem_eraseIdx hy2
      have h4 := lowst_spec h3 y hyL hc.symm
      have h5 : (L.getD j Env.zero).nonce ≠ y.nonce := by
        intro hn
        have hsp : L = L.take j ++ L.getD j Env.zero :: L.drop (j + 1) := by
          rw [show L.getD j Env.zero = L[j] by simp [List.getD, h1]]
          rw [List.getElem_cons_drop, List.take_append_drop]
        rw [List.eraseIdx_eq_take_drop_succ] at hy2
        have hp2 : Ppw (L.take j ++ L.getD j Env.zero :: L.drop (j + 1)) := by rw [← hsp]; exact hp
        unfold Ppw at hp2
        rw [List.pairwise_append, List.pairwise_cons] at hp2
        rcases List.mem_append.1 hy2 with q | q
        · exact hp2.2.2 y q _ (by simp) ⟨hc.symm, hn.symm⟩
        · exact hp2.2.1.1 y q ⟨hc, hn⟩
      omega
theorem Ppw.add {nl : Nat} {S : LS} {most : Int} {L : List Env} {e : Env} {r : Int × List Env} (h : Ppw L) (hr : pAddV nl S most L true e = r) : Ppw r.2 ∧ (∀ x ∈ r.2, x ∈ L ∨ x = e) := by
  subst hr
  unfold pAddV
  rw [if_neg (by decide)]
  split
  · exact ⟨h, fun x hx => .inl hx⟩
  · rename_i ht
    have hn : ∀ x ∈ L, Pr x e := by
      intro x hx q
      refine ht (List.any_eq_true.2 ⟨x, hx, ?_⟩)
      unfold tkn
      simp [q.1, q.2]
    have key : ∀ M : List Env, M.Sublist L → Ppw (M ++ [e]) := fun M s => by
      unfold Ppw
      rw [List.pairwise_append]
      exact ⟨h.sub s, List.pairwise_singleton _ _, fun x hx y hy => by rw [List.mem_singleton.1 hy]; exact hn x (s.subset hx)⟩
    split
    · exact ⟨h, fun x hx => .inl hx⟩
    · split
      · exact ⟨h, fun x hx => .inl hx⟩
      · split
        · split
          · exact ⟨h, fun x hx => .inl hx⟩
          · refine ⟨key _ (List.eraseIdx_sublist _ _), fun x hx => ?_⟩
            rcases List.mem_append.1 hx with q | q
            · exact .inl (List.mem_of_mem_eraseIdx q)
            · exact .inr (by simpa using q)
        · refine ⟨key _ (List.Sublist.refl _), fun x hx => ?_⟩
          rcases List.mem_append.1 hx with q | q
          · exact .inl q
          · exact .inr (by simpa using q)
theorem pAdd_len {nl : Nat} {S : LS} {most : Int} {L : List Env} {e : Env} {r : Int × List Env} (h : (L.length : Int) ≤ most) (hr : pAddV nl S most L true e = r) : (r.2.length : Int) ≤ most ∧ r.2.length ≤ L.length + 1 := by
  subst hr
  unfold pAddV
  rw [if_neg (by decide)]
  split
  · exact ⟨h, Nat.le_succ _⟩
  split
  · exact ⟨h, Nat.le_succ _⟩
  split
  · exact ⟨h, Nat.le_succ _⟩
  split
  · rename_i hm
    split
    · exact ⟨h, Nat.le_succ _⟩
    · rename_i hb
      have h0 : (bst L L.length).toNat < L.length := by
        rcases bst_rng L L.length with ⟨h1, h2⟩ | ⟨h1, h2⟩
        · exact absurd (.inl (by omega)) hb
        · omega
      simp only [List.length_append, List.length_eraseIdx, if_pos h0, List.length_cons, List.length_nil]
      omega
  · rename_i hm
    simp only [List.length_append, List.length_cons, List.length_nil]
    omega
/-! Those that are skipped, by their places. -/
def zsB (T L : List Env) (b : Nat → Bool) (n : Nat) : List Int := ((List.range n).filter b).map (fun k => ePos T (L.getD k Env.zero))
def rsB (L : List Env) (b : Nat → Bool) (n : Nat) : List Env := ((List.range n).filter (fun k => !b k)).map (fun k => L.getD k Env.zero)
theorem zsB_succ (T L : List Env) (b : Nat → Bool) (n : Nat) : zsB T L b (n + 1) = if b n = true then zsB T L b n ++ [ePos T (L.getD n Env.zero)] else zsB T L b n := by
  unfold zsB
  rw [List.range_succ, List.filter_append]
  cases h : b n <;> simp [h]
theorem rsB_succ (L : List Env) (b : Nat → Bool) (n : Nat) : rsB L b (n + 1) = if b n = true then rsB L b n else rsB L b n ++ [L.getD n Env.zero] := by
  unfold rsB
  rw [List.range_succ, List.filter_append]
  cases h : b n <;> simp [h]
theorem zsB_len (T L : List Env) (b : Nat → Bool) (n : Nat) : (zsB T L b n).length ≤ n := by
  unfold zsB
  rw [List.length_map]
  have := List.length_filter_le b (List.range n)
  rwa [List.length_range] at this
theorem rsB_len (L : List Env) (b : Nat → Bool) (n : Nat) : (rsB L b n).length ≤ n := by
  unfold rsB
  rw [List.length_map]
  have := List.length_filter_le (fun k => !b k) (List.range n)
  rwa [List.length_range] at this
theorem range_getD (L : List Env) : (List.range L.length).map (fun k => L.getD k Env.zero) = L := by
  apply List.ext_getElem
  · simp
  · intro i h1 h2
    simp [List.getD, h2]
theorem ePos_inj {T : List Env} {x y : Env} (hx : x ∈ T) (hy : y ∈ T) (h : ePos T x = ePos T y) : x = y := by
  unfold ePos at h
  rw [if_pos hx, if_pos hy] at h
  have h1 : T.idxOf x = T.idxOf y := by omega
  have h2 := List.getElem_idxOf (List.idxOf_lt_length_of_mem hx)
  have h3 := List.getElem_idxOf (List.idxOf_lt_length_of_mem hy)
  simp only [h1] at h2
  exact h2.symm.trans h3
theorem getD_inj {L : List Env} (h : L.Nodup) {i j : Nat} (hi : i < L.length) (hj : j < L.length) (e : L.getD i Env.zero = L.getD j Env.zero) : i = j := by
  simp only [List.getD, List.getElem?_eq_getElem hi, List.getElem?_eq_getElem hj, Option.getD_some] at e
  have hp := List.pairwise_iff_getElem.1 h
  rcases Nat.lt_trichotomy i j with q | q | q
  · exact absurd e (hp i j hi hj q)
  · exact q
  · exact absurd e.symm (hp j i hj hi q)
theorem skip_law {T L : List Env} (hn : L.Nodup) (hT : ∀ x ∈ L, x ∈ T) (b : Nat → Bool) : (L.filter fun x => !decide (ePos T x ∈ zsB T L b L.length)) = rsB L b L.length := by
  have h : ∀ k ∈ List.range L.length, ((fun x => !decide (ePos T x ∈ zsB T L b L.length)) ∘ (fun k => L.getD k Env.zero)) k = (fun k => !b k) k := by
    intro k hk
    have hk := List.mem_range.1 hk
    show (!decide (ePos T (L.getD k Env.zero) ∈ zsB T L b L.length)) = !b k
    congr 1
    cases hb : b k
    · rw [decide_eq_false_iff_not]
      intro hm
      unfold zsB at hm
      obtain ⟨a, ha, he⟩ := List.mem_map.1 hm
      have ha1 := List.mem_range.1 (List.mem_filter.1 ha).1
      have : a = k := getD_inj hn ha1 hk (ePos_inj (hT _ (getD_memE ha1)) (hT _ (getD_memE hk)) he)
      subst this
      rw [(List.mem_filter.1 ha).2] at hb
      cases hb
    · rw [decide_eq_true_eq]
      exact List.mem_map.2 ⟨k, List.mem_filter.2 ⟨List.mem_range.2 hk, hb⟩, rfl⟩
  conv => lhs; arg 2; rw [← range_getD L]
  rw [List.filter_map, List.filter_congr h]
  rfl
theorem rsB_mem {L : List Env} {b : Nat → Bool} {n : Nat} {x : Env} (h : x ∈ rsB L b n) : ∃ k, k < n ∧ b k = false ∧ L.getD k Env.zero = x := by
  unfold rsB at h
  obtain ⟨a, ha, he⟩ := List.mem_map.1 h
  obtain ⟨h1, h2⟩ := List.mem_filter.1 ha
  exact ⟨a, List.mem_range.1 h1, by simpa using h2, he⟩
theorem rsB_sub {L : List Env} {b : Nat → Bool} : (rsB L b L.length).Sublist L := by
  have h : (((List.range L.length).filter (fun k => !b k)).map (fun k => L.getD k Env.zero)).Sublist ((List.range L.length).map (fun k => L.getD k Env.zero)) := (List.filter_sublist).map _
  rw [range_getD] at h
  exact h
end Go.Proofs.Yteabcpmpcbjicaa
