
import Derived.Test.YteabcpmpcbjicaaPool9
namespace Go.Proofs.Yteabcpmpcbjicaa
set_option linter.unusedVariables false
set_option maxRecDepth 100000
open Go Go.Proofs Go.RowKit Go.Maps

/-! What Add does of one whose client waits nowhere. -/
theorem tkn_no {L : List Env} {e : Env} (h : ∀ x ∈ L, x.client ≠ e.client) : L.any (tkn e) = false := by
  rw [List.any_eq_false]
  intro x hx
  have h1 := h x hx
  have h2 : x ≠ e := fun q => h1 (by rw [q])
  unfold tkn
  simp [h1, h2]
theorem tkn_self {L : List Env} {e : Env} (h : e ∈ L) : L.any (tkn e) = true := List.any_eq_true.2 ⟨e, h, by unfold tkn; simp⟩
theorem fsE_no {L : List Env} {e : Env} (h : ∀ x ∈ L, x.client ≠ e.client) : fsE e L = [e.fee] := by
  unfold fsE
  rw [List.filter_eq_nil_iff.2 (fun x hx => by simp [h x hx])]
  rfl
theorem cSum_one {a : Int} (h : a < 18446744073709551616) : cSumB [a] = true ∧ cSumN [a] = a := by
  unfold cSumB cSumN sumFrom
  rw [if_pos (by omega)]
  unfold sumFrom
  simp
theorem pAdd_one {nl : Nat} {S : LS} {most : Int} {L : List Env} {e : Env} (hc : ∀ x ∈ L, x.client ≠ e.client) (hn : e.nonce = 0) (hnx : lNextV nl S e.client = 0) (hfr : aFree nl S.xs e.client 1 = 1000) (hf0 : 0 < e.fee) (hf1 : e.fee ≤ 1000) :
    pAddV nl S most L true e = if most ≤ (L.length : Int) then (if bst L L.length < 0 ∨ e.fee ≤ (L.getD (bst L L.length).toNat Env.zero).fee then (11, L) else (0, L.eraseIdx (bst L L.length).toNat ++ [e])) else (0, L ++ [e]) := by
  unfold pAddV
  obtain ⟨h1, h2⟩ := cSum_one (a := e.fee) (by omega)
  rw [if_neg (by decide), tkn_no hc, if_neg (by decide), hnx, hn, if_neg (by omega), fsE_no hc, h1, h2, hfr, if_neg (by intro q; rcases q with q | q | q <;> first | omega | cases q)]
theorem pAdd_tkn {nl : Nat} {S : LS} {most : Int} {L : List Env} {e : Env} (h : e ∈ L) : pAddV nl S most L true e = (10, L) := by
  unfold pAddV
  rw [if_neg (by decide), tkn_self h, if_pos rfl]
/-! Envelopes that are made one behind the other, each of a client of its own. -/
def me (φ : Nat → Int) (i : Nat) : Env := ⟨i, 0, φ i, (i : Int) + 1⟩
def ml (φ : Nat → Int) (n : Nat) : List Env := (List.range n).map (me φ)
theorem ml_succ (φ : Nat → Int) (n : Nat) : ml φ (n + 1) = ml φ n ++ [me φ n] := by simp [ml, List.range_succ]
theorem ml_len (φ : Nat → Int) (n : Nat) : (ml φ n).length = n := by simp [ml]
theorem me_inj {φ : Nat → Int} {i k : Nat} (h : me φ i = me φ k) : i = k := by
  have : ((i : Nat) : Int) = (k : Nat) := congrArg Env.client h
  exact Int.ofNat.inj this
theorem me_mem {φ : Nat → Int} {n k : Nat} : me φ k ∈ ml φ n ↔ k < n := by
  unfold ml
  rw [List.mem_map]
  constructor
  · rintro ⟨a, ha, hak⟩
    rw [← me_inj hak]
    exact List.mem_range.1 ha
  · intro h
    exact ⟨k, List.mem_range.2 h, rfl⟩
theorem mem_ml {φ : Nat → Int} {n : Nat} {x : Env} : x ∈ ml φ n ↔ ∃ k, k < n ∧ x = me φ k := by
  unfold ml
  rw [List.mem_map]
  exact ⟨fun ⟨a, h, q⟩ => ⟨a, List.mem_range.1 h, q.symm⟩, fun ⟨a, h, q⟩ => ⟨a, List.mem_range.2 h, q.symm⟩⟩
theorem me_ok {φ : Nat → Int} {k : Nat} (hk : k ≤ 1000) (h : U (φ k)) : (me φ k).Ok := by
  refine ⟨⟨?_, ?_⟩, ⟨?_, ?_⟩, h, ⟨?_, ?_⟩⟩ <;> simp only [me] <;> omega
theorem ml_ins (φ : Nat → Int) (n : Nat) : eIns (ml φ n) (me φ n) = ml φ (n + 1) := by
  unfold eIns
  rw [if_neg (fun h => by have := me_mem.1 h; omega), ml_succ]
theorem ePos_ml {φ : Nat → Int} : ∀ {n k : Nat}, k < n → ePos (ml φ n) (me φ k) = (k : Int) + 1
  | 0, k, h => by omega
  | n + 1, k, h => by
    by_cases q : k < n
    · rw [← ml_ins, ePos_ins (me_mem.2 q)]
      exact ePos_ml q
    · have e : k = n := by omega
      subst e
      unfold ePos
      rw [if_pos (me_mem.2 (by omega)), ml_succ, List.idxOf_append, if_neg (fun h => by have := me_mem.1 h; omega), ml_len]
      simp
structure DW (φ : Nat → Int) (W : WS) (n : Nat) : Prop where
  T : W.T = ml φ n
  L : W.L.length = n
  kn : ∀ k, k < n → Known W (me φ k)
theorem DW.make {φ : Nat → Int} {W : WS} {n : Nat} (h : DW φ W n) (s : Nat) : DW φ (mkW W (me φ n) s) (n + 1) := by
  refine ⟨?_, ?_, fun k hk => ?_⟩
  · show eIns W.T (me φ n) = _
    rw [h.T, ml_ins]
  · show (W.L ++ _).length = _
    rw [List.length_append, h.L]; rfl
  · by_cases q : k < n
    · exact (h.kn k q).make _ _
    · have e : k = n := by omega
      subst e
      exact Known.new _ _ _
theorem DW.e {φ : Nat → Int} {W : WS} {n : Nat} (h : DW φ W n) (f : Int) (hf : φ n = f) : me φ n = ⟨n, 0, f, (W.L.length : Int) + 1⟩ := by
  rw [h.L, ← hf]; rfl
/-! The last of those with the least fee. -/
def kx (L : List Env) (j : Nat) : Nat := (bst L j).toNat
theorem kx_succ (L : List Env) (j : Nat) : kx L (j + 1) = if (L.getD j Env.zero).fee ≤ (L.getD (kx L j) Env.zero).fee then j else kx L j := by
  unfold kx
  have h := bst_rng L j
  conv => lhs; unfold bst
  rcases h with ⟨rfl, h⟩ | ⟨h1, h2⟩
  · rw [h, if_pos (.inl (by decide)), show (-1 : Int).toNat = 0 from rfl, if_pos (Int.le_refl _)]; rfl
  · by_cases q : (L.getD j Env.zero).fee ≤ (L.getD (bst L j).toNat Env.zero).fee
    · rw [if_pos (.inr q), if_pos q]; rfl
    · rw [if_neg (by rintro (z | z); omega; exact q z), if_neg q]
theorem kx_lt {L : List Env} {j : Nat} (h : 0 < j) : kx L j < j := by
  unfold kx
  rcases bst_rng L j with ⟨h1, _⟩ | ⟨h1, h2⟩ <;> omega
theorem kx_le (L : List Env) (j : Nat) : kx L j ≤ j := by
  unfold kx
  rcases bst_rng L j with ⟨h1, h2⟩ | ⟨h1, h2⟩
  · rw [h2]; exact Nat.zero_le _
  · omega
def SubM (φ : Nat → Int) (n : Nat) (L : List Env) : Prop := ∀ x ∈ L, ∃ k, k < n ∧ x = me φ k
theorem full_no {φ : Nat → Int} {i : Nat} {L : List Env} (h : SubM φ i L) : ∀ x ∈ L, x.client ≠ (me φ i).client := by
  intro x hx
  obtain ⟨k, hk, rfl⟩ := h x hx
  intro q
  have : k = i := Int.ofNat.inj q
  omega
theorem SubM.snoc {φ : Nat → Int} {i : Nat} {L L' : List Env} (h : SubM φ i L) (hs : ∀ x ∈ L', x ∈ L) : SubM φ (i + 1) (L' ++ [me φ i]) := by
  intro x hx
  rcases List.mem_append.1 hx with q | q
  · obtain ⟨k, hk, e⟩ := h x (hs x q)
    exact ⟨k, by omega, e⟩
  · exact ⟨i, by omega, by simpa using q⟩
theorem SubM.up {φ : Nat → Int} {i : Nat} {L : List Env} (h : SubM φ i L) : SubM φ (i + 1) L := fun x hx => by
  obtain ⟨k, hk, e⟩ := h x hx
  exact ⟨k, by omega, e⟩
/-- Room is left. -/
theorem full_room {φ : Nat → Int} {i : Nat} {L : List Env} {nl : Nat} {S : LS} {most : Int} (h : SubM φ i L) (hm : (L.length : Int) < most) (hnx : lNextV nl S (i : Int) = 0) (hfr : aFree nl S.xs (i : Int) 1 = 1000) (hf0 : 0 < φ i) (hf1 : φ i ≤ 1000) :
    pAddV nl S most L true (me φ i) = (0, L ++ [me φ i]) := by
  rw [pAdd_one (full_no h) rfl hnx hfr hf0 hf1, if_neg (by omega)]
theorem full_none {φ : Nat → Int} {i : Nat} {L : List Env} {nl : Nat} {S : LS} {most : Int} (h : SubM φ i L) (hp : 0 < most) (hm : most ≤ (L.length : Int)) (hnx : lNextV nl S (i : Int) = 0) (hfr : aFree nl S.xs (i : Int) 1 = 1000) (hf0 : 0 < φ i) (hf1 : φ i ≤ 1000) :
    pAddV nl S most L true (me φ i) = if φ i ≤ (L.getD (kx L L.length) Env.zero).fee then (11, L) else (0, (L.take (kx L L.length) ++ L.drop (kx L L.length + 1)) ++ [me φ i]) := by
  rw [pAdd_one (full_no h) rfl hnx hfr hf0 hf1, if_pos hm]
  have hl : ¬ bst L L.length < 0 := by
    rcases bst_rng L L.length with ⟨h1, _⟩ | ⟨h1, h2⟩ <;> omega
  unfold kx
  rw [← List.eraseIdx_eq_take_drop_succ]
  by_cases q : (me φ i).fee ≤ (L.getD (bst L L.length).toNat Env.zero).fee
  · rw [if_pos (.inr q), if_pos (by simpa [me] using q)]
  · rw [if_neg (by rintro (z | z); exact hl z; exact q z), if_neg (by simpa [me] using q)]
end Go.Proofs.Yteabcpmpcbjicaa
