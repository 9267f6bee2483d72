
import Derived.Test.YteabcpmpcbjicaaExS2
import Derived.Test.YteabcpmpcbjicaaShell
import Derived.BigQuiet
import Derived.Deep.CutBlock
namespace Go.Proofs.Yteabcpmpcbjicaa
set_option linter.unusedVariables false
open Go Go.Proofs Go.RowKit
attribute [local go_sem ↓] Go.wp_at_zero Go.wp_at_succ

/-- A step's six cells, in this and later worlds. -/
structure Step10 (w : World) (b o : Nat) (kd cl id : Int) (by' : Bool) (p q : Int) : Prop where
  c : ∀ wr, Below w.heap.size w wr → wr.cell? ⟨b, o, none⟩ = some (.int .i64 kd) ∧ wr.cell? ⟨b, o + 1, none⟩ = some (.int .i64 cl) ∧ wr.cell? ⟨b, o + 2, none⟩ = some (.int .i64 id) ∧
    wr.cell? ⟨b, o + 3, none⟩ = some (.bool by') ∧ wr.cell? ⟨b, o + 4, none⟩ = some (.int .u64 p) ∧ wr.cell? ⟨b, o + 5, none⟩ = some (.int .u64 q)
theorem SRec.step10 {w : World} {a : Option Addr} {len cap : Nat} (h : SRec [some .i64, some .i64, some .i64, none, some .u64, some .u64] w a len cap) {i : Nat} (hi : i < len) :
    ∃ b off kd cl id by' p q, a = some ⟨b, off, none⟩ ∧ I kd ∧ I cl ∧ I id ∧ U p ∧ U q ∧ Step10 w b (off + i * 6) kd cl id by' p q := by
  obtain ⟨b, off, ha, hc⟩ := h.at hi
  obtain ⟨v0, c0, f0⟩ := hc 0 _ rfl
  obtain ⟨v1, c1, f1⟩ := hc 1 _ rfl
  obtain ⟨v2, c2, f2⟩ := hc 2 _ rfl
  obtain ⟨v3, c3, f3⟩ := hc 3 _ rfl
  obtain ⟨v4, c4, f4⟩ := hc 4 _ rfl
  obtain ⟨v5, c5, f5⟩ := hc 5 _ rfl
  obtain ⟨x0, rfl, h0⟩ := fits_i64 f0
  obtain ⟨x1, rfl, h1⟩ := fits_i64 f1
  obtain ⟨x2, rfl, h2⟩ := fits_i64 f2
  obtain ⟨x3, rfl⟩ := f3
  obtain ⟨x4, rfl, h4⟩ := fits_u64 f4
  obtain ⟨x5, rfl, h5⟩ := fits_u64 f5
  exact ⟨b, off, x0, x1, x2, x3, x4, x5, ha, h0, h1, h2, h4, h5, ⟨fun wr hb => ⟨below_cell hb c0, below_cell hb c1, below_cell hb c2, below_cell hb c3, below_cell hb c4, below_cell hb c5⟩⟩⟩
/-- Four clients with a hundred of each, after so many puts. -/
def pre4 : Nat → List Int
  | 0 => [0, 0, 0, 0, 0, 0, 0, 0]
  | j + 1 => aPut 4 (pre4 j) ((j % 4 : Nat) : Int) ((j / 4 : Nat) : Int) 100
theorem pre4_all : pre4 8 = [100, 100, 100, 100, 100, 100, 100, 100] := by decide
theorem Sok.start : Sok [100, 100, 100, 100, 100, 100, 100, 100] [] [] :=
  ⟨⟨rfl, by omega, by simp [U]⟩, by decide, by decide⟩
/-- What trades may be: of the price that was named, of who asked. -/
def TFair (b : Bool) (p c : Int) (T : List Trd) : Prop := ∀ t ∈ T, (b = true → t.price ≤ p ∧ t.buyer = c) ∧ (b = false → p ≤ t.price ∧ t.seller = c)
theorem EOk.fair {n : Nat} {L M : List Ord} {k : Nat} (h : EOk n L M k) (o : Ord) : TFair o.buy o.price o.client (mres o L M).1 := by
  intro t ht
  have hq : ∀ Q : List Ord, (∀ x ∈ Q, x ∈ L ++ M) → t ∈ (mch o o.qty Q).1 → (o.buy = true → t.price ≤ o.price ∧ t.buyer = o.client) ∧ (o.buy = false → o.price ≤ t.price ∧ t.seller = o.client) := fun Q hQ ht => by
    obtain ⟨x, hx, m, h1, h2, rfl, h4⟩ := mch_trades (fun x hx => (h.oin x (hQ x hx)).2.1) _ t ht
    unfold meet at h4
    unfold trd
    cases hb : o.buy
    · rw [hb] at h4
      simp only [Bool.false_eq_true, if_false] at h4 ⊢
      exact ⟨by simp, fun _ => ⟨of_decide_eq_true h4, by trivial⟩⟩
    · rw [hb] at h4
      simp only [if_true] at h4 ⊢
      exact ⟨fun _ => ⟨of_decide_eq_true h4, by trivial⟩, by simp⟩
  unfold mres at ht
  split at ht
  · exact hq M (by simp +contextual) ht
  · exact hq L (by simp +contextual) ht
theorem mtE_zero {n : Nat} {xs : List Int} {c : Int} {b : Bool} {p q : Int} (hE : mtE n xs c b p q = 0) (i : Int) : aHas n c = true ∧ (wIn p && wIn q) = true ∧ aTakeE n xs c (lockA ⟨i, c, b, p, q⟩) (lockN ⟨i, c, b, p, q⟩) = 0 := by
  unfold mtE at hE
  split at hE
  · rename_i h1
    split at hE
    · rename_i h2
      split at hE
      · rename_i h3; exact ⟨h1, h2, h3⟩
      · omega
    · omega
  · omega
/-- What the first clients have, free and locked, of an asset. -/
def psum (k : Int) (xs : List Int) (L M : List Ord) : Nat → Int
  | 0 => 0
  | j + 1 => psum k xs L M j + aFree 4 xs (j : Int) k + (lkd (j : Int) k L + lkd (j : Int) k M)
theorem aFree_get {xs : List Int} {j : Nat} {k : Int} (hj : j < 4) (hk : aAsset k = true) : aFree 4 xs (j : Int) k = aGet xs (j : Int) k := by
  unfold aFree; rw [if_pos (aErr_ok (by unfold aHas; simp; omega) hk)]
theorem psum_four {k : Int} (hk : k = 0 ∨ k = 1) {xs : List Int} {L M : List Ord} {kk : Nat} (h : Sok xs L M) (ok : EOk 4 L M kk) : psum k xs L M 4 = 400 := by
  have hA : aAsset k = true := by rcases hk with rfl | rfl <;> rfl
  have hL : lkd ((0 : Nat) : Int) k L + lkd ((1 : Nat) : Int) k L + lkd ((2 : Nat) : Int) k L + lkd ((3 : Nat) : Int) k L = lks k L := lkd_four fun o ho => (ok.oin o (by simp [ho])).2.2
  have hM : lkd ((0 : Nat) : Int) k M + lkd ((1 : Nat) : Int) k M + lkd ((2 : Nat) : Int) k M + lkd ((3 : Nat) : Int) k M = lks k M := lkd_four fun o ho => (ok.oin o (by simp [ho])).2.2
  have f0 := aFree_get (xs := xs) (j := 0) (by omega) hA
  have f1 := aFree_get (xs := xs) (j := 1) (by omega) hA
  have f2 := aFree_get (xs := xs) (j := 2) (by omega) hA
  have f3 := aFree_get (xs := xs) (j := 3) (by omega) hA
  have hs : col4 k xs + (lks k L + lks k M) = 400 := by
    rw [← lks_append]
    rcases hk with rfl | rfl
    · exact h.s0
    · exact h.s1
  have hs' : aGet xs ((0 : Nat) : Int) k + aGet xs ((1 : Nat) : Int) k + aGet xs ((2 : Nat) : Int) k + aGet xs ((3 : Nat) : Int) k + (lks k L + lks k M) = 400 := hs
  simp only [psum]
  rw [f0, f1, f2, f3]
  omega
theorem psum_in {k : Int} (hk : k = 0 ∨ k = 1) {xs : List Int} {L M : List Ord} {kk : Nat} (h : Sok xs L M) (ok : EOk 4 L M kk) : ∀ j : Nat, j < 4 → 0 ≤ psum k xs L M j ∧ 0 ≤ aFree 4 xs (j : Int) k ∧ 0 ≤ lkd (j : Int) k L + lkd (j : Int) k M ∧ psum k xs L M j + aFree 4 xs (j : Int) k + (lkd (j : Int) k L + lkd (j : Int) k M) ≤ 400 := by
  have h4 := psum_four hk h ok
  have hA : aAsset k = true := by rcases hk with rfl | rfl <;> rfl
  have fr : ∀ j : Nat, j < 4 → 0 ≤ aFree 4 xs (j : Int) k := fun j hj => by rw [aFree_get hj hA]; exact (h.a.get _ _).1
  have lk : ∀ j : Nat, 0 ≤ lkd (j : Int) k L + lkd (j : Int) k M := fun j => by
    have h1 := (lkd_in (c := (j : Int)) (a := k) (Q := L) fun o ho => (ok.oin o (by simp [ho])).1).1
    have h2 := (lkd_in (c := (j : Int)) (a := k) (Q := M) fun o ho => (ok.oin o (by simp [ho])).1).1
    omega
  have a0 := fr 0 (by omega)
  have a1 := fr 1 (by omega)
  have a2 := fr 2 (by omega)
  have a3 := fr 3 (by omega)
  have b0 := lk 0
  have b1 := lk 1
  have b2 := lk 2
  have b3 := lk 3
  simp only [psum] at h4
  intro j hj
  rcases (by omega : j = 0 ∨ j = 1 ∨ j = 2 ∨ j = 3) with rfl | rfl | rfl | rfl <;> simp only [psum] <;> refine ⟨?_, ?_, ?_, ?_⟩ <;> omega

end Go.Proofs.Yteabcpmpcbjicaa
