
import Derived.Test.YteabcpmpcbjicaaGreatPlawT
import Derived.Test.YteabcpmpcbjicaaGreatSame
namespace Go.Proofs.YteabcpmpcbjicaaGreat
set_option linter.unusedVariables false
set_option maxRecDepth 100000
open Go Go.Proofs Go.RowKit

/-! Entries out of numbers, and what two clients have behind them. -/
def eOf (s : Int) : Int × Int × Int × Int := if bits BinOp.and .u64 (s / 65536) 3 = 0 then (bits BinOp.and .u64 s 7, 3, 0, bits BinOp.and .u64 (s / 32) 2047) else (bits BinOp.and .u64 s 7, bits BinOp.and .u64 (s / 8) 1 + 1, bits BinOp.and .u64 (s / 16) 1, bits BinOp.and .u64 (s / 32) 2047)
theorem eOf_b (s : Int) : EB (eOf s).1 (eOf s).2.1 (eOf s).2.2.1 (eOf s).2.2.2 := by
  obtain ⟨f, hf, lf⟩ := and7_u64 s
  obtain ⟨k, hk, lk⟩ : ∃ f : Nat, bits BinOp.and .u64 (s / 8) 1 = f ∧ f < 2 := low_u64 (s / 8) 1 (by omega)
  obtain ⟨a, ha, la⟩ : ∃ f : Nat, bits BinOp.and .u64 (s / 16) 1 = f ∧ f < 2 := low_u64 (s / 16) 1 (by omega)
  obtain ⟨q, hq, lq⟩ : ∃ f : Nat, bits BinOp.and .u64 (s / 32) 2047 = f ∧ f < 2048 := low_u64 (s / 32) 11 (by omega)
  unfold eOf
  rw [hf, hk, ha, hq]
  split
  · exact ⟨by dsimp only; omega, by dsimp only; omega, by dsimp only; omega, by dsimp only; omega⟩
  · exact ⟨by dsimp only; omega, by dsimp only; omega, by dsimp only; omega, by dsimp only; omega⟩
def en2 (c : Int) (i : Nat) (s : Int) : Ent := ent2 c i (eOf s).1 (eOf s).2.1 (eOf s).2.2.1 (eOf s).2.2.2
theorem en2_ok (c : Int) (i : Nat) (s : Int) (hc : c = 0 ∨ c = 1) (hi : i ≤ 100) : (en2 c i s).Ok := ent2_ok c i hc (by omega) (eOf_b s)
def st2 (p : Loc) (s : Int) : Loc := lstep p (eOf s).1 (eOf s).2.1 (eOf s).2.2.1 (eOf s).2.2.2
def lo2 (l : List Int) : Loc := l.foldl st2 loc0
theorem lo2_snoc (l : List Int) (s : Int) : lo2 (l ++ [s]) = st2 (lo2 l) s := by unfold lo2; rw [List.foldl_append]; rfl
theorem foldl_b : ∀ (l : List Int) (p : Loc) (m : Nat), LocB p m → LocB (l.foldl st2 p) (m + l.length)
  | [], p, m, h => h
  | s :: l, p, m, h => by
    have h1 := foldl_b l (st2 p s) (m + 1) (lstep_b h (eOf_b s))
    rw [List.foldl_cons, List.length_cons, show m + (l.length + 1) = m + 1 + l.length by omega]
    exact h1
theorem lo2_b (l : List Int) : LocB (lo2 l) l.length := by
  have := foldl_b l loc0 0 loc0_b
  rwa [Nat.zero_add] at this
def rowE (c : Int) (l : List Int) : List Ent := (List.range l.length).map (fun i => en2 c i (l.getD i 0))
theorem rowE_len (c : Int) (l : List Int) : (rowE c l).length = l.length := by simp [rowE]
theorem rowE_snoc (c : Int) (l : List Int) (s : Int) : rowE c (l ++ [s]) = rowE c l ++ [en2 c l.length s] := by
  unfold rowE
  rw [List.length_append, List.length_singleton, List.range_succ, List.map_append, List.map_singleton]
  congr 1
  · apply List.map_congr_left
    intro i hi
    have hi := List.mem_range.1 hi
    simp [List.getD, List.getElem?_append_left hi]
  · simp [List.getD]
theorem rowE_at {c : Int} {l : List Int} {i : Nat} (h : i < l.length) : (rowE c l).getD i ⟨0, 0, 0, false, ⟨0, 0, 0, false, 0, 0, 0⟩⟩ = en2 c i (l.getD i 0) := by
  unfold rowE
  simp [List.getD, h]
theorem take_sn {l : List Int} {i : Nat} (h : i < l.length) : l.take (i + 1) = l.take i ++ [l.getD i 0] := by
  rw [List.take_succ_eq_append_getElem h]
  simp [List.getD, h]
theorem do0 (a b : List Int) (s : Int) (ha : a.length ≤ 11) (hb : b.length ≤ 11) : ∃ r, lDo 2 (comb (lo2 a) (lo2 b)) (en2 0 a.length s) = (comb (lo2 (a ++ [s])) (lo2 b), r) := by
  rw [lo2_snoc]
  exact two0 (lo2_b a) (lo2_b b) ha hb (eOf_b s)
theorem do1 (a b : List Int) (s : Int) (ha : a.length ≤ 11) (hb : b.length ≤ 11) : ∃ r, lDo 2 (comb (lo2 a) (lo2 b)) (en2 1 b.length s) = (comb (lo2 a) (lo2 (b ++ [s])), r) := by
  rw [lo2_snoc]
  exact two1 (lo2_b a) (lo2_b b) ha hb (eOf_b s)
theorem LS1_two : LS1 2 = comb (lo2 []) (lo2 []) := comb0
theorem next0 (a b : List Int) : lNextV 2 (comb (lo2 a) (lo2 b)) 0 = a.length := by
  have := (lo2_b a).nx
  unfold lNextV
  rw [if_pos (by rfl)]
  exact this
theorem next1 (a b : List Int) : lNextV 2 (comb (lo2 a) (lo2 b)) 1 = b.length := by
  have := (lo2_b b).nx
  unfold lNextV
  rw [if_pos (by rfl)]
  exact this
/-! Rows of entries. -/
theorem ec_len (e : Ent) : (ec e).length = 11 := rfl
def Rw (w : World) (v : Value) (M : List Ent) : Prop := w.ownsRow 0 51 11 v M.length (flat ec M)
abbrev ob1 (v : Value) : List Nat := v.ownBlock.toList
theorem Rw.nil (w : World) : Rw w (.slice none 0 0) [] := ⟨by simp [flat], .inl ⟨rfl, rfl⟩⟩
theorem Rw.chg {w w' : World} {v : Value} {M : List Ent} {S : List Nat} (h : Rw w v M) (c : Chg S w w') (hs : ∀ z ∈ ob1 v, z ∉ S) : Rw w' v M := own_chg2 h c (fun k hk hm => hs k (by simp [hk]) hm)
theorem Rw.lt {w : World} {v : Value} {M : List Ent} (h : Rw w v M) : ∀ z ∈ ob1 v, z < w.heap.size := fun z hz => (World.ownsRow.lt h z (by simpa using hz)).2
theorem Rw.sl {w : World} {v : Value} {M : List Ent} (h : Rw w v M) : ∃ a c, v = .slice a M.length c := own_slice2 h
theorem Rw.at {w : World} {v : Value} {M : List Ent} (h : Rw w v M) {i : Nat} (hi : i < M.length) : ∃ g c, v = .slice (some ⟨g, 0, none⟩) M.length c ∧ ∀ j u, (ec (M.getD i ⟨0, 0, 0, false, ⟨0, 0, 0, false, 0, 0, 0⟩⟩))[j]? = some u → j < 11 → w.cell? ⟨g, i * 11 + j, none⟩ = some u := by
  rcases h.2 with ⟨_, h0⟩ | ⟨g, c, cur, h1, h2, h3, h4, h5, h6, h7⟩
  · omega
  · refine ⟨g, c, h1, fun j u hu hj => ?_⟩
    have hb : Beg w g 51 (flat ec M) := by
      refine ⟨cur.toList.drop (M.length * 11), ?_⟩
      unfold Blk
      rw [h3]
      have e : flat ec M ++ cur.toList.drop (M.length * 11) = cur.toList := by
        rw [← h7, List.take_append_drop]
      rw [e]
    exact Beg.at hb (by rw [flat_get ec_len ⟨0, 0, 0, false, ⟨0, 0, 0, false, 0, 0, 0⟩⟩ M i j hj hi]; exact hu)
theorem info_entr : (Tryz.prog.info? 51).map (fun i => (i.zero, i.size, i.bytes)) = some (some (ev ⟨0, 0, 0, false, ⟨0, 0, 0, false, 0, 0, 0⟩⟩), 11, 88) := by kernel_rfl
theorem flat_one11 (e : Ent) : ∀ u ∈ flat ec [e], u.oneCell' = true := by
  intro u hu
  simp [flat, ec] at hu
  rcases hu with rfl | rfl | rfl | rfl | rfl | rfl | rfl | rfl | rfl | rfl | rfl <;> rfl
/-- append(s, e) at an operation of a drawn region. -/
theorem wp_app_ent {o : Oper} {a : Act} {K : Act → World → Prop} {Q : Exit → Act → World → Prop} {w : World} (s x : Operand) (ho : o.op = .call { callee := .builtin .append, args := #[s, x], argTypes := #[56, 56] })
    {v : Value} {M : List Ent} (hs : a.eval s = v) (hown : Rw w v M) (g c : Nat) (e : Ent) (hx : a.eval x = .slice (some ⟨g, 0, none⟩) 1 c) (hb : Blk w g 51 (ec e)) (hL : M.length ≤ 1000000)
    (h : ∀ v' w', Rw w' v' (M ++ [e]) → Chg (ob1 v) w w' → (∀ z ∈ ob1 v', z ∈ ob1 v ∨ w.heap.size ≤ z) → K (a.put o.dst v') w') : o.wp Tryz.prog a w K Q := by
  obtain ⟨i0, hi, hz0, hz1, hz2⟩ := info_parts info_entr
  refine wp_append_own w s x 56 ho 0 51 i0 (ev ⟨0, 0, 0, false, ⟨0, 0, 0, false, 0, 0, 0⟩⟩) 11 88 Tryz.underlying56 hi hz0 hz1 hz2 rfl (by decide) v M.length (flat ec M) hs hown ⟨g, 0, none⟩ 1 c (flat ec [e]) hx rfl (fun j u hu => by rw [add_none, Nat.zero_add]; exact hb.at (by simpa [flat] using hu)) (flat_one11 e) (by unfold maxLen; omega) (by omega) (by omega) ?_
  intro v' w' h1 h2 h3
  refine h v' w' ?_ ((Chg.refl _ _).grown h2 (fun k hk => .inl (by simp [ob1, hk]))) (fun z hz => ?_)
  · show World.ownsRow _ _ _ _ _ _ _
    rw [flat_append, List.length_append]
    exact h1
  · rcases h3 with q | q
    · left; show z ∈ v.ownBlock.toList; rw [← q]; exact hz
    · right
      have : z = w.heap.size := by
        have hz2 : v'.ownBlock = some z := by simpa [ob1] using hz
        rw [q] at hz2; injection hz2 with e; exact e.symm
      omega
end Go.Proofs.YteabcpmpcbjicaaGreat
