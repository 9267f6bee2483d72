
import Derived.Test.YteabcpmpcbjicaaPlawP
import Derived.Deep.AppendLies
namespace Go.Proofs.Yteabcpmpcbjicaa
set_option linter.unusedVariables false
set_option maxRecDepth 100000
open Go Go.Proofs Go.RowKit Go.Maps

/-! Rows of envelopes, and of numbers, that a call has for itself. -/
def Erw (w : World) (v : Value) (L : List Env) : Prop := w.ownsRow 0 32 4 v L.length (flat nc L)
def Irw (w : World) (v : Value) (l : List Int) : Prop := w.ownsRow 0 3 1 v l.length (l.map (Value.int .i64))
abbrev obl (v : Value) : List Nat := v.ownBlock.toList
theorem Erw.nil (w : World) : Erw w (.slice none 0 0) [] := ⟨by simp [flat], .inl ⟨rfl, rfl⟩⟩
theorem Irw.nil (w : World) : Irw w (.slice none 0 0) [] := ⟨by simp, .inl ⟨rfl, rfl⟩⟩
theorem Erw.chg {w w' : World} {v : Value} {L : List Env} {S : List Nat} (h : Erw w v L) (c : Chg S w w') (hs : ∀ z ∈ obl v, z ∉ S) : Erw w' v L := own_chg2 h c (fun k hk hm => hs k (by simp [hk]) hm)
theorem Irw.chg {w w' : World} {v : Value} {l : List Int} {S : List Nat} (h : Irw w v l) (c : Chg S w w') (hs : ∀ z ∈ obl v, z ∉ S) : Irw w' v l := own_chg2 h c (fun k hk hm => hs k (by simp [hk]) hm)
theorem Erw.lt {w : World} {v : Value} {L : List Env} (h : Erw w v L) : ∀ z ∈ obl v, z < w.heap.size := fun z hz => (World.ownsRow.lt h z (by simpa using hz)).2
theorem Irw.lt {w : World} {v : Value} {l : List Int} (h : Irw w v l) : ∀ z ∈ obl v, z < w.heap.size := fun z hz => (World.ownsRow.lt h z (by simpa using hz)).2
theorem Erw.sl {w : World} {v : Value} {L : List Env} (h : Erw w v L) : ∃ a c, v = .slice a L.length c ∧ Nsl w a c L := by
  obtain ⟨a, c, h1, -, h2, -⟩ := own_nsl h
  exact ⟨a, c, h1, h2⟩
theorem Irw.sl {w : World} {v : Value} {l : List Int} (h : Irw w v l) : ∃ a c, v = .slice a l.length c ∧ Isl w a l ∧ ∀ o, a = some o → o.block ∈ obl v := by
  rcases h.2 with ⟨h1, h2⟩ | ⟨g, c, cur, h1, h2, h3, h4, h5, h6, h7⟩
  · have : l = [] := List.eq_nil_of_length_eq_zero h2
    exact ⟨none, 0, by rw [h1, this]; rfl, .inl this, fun o ho => by cases ho⟩
  · refine ⟨_, c, h1, .inr ⟨g, rfl, ?_⟩, fun o ho => ?_⟩
    · refine ⟨cur.toList.drop l.length, ?_⟩
      unfold Blk
      rw [h3]
      have e : l.map (Value.int .i64) ++ cur.toList.drop l.length = cur.toList := by
        have h8 : cur.toList.take l.length = l.map (Value.int .i64) := by simpa using h7
        rw [← h8, List.take_append_drop]
      rw [e]
    · injection ho with ho; subst ho; rw [h1]; simp [obl, Value.ownBlock]
theorem info_i64r : (Try.prog.info? 3).map (fun i => (i.zero, i.size, i.bytes)) = some (some (.int .i64 0), 1, 8) := by kernel_rfl
theorem app_env {ops : Array Oper} {rest : List Oper} {o : Oper} {a : Act} {Q : Exit → Act → World → Prop} {w : World} (hgd : o.guard = none) (s x : Operand) (ho : o.op = .call { callee := .builtin .append, args := #[s, x], argTypes := #[29, 29] })
    {v : Value} {L : List Env} (hs : a.eval s = v) (hown : Erw w v L) (g1 c : Nat) (e : Env) (hx : a.eval x = .slice (some ⟨g1, 0, none⟩) 1 c) (hb : Blk w g1 32 (nc e)) (hL : L.length ≤ 1000000)
    (h : ∀ g cap w', Erw w' (.slice (some ⟨g, 0, none⟩) (L.length + 1) cap) (L ++ [e]) → Chg (obl v) w w' → (g ∈ obl v ∨ w.heap.size ≤ g) → wpList Try.prog ops Q rest (a.put o.dst (.slice (some ⟨g, 0, none⟩) (L.length + 1) cap)) w') : wpList Try.prog ops Q (o :: rest) a w := by
  obtain ⟨i0, hi, hz0, hz1, hz2⟩ := info_parts info_env
  refine wpList_append_lies _ hgd s x 29 ho 0 32 i0 (nv Env.zero) 4 32 Try.underlying29 hi hz0 hz1 hz2 rfl (by decide) v L.length (flat nc L) hs hown ⟨g1, 0, none⟩ 1 c (nc e) hx rfl (fun j u hu => by rw [add_none, Nat.zero_add]; exact hb.at hu) (fun u hu => flat_one [e] u (by simpa [flat] using hu)) (by omega) (by unfold maxLen; omega) (by omega) (by omega) _ rfl ?_
  intro g cap w' h1 h2 h3 h4
  refine h g cap w' ?_ ((Chg.refl _ _).grown h2 (fun k hk => .inl (by simp [obl, hk]))) (h3.imp (fun q => by simp [obl, q]) (fun q => by omega))
  show World.ownsRow _ _ _ _ _ _ _
  rw [flat_append, List.length_append]
  simpa [flat] using h1
theorem app_int {ops : Array Oper} {rest : List Oper} {o : Oper} {a : Act} {Q : Exit → Act → World → Prop} {w : World} (hgd : o.guard = none) (s x : Operand) (ho : o.op = .call { callee := .builtin .append, args := #[s, x], argTypes := #[46, 46] })
    {v : Value} {l : List Int} (hs : a.eval s = v) (hown : Irw w v l) (g1 c : Nat) (e : Int) (hx : a.eval x = .slice (some ⟨g1, 0, none⟩) 1 c) (hb : Blk w g1 3 [.int .i64 e]) (hL : l.length ≤ 1000000)
    (h : ∀ g cap w', Irw w' (.slice (some ⟨g, 0, none⟩) (l.length + 1) cap) (l ++ [e]) → Chg (obl v) w w' → (g ∈ obl v ∨ w.heap.size ≤ g) → wpList Try.prog ops Q rest (a.put o.dst (.slice (some ⟨g, 0, none⟩) (l.length + 1) cap)) w') : wpList Try.prog ops Q (o :: rest) a w := by
  obtain ⟨i0, hi, hz0, hz1, hz2⟩ := info_parts info_i64r
  refine wpList_append_lies _ hgd s x 46 ho 0 3 i0 (.int .i64 0) 1 8 Try.underlying46 hi hz0 hz1 hz2 rfl (by decide) v l.length (l.map (Value.int .i64)) hs hown ⟨g1, 0, none⟩ 1 c [.int .i64 e] hx rfl (fun j u hu => by rw [add_none, Nat.zero_add]; exact hb.at hu) (fun u hu => by simp at hu; subst hu; rfl) (by omega) (by unfold maxLen; omega) (by omega) (by omega) _ rfl ?_
  intro g cap w' h1 h2 h3 h4
  refine h g cap w' ?_ ((Chg.refl _ _).grown h2 (fun k hk => .inl (by simp [obl, hk]))) (h3.imp (fun q => by simp [obl, q]) (fun q => by omega))
  show World.ownsRow _ _ _ _ _ _ _
  rw [List.map_append, List.length_append]
  exact h1
/-- Three rows aside of each other and of something else, none of them old. -/
structure Dj3 (m : Nat) (F A B C : List Nat) : Prop where
  a : ∀ z ∈ A, z ∉ F ∧ z ∉ B ∧ z ∉ C
  b : ∀ z ∈ B, z ∉ F ∧ z ∉ C
  c : ∀ z ∈ C, z ∉ F
  lo : (∀ z ∈ A, m ≤ z) ∧ (∀ z ∈ B, m ≤ z) ∧ ∀ z ∈ C, m ≤ z
theorem Dj3.nil (m : Nat) (F : List Nat) : Dj3 m F [] [] [] := ⟨by simp, by simp, by simp, by simp⟩
theorem Dj3.gF {m : Nat} {F A B C F' : List Nat} {N : Nat} (h : Dj3 m F A B C) (g : Grw N F F') (ha : ∀ z ∈ A, z < N) (hb : ∀ z ∈ B, z < N) (hc : ∀ z ∈ C, z < N) : Dj3 m F' A B C :=
  ⟨fun z hz => ⟨fun hm => (g z hm).elim (h.a z hz).1 (fun q => by have := ha z hz; omega), (h.a z hz).2⟩, fun z hz => ⟨fun hm => (g z hm).elim (h.b z hz).1 (fun q => by have := hb z hz; omega), (h.b z hz).2⟩, fun z hz hm => (g z hm).elim (h.c z hz) (fun q => by have := hc z hz; omega), h.lo⟩
theorem mem_one {z g : Nat} (h : z ∈ [g]) : z = g := by simpa using h
theorem Dj3.gA {m : Nat} {F A B C : List Nat} {N g : Nat} (h : Dj3 m F A B C) (k : g ∈ A ∨ N ≤ g) (hm : m ≤ N) (hf : ∀ z ∈ F, z < N) (hb : ∀ z ∈ B, z < N) (hc : ∀ z ∈ C, z < N) : Dj3 m F [g] B C :=
  ⟨fun z hz => by
    cases mem_one hz
    rcases k with q | q
    · exact h.a _ q
    · exact ⟨fun hm => by have := hf _ hm; omega, fun hm => by have := hb _ hm; omega, fun hm => by have := hc _ hm; omega⟩, h.b, h.c, fun z hz => by
    cases mem_one hz
    rcases k with q | q
    · exact h.lo.1 _ q
    · omega, h.lo.2⟩
theorem Dj3.gB {m : Nat} {F A B C : List Nat} {N g : Nat} (h : Dj3 m F A B C) (k : g ∈ B ∨ N ≤ g) (hm : m ≤ N) (hf : ∀ z ∈ F, z < N) (ha : ∀ z ∈ A, z < N) (hc : ∀ z ∈ C, z < N) : Dj3 m F A [g] C :=
  ⟨fun z hz => ⟨(h.a z hz).1, fun hm => by
    cases mem_one hm
    rcases k with q | q
    · exact (h.a _ hz).2.1 q
    · have := ha _ hz; omega, (h.a z hz).2.2⟩, fun z hz => by
    cases mem_one hz
    rcases k with q | q
    · exact h.b _ q
    · exact ⟨fun hm => by have := hf _ hm; omega, fun hm => by have := hc _ hm; omega⟩, h.c, h.lo.1, fun z hz => by
    cases mem_one hz
    rcases k with q | q
    · exact h.lo.2.1 _ q
    · omega, h.lo.2.2⟩
theorem Dj3.gC {m : Nat} {F A B C : List Nat} {N g : Nat} (h : Dj3 m F A B C) (k : g ∈ C ∨ N ≤ g) (hm : m ≤ N) (hf : ∀ z ∈ F, z < N) (ha : ∀ z ∈ A, z < N) (hb : ∀ z ∈ B, z < N) : Dj3 m F A B [g] :=
  ⟨fun z hz => ⟨(h.a z hz).1, (h.a z hz).2.1, fun hm => by
    cases mem_one hm
    rcases k with q | q
    · exact (h.a _ hz).2.2 q
    · have := ha _ hz; omega⟩, fun z hz => ⟨(h.b z hz).1, fun hm => by
    cases mem_one hm
    rcases k with q | q
    · exact (h.b _ hz).2 q
    · have := hb _ hz; omega⟩, fun z hz => by
    cases mem_one hz
    rcases k with q | q
    · exact h.c _ q
    · exact fun hm => by have := hf _ hm; omega, h.lo.1, h.lo.2.1, fun z hz => by
    cases mem_one hz
    rcases k with q | q
    · exact h.lo.2.2 _ q
    · omega⟩
/-- All that a pool and its world lie in. -/
abbrev pxF (FE FL FP : List Nat) : List Nat := FE ++ (FL ++ FP)
theorem PX.ltF {w wr : World} {g l p nl : Nat} {FE FL FP : List Nat} {W : WS} {S : LS} {most : Int} {L : List Env} {t tl : Nat} (h : PX w wr g l p nl FE FL FP W S most L t tl) : ∀ z ∈ pxF FE FL FP, w.heap.size ≤ z ∧ z < wr.heap.size := by
  intro z hz
  simp only [pxF, List.mem_append] at hz
  rcases hz with q | q | q
  · exact h.e.lt z q
  · exact h.l.lt z q
  · exact ⟨h.lo z q, h.p.lt z q⟩
theorem grwE {N : Nat} {FE FE' FL FP : List Nat} (g : Grw N FE FE') : Grw N (pxF FE FL FP) (pxF FE' FL FP) := fun z hz => by
  rcases List.mem_append.1 hz with q | q
  · exact (g z q).imp (fun x => List.mem_append.2 (.inl x)) id
  · exact .inl (List.mem_append.2 (.inr q))
theorem grwEP {N : Nat} {FE FE' FL FP FP' : List Nat} (g : Grw N (FE ++ FP) (FE' ++ FP')) : Grw N (pxF FE FL FP) (pxF FE' FL FP') := fun z hz => by
  have k : ∀ z, z ∈ FE ++ FP → z ∈ pxF FE FL FP := fun z hz => by
    rcases List.mem_append.1 hz with q | q
    · exact List.mem_append.2 (.inl q)
    · exact List.mem_append.2 (.inr (List.mem_append.2 (.inr q)))
  rcases List.mem_append.1 hz with q | q
  · exact (g z (List.mem_append.2 (.inl q))).imp (k z) id
  · rcases List.mem_append.1 q with q | q
    · exact .inl (List.mem_append.2 (.inr (List.mem_append.2 (.inl q))))
    · exact (g z (List.mem_append.2 (.inr q))).imp (k z) id
theorem grwP {N : Nat} {FE FL FP FP' : List Nat} (g : Grw N FP FP') : Grw N (pxF FE FL FP) (pxF FE FL FP') := fun z hz => by
  rcases List.mem_append.1 hz with q | q
  · exact .inl (List.mem_append.2 (.inl q))
  · rcases List.mem_append.1 q with q | q
    · exact .inl (List.mem_append.2 (.inr (List.mem_append.2 (.inl q))))
    · exact (g z q).imp (fun x => List.mem_append.2 (.inr (List.mem_append.2 (.inr x)))) id
theorem subE {FE FL FP : List Nat} : ∀ z ∈ FE, z ∈ pxF FE FL FP := fun z hz => List.mem_append.2 (.inl hz)
theorem subP {FE FL FP : List Nat} : ∀ z ∈ FP, z ∈ pxF FE FL FP := fun z hz => List.mem_append.2 (.inr (List.mem_append.2 (.inr hz)))
theorem subEP {FE FL FP : List Nat} : ∀ z ∈ FE ++ FP, z ∈ pxF FE FL FP := fun z hz => (List.mem_append.1 hz).elim (subE z) (subP z)
/-- What lies aside may turn. -/
theorem PX.away {w wr w' : World} {g l p nl : Nat} {FE FL FP R : List Nat} {W : WS} {S : LS} {most : Int} {L : List Env} {t tl : Nat} (h : PX w wr g l p nl FE FL FP W S most L t tl) (c : Chg R wr w') (hR : ∀ z ∈ R, z ∉ pxF FE FL FP ∧ w.heap.size ≤ z) : PX w w' g l p nl FE FL FP W S most L t tl :=
  h.aside c (fun z hz => by
    have q := (hR z hz).1
    simp only [pxF, List.mem_append, not_or] at q
    exact ⟨q.1, q.2.1, q.2.2, (hR z hz).2⟩)
theorem PX.made {w wr w' : World} {g l p nl : Nat} {FE FL FP FE' : List Nat} {W W' : WS} {S : LS} {most : Int} {L : List Env} {t t' tl : Nat} (h : PX w wr g l p nl FE FL FP W S most L t tl) (c : Chg [] w wr) (k : Chg FE wr w') : Chg [] w w' :=
  c.trans' k (fun z hz => .inr (h.e.lt z hz).1)
/-- A known envelope's digest. -/
theorem wDigX {w wr : World} {g : Nat} {F : List Nat} {W : WS} {t : Nat} (h : WldX w wr g F W t) (ht : t ≤ 1000000) (e : Env) (he : e.Ok) (hin : e ∈ W.T) (d : Int) (hd : ePos W.T e = d) :
    Calls Try.prog 23 #[.pointer (some ⟨g, 0, none⟩), nv e] wr fun y w' => y = .returned (.int .i64 d) ∧ Chg [] wr w' := by
  obtain ⟨tb, tm, sb, sm, vb, Ft, Fs, Fv, h, rfl⟩ := h
  subst hd
  exact wDigIn h ht e he hin
theorem Dj3.lt3 {w : World} {a b : Value} {c : Value} {L M : List Env} {l : List Int} (h1 : Erw w a L) (h2 : Erw w b M) (h3 : Irw w c l) : ∀ z ∈ obl a ++ (obl b ++ obl c), z < w.heap.size := fun z hz => by
  rcases List.mem_append.1 hz with q | q
  · exact h1.lt z q
  · rcases List.mem_append.1 q with q | q
    · exact h2.lt z q
    · exact h3.lt z q
theorem Erw.nsl {w : World} {a : Option Addr} {n c : Nat} {L : List Env} (h : Erw w (.slice a n c) L) : Nsl w a c L ∧ L.length = n := by
  obtain ⟨a', c', e, k⟩ := h.sl
  injection e with e1 e2 e3
  subst e1 e3
  exact ⟨k, e2.symm⟩
theorem ml_get {φ : Nat → Int} {n j : Nat} (h : j < n) : (ml φ n).getD j Env.zero = me φ j := by
  unfold ml
  simp [List.getD, h]
end Go.Proofs.Yteabcpmpcbjicaa
