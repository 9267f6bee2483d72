import Derived.Test.YtofcphfgpnobnaaBook3
namespace Go.Proofs.Ytofcphfgpnobnaa
set_option linter.unusedVariables false
open Go Go.Proofs Go.RowKit
attribute [local go_sem ↓] Go.wp_at_zero Go.wp_at_succ

/-- A book that the call itself made: since the world w. -/
structure BkS (w wr : World) (F : List Nat) (k : Nat) (L M : List Ord) : Prop where
  bk : Bok wr F k L M
  c : Chg [] w wr
  lo : ∀ x ∈ F, w.heap.size ≤ x
theorem BkS.to {w wr w' : World} {F : List Nat} {k : Nat} {L M : List Ord} (h : BkS w wr F k L M) (c : Chg [] wr w') : BkS w w' F k L M := ⟨h.bk.chg0 c, h.c.trans c, h.lo⟩
theorem BkS.turn {w wr w' : World} {F F' : List Nat} {k : Nat} {L M L' M' : List Ord} (h : BkS w wr F k L M) (hb : Bok w' F' k L' M') (c : Chg F wr w') (g : Grw wr.heap.size F F') : BkS w w' F' k L' M' :=
  ⟨hb, h.c.trans' c fun x hx => .inr (h.lo x hx), fun x hx => by
    rcases g x hx with h1 | h1
    · exact h.lo x h1
    · have := h.c.size; omega⟩
/-- Something else stands behind what turns the book. -/
theorem BkS.apart {w wr w' : World} {F : List Nat} {k : Nat} {L M : List Ord} (h : BkS w wr F k L M) (c : Chg F wr w') {b : Nat} (hb : b ∉ F) (hl : b < wr.heap.size) : w'.heap[b]? = wr.heap[b]? := c.block b hl hb
theorem BkS.new {w wr : World} {F : List Nat} {k : Nat} {L M : List Ord} (h : BkS w wr F k L M) : ∀ x ∈ F, x < wr.heap.size := h.bk.lt
theorem Grw.not {n : Nat} {F F' : List Nat} (h : Grw n F F') {b : Nat} (hb : b ∉ F) (hl : b < n) : b ∉ F' := fun hm => by
  rcases h b hm with h1 | h1
  · exact hb h1
  · omega

/-- A trade at a place. -/
structure Tat (w : World) (s i : Nat) (t : Trd) : Prop where
  c0 : w.cell? ⟨s, i, none⟩ = some (.int .i64 t.maker)
  c1 : w.cell? ⟨s, i + 1, none⟩ = some (.int .i64 t.taker)
  c2 : w.cell? ⟨s, i + 2, none⟩ = some (.int .i64 t.buyer)
  c3 : w.cell? ⟨s, i + 3, none⟩ = some (.int .i64 t.seller)
  c4 : w.cell? ⟨s, i + 4, none⟩ = some (.int .u64 t.price)
  c5 : w.cell? ⟨s, i + 5, none⟩ = some (.int .u64 t.qty)
theorem RAt.tat {w : World} {s i : Nat} {t : Trd} (h : RAt w s i (tc t)) : Tat w s i t := ⟨h 0 _ rfl, h 1 _ rfl, h 2 _ rfl, h 3 _ rfl, h 4 _ rfl, h 5 _ rfl⟩
theorem tr_at {w : World} {B : Nat} {a : Option Addr} {T : List Trd} (h : NewF tc w B 61 a T) {k : Nat} (hk : k < T.length) : ∃ g, a = some ⟨g, 0, none⟩ ∧ B ≤ g ∧ g < w.heap.size ∧ Tat w g (k * 6) (T.getD k Trd.zero) := by
  rcases h with rfl | ⟨g, h1, h2, h3⟩
  · simp at hk
  · exact ⟨g, h1, h2, h3.lt, (flat_beg tc_len Trd.zero h3 hk).tat⟩

theorem bRest_is {w wr : World} {F : List Nat} {k : Nat} {L M : List Ord} (h : BkS w wr F k L M) (o : Ord) (L' M' : List Ord) (hr : (restL o L, restM o M) = (L', M')) (ho : o.Ok) (hL : ∀ x ∈ L, x.id ≠ o.id) (hM : ∀ x ∈ M, x.id ≠ o.id) (zL : L.length < 999999999999) (zM : M.length < 999999999999) :
    Calls Try.prog 29 #[.pointer (some ⟨k, 0, none⟩), ov o] wr fun e w' => e = .returned (.tuple #[]) ∧ ∃ F', BkS w w' F' k L' M' ∧ Chg F wr w' ∧ Grw wr.heap.size F F' := by
  obtain ⟨rfl, rfl⟩ := Prod.mk.inj hr
  refine (bRest h.bk ho hL hM zL zM).mono ?_
  rintro e w' ⟨rfl, F', hb, c, g⟩
  exact ⟨rfl, F', h.turn hb c g, c, g⟩
theorem bMatch_is {w wr : World} {F : List Nat} {k : Nat} {L M : List Ord} (h : BkS w wr F k L M) (o : Ord) (T : List Trd) (q : Int) (L' M' : List Ord) (hr : (mres o L M).1 = T ∧ (mres o L M).2.1 = q ∧ mL o L M = L' ∧ mM o L M = M') (ho : o.Ok) (zL : L.length < 999999999) (zM : M.length < 999999999) :
    Calls Try.prog 28 #[.pointer (some ⟨k, 0, none⟩), ov o] wr fun e w' => ∃ a c, e = .returned (.tuple #[.slice a T.length c, .int .u64 q]) ∧ NewF tc w' wr.heap.size 61 a T ∧ BkS w w' F k L' M' ∧ Chg F wr w' := by
  obtain ⟨rfl, rfl, rfl, rfl⟩ := hr
  refine (bMatch h.bk ho zL zM).mono ?_
  rintro e w' ⟨a, c, rfl, hT, hb, cc⟩
  exact ⟨a, c, rfl, hT, h.turn hb cc (Grw.refl _ _), cc⟩
theorem bRemove_is {w wr : World} {F : List Nat} {k : Nat} {L M : List Ord} (h : BkS w wr F k L M) (id : Int) (x : Ord) (ok : Bool) (L' M' : List Ord) (hr : (pickB id L M, sans id L, remM id L M) = ((x, ok), L', M')) (zL : L.length < 1000000000000) (zM : M.length < 1000000000000) :
    Calls Try.prog 35 #[.pointer (some ⟨k, 0, none⟩), .int .i64 id] wr fun e w' => e = .returned (.tuple #[ov x, .bool ok]) ∧ BkS w w' F k L' M' ∧ Chg F wr w' := by
  obtain ⟨h1, h2⟩ := Prod.mk.inj hr
  obtain ⟨rfl, rfl⟩ := Prod.mk.inj h2
  refine (bRemove h.bk id zL zM).mono ?_
  rw [h1]
  rintro e w' ⟨rfl, hb, c⟩
  exact ⟨rfl, h.turn hb c (Grw.refl _ _), c⟩
theorem bFind_is {w : World} {F : List Nat} {k : Nat} {L M : List Ord} (h : Bok w F k L M) (id : Int) (x : Ord) (ok : Bool) (hr : pickB id L M = (x, ok)) :
    Calls Try.prog 33 #[.pointer (some ⟨k, 0, none⟩), .int .i64 id] w fun e w' => e = .returned (.tuple #[ov x, .bool ok]) ∧ Chg [] w w' := by
  have := bFind h id
  rwa [hr] at this
theorem bNewS (w wr : World) (c : Chg [] w wr) : Calls Try.prog 27 #[] wr fun e w' => ∃ k F, e = .returned (.pointer (some ⟨k, 0, none⟩)) ∧ BkS w w' F k [] [] ∧ Chg [] wr w' ∧ ∀ x ∈ F, wr.heap.size ≤ x := by
  refine (bNew wr).mono ?_
  rintro e w' ⟨k, F, rfl, hb, c1, hl⟩
  exact ⟨k, F, rfl, ⟨hb, c.trans c1, fun x hx => Nat.le_trans c.size (hl x hx)⟩, c1, hl⟩

set_option maxRecDepth 100000 in
set_option maxHeartbeats 8000000 in
theorem awake9 (w : World) : Calls Try.prog 32 #[] w fun e w' => e = .returned (.bool true) ∧ Chg [] w w' := by
  go_enter Try.func32, Try.ntmps32
  go_wp2_with fail
  refine (bNewS w w (Chg.refl _ _)).mono ?_
  rintro e w1 ⟨k, F1, rfl, h1, _, _⟩
  go_wp2_with fail
  refine (bRest_is h1 ⟨1, 4, false, 7, 3⟩ [] [⟨1, 4, false, 7, 3⟩] (by decide) (ordOk _ _ _ _ _ ⟨by omega, by omega⟩ ⟨by omega, by omega⟩ ⟨by omega, by omega⟩ ⟨by omega, by omega⟩) (by simp) (by simp) (by simp) (by simp)).mono ?_
  rintro e w2 ⟨rfl, F2, h2, _, _⟩
  clear h1
  go_wp2_with fail
  refine (bRest_is h2 ⟨2, 5, false, 6, 2⟩ [] [⟨2, 5, false, 6, 2⟩, ⟨1, 4, false, 7, 3⟩] (by decide) (ordOk _ _ _ _ _ ⟨by omega, by omega⟩ ⟨by omega, by omega⟩ ⟨by omega, by omega⟩ ⟨by omega, by omega⟩) (by simp) (by simp) (by simp) (by simp)).mono ?_
  rintro e w3 ⟨rfl, F3, h3, _, _⟩
  clear h2
  go_wp2_with fail
  refine (bMatch_is h3 ⟨3, 6, true, 7, 4⟩ [⟨2, 3, 6, 5, 6, 2⟩, ⟨1, 3, 6, 4, 7, 2⟩] 0 [] [⟨1, 4, false, 7, 1⟩] (by decide) (ordOk _ _ _ _ _ ⟨by omega, by omega⟩ ⟨by omega, by omega⟩ ⟨by omega, by omega⟩ ⟨by omega, by omega⟩) (by simp) (by simp)).mono ?_
  rintro e w4 ⟨a4, d4, rfl, hT, h4, _⟩
  have hz := h3.new
  obtain ⟨gt, rfl, g1, g2, t0⟩ := tr_at hT (k := 0) (by simp)
  obtain ⟨_, eg, _, _, t1⟩ := tr_at hT (k := 1) (by simp)
  injection eg with eg
  injection eg with eg _ _
  subst eg
  have hF : gt ∉ F3 := fun hm => by have := hz gt hm; omega
  clear h3 hz hT
  simp only [List.length_cons, List.length_nil]
  go_wp2_with fail
  refine (bAsks h4.bk (by simp)).mono ?_
  rintro e w5 ⟨v5, rfl, ho, c5⟩
  obtain ⟨ga, cap, rfl, gz, _, k2, hor⟩ := ho.full (by simp)
  have h5 := h4.to c5
  have hFa : ga ∉ F3 := fun hm => by have := h4.new ga hm; omega
  clear h4 ho
  go_wp2_with fail
  refine (bFind_is h5.bk 2 Ord.zero false (by decide)).mono ?_
  rintro e w6 ⟨rfl, c6⟩
  have d6 := c6.alloc (.cells #[.int .i64 0, .int .i64 0, .bool false, .int .u64 0, .int .u64 0] 28)
  have h6 := h5.to d6
  clear h5 c6
  go_wp2_with fail
  generalize w6.alloc _ = W6 at *
  refine (bRemove_is h6 1 ⟨1, 4, false, 7, 1⟩ true [] [] (by decide) (by simp) (by simp)).mono ?_
  rintro e w7 ⟨rfl, h7, c7⟩
  have d7 := c7.alloc (.cells #[.int .i64 1, .int .i64 4, .bool false, .int .u64 7, .int .u64 1] 28)
  have h8 := h7.to ((Chg.refl [] w7).alloc (.cells #[.int .i64 1, .int .i64 4, .bool false, .int .u64 7, .int .u64 1] 28))
  have hb8 : Blk (w7.alloc (.cells #[.int .i64 1, .int .i64 4, .bool false, .int .u64 7, .int .u64 1] 28)) w7.heap.size 28 (oc ⟨1, 4, false, 7, 1⟩) := Blk.new w7 (oc ⟨1, 4, false, 7, 1⟩) 28
  have cA := ((((c5.mono (by simp)).trans (d6.mono (by simp))).trans d7) : Chg F3 w4 _)
  have cB := (((d6.mono (by simp)).trans d7) : Chg F3 w5 _)
  clear h6 h7 c7 d7 d6 c5
  have p0 := cA.cell t0.c0 hF
  have p1 := cA.cell t0.c1 hF
  have p2 := cA.cell t0.c2 hF
  have p3 := cA.cell t0.c3 hF
  have p4 := cA.cell t0.c4 hF
  have p5 := cA.cell t0.c5 hF
  have r0 := cA.cell t1.c0 hF
  have r5 := cA.cell t1.c5 hF
  have s4 := (Orow.at (Beg.chg hor cB hFa) (k := 0) (by simp)).c4
  have e4 := hb8.at (i := 4) rfl
  simp at p0 p1 p2 p3 p4 p5 r0 r5 s4
  clear cA cB t0 t1 hor hb8
  go_wp2_with fail
  refine (bBids h8.bk (by simp)).mono ?_
  rintro e w9 ⟨v9, rfl, ho, c9⟩
  obtain ⟨a9, d9, rfl, _⟩ := ho.osn
  simp only [List.length_nil]
  go_wp2_with fail
  go_ret
  exact ⟨rfl, (h8.to c9).c⟩
end Go.Proofs.Ytofcphfgpnobnaa
