import Derived.Test.YtofcphfgpnobnaaAll
namespace Go.Proofs.Ytofcphfgpnobnaa
set_option linter.unusedVariables false
open Go Go.Proofs Go.RowKit
attribute [local go_sem ↓] Go.wp_at_zero Go.wp_at_succ

theorem qPush_is {w : World} {b s : Nat} {up : Bool} {L : List Ord} (h : Que w b s up L) (o : Ord) (M : List Ord) (hM : ins up o L = M) (ho : o.Ok) (hn : ∀ x ∈ L, x.id ≠ o.id) (hm : L.length < 999999999999) :
    Calls Try.prog 13 #[.pointer (some ⟨b, 0, none⟩), ov o] w fun e w' => e = .returned (.tuple #[]) ∧ ∃ s', Que w' b s' up M ∧ Chg [b, s] w w' ∧ (s' = s ∨ w.heap.size ≤ s') := by
  subst hM; exact qPush h ho hn hm
theorem qCut_is {w : World} {b s : Nat} {up : Bool} {L : List Ord} (h : Que w b s up L) (n : Int) (M : List Ord) (hM : cutQ n L = M) (hn : U n) : Calls Try.prog 20 #[.pointer (some ⟨b, 0, none⟩), .int .u64 n] w fun e w' => e = .returned (.tuple #[]) ∧ Que w' b s up M ∧ Chg [s] w w' := by
  subst hM; exact qCut h n hn
theorem qRemove_is {w : World} {b s : Nat} {up : Bool} {L : List Ord} (h : Que w b s up L) (hm : L.length < 1000000000000) (k : Int) (x : Ord) (M : List Ord) (hM : sans k L = M) (hx : x ∈ L) (hk : x.id = k) : Calls Try.prog 19 #[.pointer (some ⟨b, 0, none⟩), .int .i64 k] w fun e w' => e = .returned (rord x) ∧ Que w' b s up M ∧ Chg [b, s] w w' := by
  subst hM; exact qRemove_yes h hm hx hk
theorem ordOk (i c p q : Int) (y : Bool) (h1 : I i) (h2 : I c) (h3 : U p) (h4 : U q) : Ord.Ok ⟨i, c, y, p, q⟩ := ⟨h1, h2, h3, h4⟩
theorem Onew.full {w : World} {B : Nat} {v : Value} {L : List Ord} (h : Onew w B v L) (hL : L ≠ []) : ∃ g cap, v = .slice (some ⟨g, 0, none⟩) L.length cap ∧ B ≤ g ∧ L.length ≤ cap ∧ cap ≤ maxLen ∧ Orow w g L := by
  obtain ⟨g, cap, h1, h2, h3, h4, h5, _⟩ := own_beg h (by
    rintro rfl
    rcases h.2 with ⟨_, h2⟩ | ⟨g, cap, cur, hv, _⟩
    · exact hL (List.eq_nil_of_length_eq_zero h2)
    · cases hv)
  exact ⟨g, cap, h1, h2, h3, h4, h5⟩

set_option maxRecDepth 100000 in
set_option maxHeartbeats 8000000 in
theorem awake8 (w : World) : Calls Try.prog 17 #[] w fun e w' => e = .returned (.bool true) ∧ Below w.heap.size w w' := by
  go_enter Try.func17, Try.ntmps17
  go_wp2_with fail
  refine (qNew true _).mono ?_
  rintro e w1 ⟨b, rfl, h1, c1, b1⟩
  go_wp2_with fail
  refine (qPush_is h1 ⟨2, 0, false, 5, 1⟩ [⟨2, 0, false, 5, 1⟩] (by decide) (ordOk _ _ _ _ _ ⟨by omega, by omega⟩ ⟨by omega, by omega⟩ ⟨by omega, by omega⟩ ⟨by omega, by omega⟩) (by simp) (by simp)).mono ?_
  rintro e w2 ⟨rfl, s2, h2, c2, b2⟩
  go_wp2_with fail
  refine (qPush_is h2 ⟨1, 0, false, 5, 2⟩ [⟨1, 0, false, 5, 2⟩, ⟨2, 0, false, 5, 1⟩] (by decide) (ordOk _ _ _ _ _ ⟨by omega, by omega⟩ ⟨by omega, by omega⟩ ⟨by omega, by omega⟩ ⟨by omega, by omega⟩) (by simp) (by simp)).mono ?_
  rintro e w3 ⟨rfl, s3, h3, c3, b3⟩
  go_wp2_with fail
  refine (qPush_is h3 ⟨3, 0, false, 4, 3⟩ [⟨3, 0, false, 4, 3⟩, ⟨1, 0, false, 5, 2⟩, ⟨2, 0, false, 5, 1⟩] (by decide) (ordOk _ _ _ _ _ ⟨by omega, by omega⟩ ⟨by omega, by omega⟩ ⟨by omega, by omega⟩ ⟨by omega, by omega⟩) (by simp) (by simp)).mono ?_
  rintro e w4 ⟨rfl, s4, h4, c4, b4⟩
  have d4 : Chg [] w w4 := by
    have := c1.size
    have := c2.size
    have := c3.size
    exact ((c1.trans' c2 (by simp; omega)).trans' c3 (by simp; omega)).trans' c4 (by simp; omega)
  have e4 : w.heap.size ≤ s4 := by have := c1.size; have := c2.size; have := c3.size; omega
  clear h1 h2 h3 c1 c2 c3 c4 b2 b3 b4
  go_wp2_with fail
  refine (qPeek_cons h4).mono ?_
  rintro e w5 ⟨rfl, c5⟩
  have h5 := (h4.chg c5 (by simp) (by simp)).alloc (.cells #[.int .i64 3, .int .i64 0, .bool false, .int .u64 4, .int .u64 3] 28)
  have d5 := (d4.trans c5).alloc (.cells #[.int .i64 3, .int .i64 0, .bool false, .int .u64 4, .int .u64 3] 28)
  have p5 := Blk.new w5 (oc ⟨3, 0, false, 4, 3⟩) 28
  have q5 := h5.lt
  go_wp2_with fail
  refine (qCut_is h5 2 [⟨3, 0, false, 4, 1⟩, ⟨1, 0, false, 5, 2⟩, ⟨2, 0, false, 5, 1⟩] (by decide) ⟨by omega, by omega⟩).mono ?_
  rintro e w6 ⟨rfl, h6, c6⟩
  have l5 := (h4.chg c5 (by simp) (by simp)).lt
  have p6 := p5.chg c6 (by simp; omega)
  have d6 := d5.trans' c6 (by simp; omega)
  clear h4 h5 c5 d4 d5 p5 q5 c6
  generalize w5.heap.size = g5 at *
  go_wp2_with fail
  refine (qPop_cons h6 (by simp)).mono ?_
  rintro e w7 ⟨rfl, h7, c7⟩
  have p7 := (p6.chg c7 (by simp; omega)).alloc (.cells #[.int .i64 3, .int .i64 0, .bool false, .int .u64 4, .int .u64 1] 28)
  have d7 := (d6.trans' c7 (by simp; omega)).alloc (.cells #[.int .i64 3, .int .i64 0, .bool false, .int .u64 4, .int .u64 1] 28)
  have r7 := Blk.new w7 (oc ⟨3, 0, false, 4, 1⟩) 28
  have l7 := h7.lt
  have m7 := (p6.chg c7 (by simp; omega)).lt
  have h8 := h7.alloc (.cells #[.int .i64 3, .int .i64 0, .bool false, .int .u64 4, .int .u64 1] 28)
  clear h6 p6 d6 c7 h7
  go_wp2_with fail
  generalize w7.heap.size = g7 at *
  refine (qRemove_is h8 (by simp) 2 ⟨2, 0, false, 5, 1⟩ [⟨1, 0, false, 5, 2⟩] (by decide) (by simp) rfl).mono ?_
  rintro e w9 ⟨rfl, h9, c9⟩
  have p9 := (p7.chg c9 (by simp; omega)).alloc (.cells #[.int .i64 2, .int .i64 0, .bool false, .int .u64 5, .int .u64 1] 28)
  have r9 := (r7.chg c9 (by simp; omega)).alloc (.cells #[.int .i64 2, .int .i64 0, .bool false, .int .u64 5, .int .u64 1] 28)
  have d9 := (d7.trans' c9 (by simp; omega)).alloc (.cells #[.int .i64 2, .int .i64 0, .bool false, .int .u64 5, .int .u64 1] 28)
  have t9 := Blk.new w9 (oc ⟨2, 0, false, 5, 1⟩) 28
  have l9 := h9.lt
  have n9 := (r7.chg c9 (by simp; omega)).lt
  have ha := h9.alloc (.cells #[.int .i64 2, .int .i64 0, .bool false, .int .u64 5, .int .u64 1] 28)
  clear p7 d7 r7 h8 h9 c9
  go_wp2_with fail
  generalize w9.heap.size = g9 at *
  refine (qFind_no ha (k := 2) (by simp)).mono ?_
  rintro e wb ⟨rfl, cb⟩
  have pb := (p9.chg cb (by simp)).alloc (.cells #[.int .i64 0, .int .i64 0, .bool false, .int .u64 0, .int .u64 0] 28)
  have rb := (r9.chg cb (by simp)).alloc (.cells #[.int .i64 0, .int .i64 0, .bool false, .int .u64 0, .int .u64 0] 28)
  have tb := (t9.chg cb (by simp)).alloc (.cells #[.int .i64 0, .int .i64 0, .bool false, .int .u64 0, .int .u64 0] 28)
  have db := (d9.trans cb).alloc (.cells #[.int .i64 0, .int .i64 0, .bool false, .int .u64 0, .int .u64 0] 28)
  have hb := (ha.chg cb (by simp) (by simp)).alloc (.cells #[.int .i64 0, .int .i64 0, .bool false, .int .u64 0, .int .u64 0] 28)
  clear p9 r9 t9 d9 ha cb
  go_wp2_with fail
  refine (qAll hb (by simp)).mono ?_
  rintro e wc ⟨v, rfl, ho, cc⟩
  have pc := pb.chg cc (by simp)
  have rc := rb.chg cc (by simp)
  have tc := tb.chg cc (by simp)
  have dc := db.trans cc
  have hc := hb.chg cc (by simp) (by simp)
  obtain ⟨g, cap, rfl, _, k1, k2, hor⟩ := ho.full (by simp)
  have x0 := (Orow.at hor (k := 0) (by simp)).c0
  simp at x0 k1
  have a0 := pc.at (i := 0) rfl
  have a4 := pc.at (i := 4) rfl
  have e0 := rc.at (i := 0) rfl
  have e4' := rc.at (i := 4) rfl
  have f0 := tc.at (i := 0) rfl
  clear pb rb tb db hb ho cc hor pc rc tc
  unfold maxLen at k2
  go_wp2_with fail
  refine (qLen hc).mono ?_
  rintro e w' ⟨rfl, rfl⟩
  go_wp2_with fail
  go_ret
  exact ⟨rfl, dc.below⟩
end Go.Proofs.Ytofcphfgpnobnaa
