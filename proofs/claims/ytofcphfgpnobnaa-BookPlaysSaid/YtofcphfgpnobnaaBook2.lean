import Derived.Test.YtofcphfgpnobnaaBook
namespace Go.Proofs.Ytofcphfgpnobnaa
set_option linter.unusedVariables false
open Go Go.Proofs Go.RowKit
attribute [local go_sem ↓] Go.wp_at_zero Go.wp_at_succ

/-- What stands behind a Rest. -/
def restL (o : Ord) (L : List Ord) : List Ord := if o.qty ≠ 0 ∧ o.buy = true then ins false o L else L
def restM (o : Ord) (M : List Ord) : List Ord := if o.qty ≠ 0 ∧ o.buy = false then ins true o M else M

set_option maxRecDepth 100000 in
set_option maxHeartbeats 1000000 in
/-- Rest. -/
theorem bRest {w : World} {F : List Nat} {k : Nat} {L M : List Ord} (h : Bok w F k L M) {o : Ord} (ho : o.Ok) (hL : ∀ x ∈ L, x.id ≠ o.id) (hM : ∀ x ∈ M, x.id ≠ o.id) (zL : L.length < 999999999999) (zM : M.length < 999999999999) :
    Calls Try.prog 29 #[.pointer (some ⟨k, 0, none⟩), ov o] w fun e w' => e = .returned (.tuple #[]) ∧ ∃ F', Bok w' F' k (restL o L) (restM o M) ∧ Chg F w w' ∧ Grw w.heap.size F F' := by
  by_cases hq : o.qty = 0
  · have e1 : restL o L = L := if_neg (by simp [hq])
    have e2 : restM o M = M := if_neg (by simp [hq])
    rw [e1, e2]
    have hz : (o.qty == 0) = true := by simp [hq]
    clear hq e1 e2 hL hM
    go_enter Try.func29, Try.ntmps29
    go_wp2_with fail
    go_end0
    exact ⟨rfl, F, h.chg0 ((Chg.refl [] w).alloc _), (Chg.refl _ _).alloc _, Grw.refl _ _⟩
  · have hz : (o.qty == 0) = false := by simp [hq]
    obtain ⟨b1, s1, b2, s2, rfl, hb, h1, h2, n1, n2, n3, n4, n5, n6, n7, n8⟩ := h.all
    have l1 := h1.lt
    have l2 := h2.lt
    have l3 := hb.lt
    cases hy : o.buy
    · have e1 : Hid (restL o L = L) := if_neg (by simp [hy])
      have e2 : Hid (restM o M = ins true o M) := if_pos ⟨hq, hy⟩
      have HM := Lib.hid hM
      have HY := Lib.hid hy
      clear hy
      clear hL hM hq h
      go_enter Try.func29, Try.ntmps29
      go_upto_region 2 with (fail)
      have c1 := (Chg.refl [] w).alloc (.cells #[.int .i64 o.id, .int .i64 o.client, .bool o.buy, .int .u64 o.price, .int .u64 o.qty] 28)
      obtain ⟨x0, x1, x2, x3, x4⟩ := box5 w o
      have g1 := h1.chg c1 (by simp) (by simp)
      have g2 := h2.chg c1 (by simp) (by simp)
      have gb := hb.chg c1 (by simp)
      generalize w.alloc _ = W at *
      have X2 := Lib.hid x2
      rw [HY.out] at x2
      have d1 := gb.at (i := 1) rfl
      go_upto_region 1 with (fail)
      clear x2
      have x2 := X2.out
      clear X2
      go_still_tail 5, (by kernel_rfl)
      change wpList _ _ _ _ _ W.drew
      have g3 := g1.drew
      have g4 := g2.drew
      have g5 := gb.drew
      have c2 := c1.drew
      clear x0 x1 x2 x3 x4 d1 gb g1 g2 c1
      generalize W.drew = V at *
      go_wp2_with fail
      refine (qPush g4 ho HM.out zM).mono ?_
      rintro e w3 ⟨rfl, s', h3, c3, hs⟩
      go_wp2_with fail
      go_end0
      refine ⟨rfl, [k, b1, s1, b2, s'], ?_, (c2.mono (by simp)).trans (c3.mono (by simp)), ?_⟩
      · rw [e1.out, e2.out]
        have := c2.size
        exact ⟨b1, s1, b2, s', rfl, g5.chg c3 (by simp; omega), g3.chg c3 (by simp; omega) (by simp; omega), h3, n1, n2, n3, by omega, n5, by omega, n7, by omega⟩
      · have := c2.size
        intro x hx
        simp at hx ⊢
        omega
    · have e1 : Hid (restL o L = ins false o L) := if_pos ⟨hq, hy⟩
      have e2 : Hid (restM o M = M) := if_neg (by simp [hy])
      have HM := Lib.hid hL
      have HY := Lib.hid hy
      clear hy
      clear hL hM hq h
      go_enter Try.func29, Try.ntmps29
      go_upto_region 2 with (fail)
      have c1 := (Chg.refl [] w).alloc (.cells #[.int .i64 o.id, .int .i64 o.client, .bool o.buy, .int .u64 o.price, .int .u64 o.qty] 28)
      obtain ⟨x0, x1, x2, x3, x4⟩ := box5 w o
      have g1 := h1.chg c1 (by simp) (by simp)
      have g2 := h2.chg c1 (by simp) (by simp)
      have gb := hb.chg c1 (by simp)
      generalize w.alloc _ = W at *
      have X2 := Lib.hid x2
      rw [HY.out] at x2
      have d1 := gb.at (i := 0) rfl
      go_upto_region 4 with (fail)
      clear x2
      have x2 := X2.out
      clear X2
      go_still_tail 5, (by kernel_rfl)
      change wpList _ _ _ _ _ W.drew
      have g3 := g1.drew
      have g4 := g2.drew
      have g5 := gb.drew
      have c2 := c1.drew
      clear x0 x1 x2 x3 x4 d1 gb g1 g2 c1
      generalize W.drew = V at *
      go_wp2_with fail
      refine (qPush g3 ho HM.out zL).mono ?_
      rintro e w3 ⟨rfl, s', h3, c3, hs⟩
      go_wp2_with fail
      go_end0
      refine ⟨rfl, [k, b1, s', b2, s2], ?_, (c2.mono (by simp)).trans (c3.mono (by simp)), ?_⟩
      · rw [e1.out, e2.out]
        have := c2.size
        exact ⟨b1, s', b2, s2, rfl, g5.chg c3 (by simp; omega), h3, g4.chg c3 (by simp; omega) (by simp; omega), n1, by omega, n3, n4, n5, n6, by omega, by omega⟩
      · have := c2.size
        intro x hx
        simp at hx ⊢
        omega

set_option maxRecDepth 100000 in
set_option maxHeartbeats 1000000 in
/-- Find. -/
theorem bFind {w : World} {F : List Nat} {k : Nat} {L M : List Ord} (h : Bok w F k L M) (id : Int) :
    Calls Try.prog 33 #[.pointer (some ⟨k, 0, none⟩), .int .i64 id] w fun e w' => e = .returned (.tuple #[ov (pickB id L M).1, .bool (pickB id L M).2]) ∧ Chg [] w w' := by
  obtain ⟨b1, s1, b2, s2, rfl, hb, h1, h2, _⟩ := h.all
  clear h
  have c1 := (Chg.refl [] w).alloc (.cells #[.int .i64 0, .int .i64 0, .bool false, .int .u64 0, .int .u64 0] 28)
  have g1 := h1.chg c1 (by simp) (by simp)
  have d0 := (hb.chg c1 (by simp)).at (i := 0) rfl
  obtain ⟨r, ok, hr⟩ : ∃ r ok, pickQ id L = (r, ok) := ⟨_, _, rfl⟩
  obtain ⟨q, ok2, hq⟩ : ∃ r ok, pickQ id M = (r, ok) := ⟨_, _, rfl⟩
  cases ok
  · have e : pickB id L M = (q, ok2) := by unfold pickB; rw [hr]; exact hq
    rw [e]
    have HR := Lib.hid hr
    have HQ := Lib.hid hq
    clear e hr hq
    go_enter Try.func33, Try.ntmps33
    go_wp2_with fail
    refine (qFind_any g1 id).mono ?_
    rw [HR.out]
    rintro e w2 ⟨rfl, cf⟩
    have B1 := own5 cf (by simp)
    have z1 := B1.lt
    dsimp only
    have c2 := (c1.trans cf).alloc (.cells #[.int .i64 r.id, .int .i64 r.client, .bool r.buy, .int .u64 r.price, .int .u64 r.qty] 28)
    have g2 := h2.chg c2 (by simp) (by simp)
    have d1 := (hb.chg c2 (by simp)).at (i := 1) rfl
    have B2 := B1.alloc (.cells #[.int .i64 r.id, .int .i64 r.client, .bool r.buy, .int .u64 r.price, .int .u64 r.qty] 28)
    clear g1 d0 c1 cf B1
    go_wp2_with fail
    generalize w2.alloc _ = W at *
    refine (qFind_any g2 id).mono ?_
    rw [HQ.out]
    rintro e w3 ⟨rfl, cf⟩
    have B3 := B2.chg cf (by simp)
    have z3 := B3.lt
    have a0 := B3.at (i := 0) rfl
    have a1 := B3.at (i := 1) rfl
    have a2 := B3.at (i := 2) rfl
    have a3 := B3.at (i := 3) rfl
    have a4 := B3.at (i := 4) rfl
    have f0 := B3.free 0
    have f1 := B3.free 1
    have f2 := B3.free 2
    have f3 := B3.free 3
    have f4 := B3.free 4
    have hc : Chg [] w (sto w3 w.heap.size 0 q) := sto_chg (c2.trans cf) _ _ _ (by simp)
    clear B2 B3 c2 cf
    go_wp2_with fail
    exact bodyPost_ret (v := .tuple #[ov q, .bool ok2]) (by simp [results, Try.results33, go_sem, a0, a1, a2, a3, a4]) rfl ⟨rfl, hc⟩
  · have e : pickB id L M = (r, true) := by unfold pickB; rw [hr]; exact rfl
    rw [e]
    have HR := Lib.hid hr
    have HQ := Lib.hid hq
    clear e hr hq
    go_enter Try.func33, Try.ntmps33
    go_wp2_with fail
    refine (qFind_any g1 id).mono ?_
    rw [HR.out]
    rintro e w2 ⟨rfl, cf⟩
    have B1 := own5 cf (by simp)
    have z1 := B1.lt
    dsimp only
    have c2 := (c1.trans cf).alloc (.cells #[.int .i64 r.id, .int .i64 r.client, .bool r.buy, .int .u64 r.price, .int .u64 r.qty] 28)
    have B3 := B1.alloc (.cells #[.int .i64 r.id, .int .i64 r.client, .bool r.buy, .int .u64 r.price, .int .u64 r.qty] 28)
    have BR : Blk (w2.alloc (.cells #[.int .i64 r.id, .int .i64 r.client, .bool r.buy, .int .u64 r.price, .int .u64 r.qty] 28)) w2.heap.size 28 (oc r) := Blk.new w2 (oc r) 28
    have r0 := BR.at (i := 0) rfl
    have r1 := BR.at (i := 1) rfl
    have r2 := BR.at (i := 2) rfl
    have r3 := BR.at (i := 3) rfl
    have r4 := BR.at (i := 4) rfl
    have a0 := B3.at (i := 0) rfl
    have a1 := B3.at (i := 1) rfl
    have a2 := B3.at (i := 2) rfl
    have a3 := B3.at (i := 3) rfl
    have a4 := B3.at (i := 4) rfl
    have f0 := B3.free 0
    have f1 := B3.free 1
    have f2 := B3.free 2
    have f3 := B3.free 3
    have f4 := B3.free 4
    clear g1 d0 c1 cf B1 B3 BR
    go_upto_region 3 with (fail)
    generalize w2.heap.size = gr at *
    generalize w2.alloc _ = W at *
    have hc : Chg [] w (sto W w.heap.size 0 r) := sto_chg c2 _ _ _ (by simp)
    clear c2
    go_wp2_with fail
    exact bodyPost_ret (v := .tuple #[ov r, .bool true]) (by simp [results, Try.results33, go_sem, a0, a1, a2, a3, a4]) rfl ⟨rfl, hc⟩

def remL (k : Int) (L : List Ord) : List Ord := sans k L
def remM (k : Int) (L M : List Ord) : List Ord := if (pickQ k L).2 = true then M else sans k M
set_option maxRecDepth 100000 in
set_option maxHeartbeats 1000000 in
/-- Remove. -/
theorem bRemove {w : World} {F : List Nat} {k : Nat} {L M : List Ord} (h : Bok w F k L M) (id : Int) (zL : L.length < 1000000000000) (zM : M.length < 1000000000000) :
    Calls Try.prog 35 #[.pointer (some ⟨k, 0, none⟩), .int .i64 id] w fun e w' => e = .returned (.tuple #[ov (pickB id L M).1, .bool (pickB id L M).2]) ∧ Bok w' F k (sans id L) (remM id L M) ∧ Chg F w w' := by
  obtain ⟨b1, s1, b2, s2, rfl, hb, h1, h2, n1, n2, n3, n4, n5, n6, n7, n8⟩ := h.all
  have l1 := h1.lt
  have l2 := h2.lt
  have l3 := hb.lt
  clear h
  have c1 := (Chg.refl [] w).alloc (.cells #[.int .i64 0, .int .i64 0, .bool false, .int .u64 0, .int .u64 0] 28)
  have g1 := h1.chg c1 (by simp) (by simp)
  have d0 := (hb.chg c1 (by simp)).at (i := 0) rfl
  obtain ⟨r, ok, hr⟩ : ∃ r ok, pickQ id L = (r, ok) := ⟨_, _, rfl⟩
  obtain ⟨q, ok2, hq⟩ : ∃ r ok, pickQ id M = (r, ok) := ⟨_, _, rfl⟩
  cases ok
  · have e : pickB id L M = (q, ok2) := by unfold pickB; rw [hr]; exact hq
    rw [e]
    have e2 : remM id L M = sans id M := by unfold remM; rw [hr]; rfl
    rw [e2]
    clear e2
    have HR := Lib.hid hr
    have HQ := Lib.hid hq
    clear e hr hq
    go_enter Try.func35, Try.ntmps35
    go_wp2_with fail
    refine (qRemove_pick g1 zL id).mono ?_
    rw [HR.out]
    rintro e w2 ⟨rfl, q1, cf⟩
    have B1 := own5 cf (by simp; omega)
    have z1 := B1.lt
    dsimp only
    have c2 := ((c1.mono (by simp)).trans cf).alloc (.cells #[.int .i64 r.id, .int .i64 r.client, .bool r.buy, .int .u64 r.price, .int .u64 r.qty] 28)
    have g2 := h2.chg c2 (by simp; omega) (by simp; omega)
    have gb := hb.chg c2 (by simp; omega)
    have d1 := gb.at (i := 1) rfl
    have B2 := B1.alloc (.cells #[.int .i64 r.id, .int .i64 r.client, .bool r.buy, .int .u64 r.price, .int .u64 r.qty] 28)
    have q2 := q1.alloc (.cells #[.int .i64 r.id, .int .i64 r.client, .bool r.buy, .int .u64 r.price, .int .u64 r.qty] 28)
    clear g1 d0 c1 cf B1 q1
    go_wp2_with fail
    generalize w2.alloc _ = W at *
    refine (qRemove_pick g2 zM id).mono ?_
    rw [HQ.out]
    rintro e w3 ⟨rfl, q3, cf⟩
    have B3 := B2.chg cf (by simp; omega)
    have z3 := B3.lt
    have a0 := B3.at (i := 0) rfl
    have a1 := B3.at (i := 1) rfl
    have a2 := B3.at (i := 2) rfl
    have a3 := B3.at (i := 3) rfl
    have a4 := B3.at (i := 4) rfl
    have f0 := B3.free 0
    have f1 := B3.free 1
    have f2 := B3.free 2
    have f3 := B3.free 3
    have f4 := B3.free 4
    have hc : Chg [k, b1, s1, b2, s2] w (sto w3 w.heap.size 0 q) := sto_chg ((c2.mono (by simp)).trans (cf.mono (by simp))) _ _ _ (by simp)
    have hK : Chg [w.heap.size] w3 (sto w3 w.heap.size 0 q) := sto_chg (Chg.refl _ _) _ _ _ (by simp)
    have HB : Hid (Bok (sto w3 w.heap.size 0 q) [k, b1, s1, b2, s2] k (sans id L) (sans id M)) :=
      ⟨b1, s1, b2, s2, rfl, (gb.chg cf (by simp; omega)).chg hK (by simp; omega), (q2.chg cf (by simp; omega) (by simp; omega)).chg hK (by simp; omega) (by simp; omega), q3.chg hK (by simp; omega) (by simp; omega), n1, n2, n3, n4, n5, n6, n7, n8⟩
    clear B2 B3 c2 cf q3 q2 g2 gb hK
    go_wp2_with fail
    exact bodyPost_ret (v := .tuple #[ov q, .bool ok2]) (by simp [results, Try.results35, go_sem, a0, a1, a2, a3, a4]) rfl ⟨rfl, HB.out, hc⟩
  · have e : pickB id L M = (r, true) := by unfold pickB; rw [hr]; exact rfl
    rw [e]
    have e2 : remM id L M = M := by unfold remM; rw [hr]; rfl
    rw [e2]
    clear e2
    have HR := Lib.hid hr
    have HQ := Lib.hid hq
    clear e hr hq
    go_enter Try.func35, Try.ntmps35
    go_wp2_with fail
    refine (qRemove_pick g1 zL id).mono ?_
    rw [HR.out]
    rintro e w2 ⟨rfl, q1, cf⟩
    have B1 := own5 cf (by simp; omega)
    have z1 := B1.lt
    dsimp only
    have c2 := ((c1.mono (by simp)).trans cf).alloc (.cells #[.int .i64 r.id, .int .i64 r.client, .bool r.buy, .int .u64 r.price, .int .u64 r.qty] 28)
    have B3 := B1.alloc (.cells #[.int .i64 r.id, .int .i64 r.client, .bool r.buy, .int .u64 r.price, .int .u64 r.qty] 28)
    have BR : Blk (w2.alloc (.cells #[.int .i64 r.id, .int .i64 r.client, .bool r.buy, .int .u64 r.price, .int .u64 r.qty] 28)) w2.heap.size 28 (oc r) := Blk.new w2 (oc r) 28
    have r0 := BR.at (i := 0) rfl
    have r1 := BR.at (i := 1) rfl
    have r2 := BR.at (i := 2) rfl
    have r3 := BR.at (i := 3) rfl
    have r4 := BR.at (i := 4) rfl
    have a0 := B3.at (i := 0) rfl
    have a1 := B3.at (i := 1) rfl
    have a2 := B3.at (i := 2) rfl
    have a3 := B3.at (i := 3) rfl
    have a4 := B3.at (i := 4) rfl
    have f0 := B3.free 0
    have f1 := B3.free 1
    have f2 := B3.free 2
    have f3 := B3.free 3
    have f4 := B3.free 4
    have hK2 := ((c1.mono (by simp)).trans cf).alloc (.cells #[.int .i64 r.id, .int .i64 r.client, .bool r.buy, .int .u64 r.price, .int .u64 r.qty] 28)
    have q1' := q1.alloc (.cells #[.int .i64 r.id, .int .i64 r.client, .bool r.buy, .int .u64 r.price, .int .u64 r.qty] 28)
    clear g1 d0 c1 cf B1 B3 BR q1
    go_upto_region 3 with (fail)
    generalize w2.heap.size = gr at *
    generalize w2.alloc _ = W at *
    have hK : Chg [w.heap.size] W (sto W w.heap.size 0 r) := sto_chg (Chg.refl _ _) _ _ _ (by simp)
    have hc : Chg [k, b1, s1, b2, s2] w (sto W w.heap.size 0 r) := sto_chg (c2.mono (by simp)) _ _ _ (by simp)
    have HB : Hid (Bok (sto W w.heap.size 0 r) [k, b1, s1, b2, s2] k (sans id L) M) :=
      ⟨b1, s1, b2, s2, rfl, (hb.chg hK2 (by simp; omega)).chg hK (by simp; omega), q1'.chg hK (by simp; omega) (by simp; omega), (h2.chg hK2 (by simp; omega) (by simp; omega)).chg hK (by simp; omega) (by simp; omega), n1, n2, n3, n4, n5, n6, n7, n8⟩
    clear c2 hK hK2 q1'
    go_wp2_with fail
    exact bodyPost_ret (v := .tuple #[ov r, .bool true]) (by simp [results, Try.results35, go_sem, a0, a1, a2, a3, a4]) rfl ⟨rfl, HB.out, hc⟩

theorem bBids {w : World} {F : List Nat} {k : Nat} {L M : List Ord} (h : Bok w F k L M) (hz : L.length < 1000000000000) :
    Calls Try.prog 31 #[.pointer (some ⟨k, 0, none⟩)] w fun e w' => ∃ v, e = .returned v ∧ Onew w' w.heap.size v L ∧ Chg [] w w' := by
  obtain ⟨b1, s1, b2, s2, rfl, hb, h1, h2, _⟩ := h.all
  have d0 := hb.at (i := 0) rfl
  go_enter Try.func31, Try.ntmps31
  go_wp2_with fail
  refine (qAll h1 hz).mono ?_
  rintro e w2 ⟨v, rfl, ho, cf⟩
  go_wp2_with fail
  go_ret
  exact ⟨v, rfl, ho, cf⟩

theorem bAsks {w : World} {F : List Nat} {k : Nat} {L M : List Ord} (h : Bok w F k L M) (hz : M.length < 1000000000000) :
    Calls Try.prog 30 #[.pointer (some ⟨k, 0, none⟩)] w fun e w' => ∃ v, e = .returned v ∧ Onew w' w.heap.size v M ∧ Chg [] w w' := by
  obtain ⟨b1, s1, b2, s2, rfl, hb, h1, h2, _⟩ := h.all
  have d0 := hb.at (i := 1) rfl
  go_enter Try.func30, Try.ntmps30
  go_wp2_with fail
  refine (qAll h2 hz).mono ?_
  rintro e w2 ⟨v, rfl, ho, cf⟩
  go_wp2_with fail
  go_ret
  exact ⟨v, rfl, ho, cf⟩

end Go.Proofs.Ytofcphfgpnobnaa
