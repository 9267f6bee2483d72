import Derived.Test.YtofcphfgpnobnaaHeapW2
namespace Go.Proofs.Ytofcphfgpnobnaa
set_option linter.unusedVariables false
open Go Go.Proofs Go.RowKit
attribute [local go_sem] na_push na_pop na_len na_less na_swap me_push me_pop me_len me_less me_swap

abbrev OHp (up : Bool) (l : List Ord) : Prop := Hp Ord.zero (ahead up) l.length l

theorem split_last {α : Type} {m : List α} {n : Nat} {x : α} (h : m.drop n = [x]) : m = m.take n ++ [x] := by
  rw [← h, List.take_append_drop]
theorem drop_last {l : List Ord} {n : Nat} (h : l.length = n + 1) : l.drop n = [l.getD n Ord.zero] := by
  rw [List.drop_eq_getElem_cons (by omega), List.drop_of_length_le (by omega)]
  simp [List.getD, h]

set_option maxRecDepth 100000 in
set_option maxHeartbeats 1000000 in
/-- container/heap.Push. -/
theorem heapPush {w : World} {b s : Nat} {up : Bool} {l : List Ord} (h : Row w b s up l) (hH : OHp up l) {o : Ord} (ho : o.Ok) (hm : l.length < 999999999999) :
    Calls Try.prog 41 #[.iface 78 (.pointer (some ⟨b, 0, none⟩)), .iface 28 (ov o)] w fun e w' => e = .returned (.tuple #[]) ∧ ∃ s' l', Row w' b s' up l' ∧ l'.Perm (l ++ [o]) ∧ OHp up l' ∧ Chg [b, s] w w' ∧ (s' = s ∨ w.heap.size ≤ s') := by
  have hU := hH.push o
  go_enter Try.func41, Try.ntmps41
  go_wp2_with fail
  refine (rowPush h ho (by omega)).mono ?_
  rintro e w1 ⟨rfl, s', h1, c1, hs⟩
  go_wp2_with fail
  refine (rowLen h1).mono ?_
  rw [show (((l ++ [o]).length : Nat) : Int) = (l.length : Int) + 1 by simp]
  rintro e w' ⟨rfl, rfl⟩
  go_wp2_with fail
  refine (heapUp h1 (n := l.length + 1) (j := l.length) (by omega) (by simp) (by simp; omega) hU).mono ?_
  rintro e w2 ⟨rfl, l', h2, p2, _, g2, c2⟩
  go_wp2_with fail
  go_end0
  have e := p2.length_eq
  exact ⟨rfl, s', l', h2, p2, by unfold OHp; rw [e]; simpa using g2, c1.trans' c2 (by intro x hx; simp at hx; subst hx; rcases hs with h | h; left; simp [h]; exact .inr h), hs⟩

/-- What is left of a heap whose last one goes. -/
theorem Hp.cut {up : Bool} {m : List Ord} {n : Nat} (h : Hp Ord.zero (ahead up) n m) (hn : n ≤ m.length) : OHp up (m.take n) := by
  unfold OHp
  rw [List.length_take, Nat.min_eq_left hn]
  exact h.take (Nat.le_refl _) hn

set_option maxRecDepth 100000 in
set_option maxHeartbeats 2000000 in
theorem heapRemove_x {w : World} {b s : Nat} {up : Bool} {l : List Ord} (h : Row w b s up l) (hH : OHp up l) {i : Nat} (hi : i < l.length) (hm : l.length < 1000000000000) {x : Ord} (hx : Hid (l.getD i Ord.zero = x)) :
    Calls Try.prog 53 #[.iface 78 (.pointer (some ⟨b, 0, none⟩)), .int .i64 i] w fun e w' => e = .returned (.iface 28 (ov x)) ∧ ∃ l', Row w' b s up l' ∧ (x :: l').Perm l ∧ OHp up l' ∧ Chg [b, s] w w' := by
  obtain ⟨n, hn⟩ : ∃ n, l.length = n + 1 := ⟨l.length - 1, by omega⟩
  have HN := Lib.hid hn
  have hLen : Hid (((l.length : Nat) : Int) = (n : Int) + 1) := by show _ = _; omega
  have nm : n + 1 < 1000000000000 := by omega
  have ni : i ≤ n := by omega
  clear hn hm
  by_cases hin : n = i
  · subst hin
    have hl : l = l.take n ++ [x] := split_last (by rw [drop_last HN.out, hx.out])
    have HL := Lib.hid hl
    clear hl
    go_enter Try.func53, Try.ntmps53
    go_wp2_with fail
    refine (rowLen h).mono ?_
    rw [hLen.out]
    rintro e w' ⟨rfl, rfl⟩
    rw [HL.out] at h
    go_wp2_with fail
    refine (rowPop h).mono ?_
    rintro e w1 ⟨rfl, h1, c1⟩
    go_wp2_with fail
    go_ret
    refine ⟨rfl, _, h1, ?_, Hp.cut (Hp.mono hH (by have := HN.out; omega)) (by omega), c1.mono (by simp)⟩
    have := List.perm_append_comm (l₁ := [x]) (l₂ := l.take n)
    rw [← HL.out] at this
    exact this
  · have hlt : i < n := by omega
    have hne : ((n : Int) != (i : Int)) = true := by rw [bne_iff_ne]; omega
    have hD := Hp.out (ahead_swo up) HN.out (by rw [← HN.out]; exact hH) hlt
    have hP := sw_perm Ord.zero (l := l) (i := i) (j := n) hi (by have := HN.out; omega)
    have hG : Hid ((sw Ord.zero l i n).drop n = [x]) := by
      show _ = _
      rw [drop_last (by rw [sw_len]; exact HN.out), sw_get Ord.zero hi (by have := HN.out; omega), if_pos rfl, hx.out]
    have hLs : (sw Ord.zero l i n).length = n + 1 := by rw [sw_len]; exact HN.out
    have HLs := Lib.hid hLs
    have hLe : n ≤ (sw Ord.zero l i n).length := by omega
    have hLm : (sw Ord.zero l i n).length < 1000000000000 := by omega
    have HP := Lib.hid hP
    clear hP hLs hin
    have fin : ∀ (m : List Ord) (w' : World), m.Perm (sw Ord.zero l i n) → m.drop n = (sw Ord.zero l i n).drop n → Row w' b s up m → Row w' b s up (m.take n ++ [x]) ∧ (x :: m.take n).Perm l := fun m w' p d r => by
      have e := split_last (d.trans hG.out)
      refine ⟨by rw [← e]; exact r, ?_⟩
      have := List.perm_append_comm (l₁ := [x]) (l₂ := m.take n)
      rw [← e] at this
      exact this.trans (p.trans HP.out)
    have FIN := Lib.hid fin
    clear fin
    go_enter Try.func53, Try.ntmps53
    go_wp2_with fail
    refine (rowLen h).mono ?_
    rw [hLen.out]
    rintro e w' ⟨rfl, rfl⟩
    go_wp2_with fail
    refine (rowSwap h (i := i) (j := n) hi (by have := HN.out; omega) (by omega)).mono ?_
    rintro e w1 ⟨rfl, h1, c1⟩
    generalize sw Ord.zero l i n = m at *
    go_wp2_with fail
    refine (heapDown h1 hlt hLe hLm hD).mono ?_
    rintro e w2 ⟨t, rfl, m2, h2, p2, d2, y2, n2, c2⟩
    have c3 := c1.trans c2
    have l2 : n ≤ m2.length := by rw [p2.length_eq]; exact hLe
    have l3 : m2.length < 1000000000000 := by rw [p2.length_eq]; exact hLm
    clear h1 c1 c2 hLe hLm hD
    cases t with
    | true =>
      obtain ⟨r3, p3⟩ := FIN.out m2 w2 p2 d2 h2
      have HY := Hp.cut (y2 rfl) l2
      clear h2 p2 d2 y2 n2 hG
      go_wp2_with fail
      refine (rowPop r3).mono ?_
      rintro e w3 ⟨rfl, h3, c4⟩
      go_wp2_with fail
      go_ret
      exact ⟨rfl, _, h3, p3, HY, (c3.mono (by simp)).trans (c4.mono (by simp))⟩
    | false =>
      have hU := n2 rfl
      clear y2 n2
      go_wp2_with fail
      refine (heapUp h2 hlt l2 l3 hU).mono ?_
      rintro e w3 ⟨rfl, m3, h3, p3, d3, y3, c4⟩
      have l4 : n ≤ m3.length := by rw [p3.length_eq]; exact l2
      obtain ⟨r4, p4⟩ := FIN.out m3 w3 (p3.trans p2) (d3.trans d2) h3
      have HY := Hp.cut y3 l4
      have c5 := c3.trans c4
      clear h2 p2 d2 hG h3 p3 d3 y3 c3 c4 hU
      go_wp2_with fail
      refine (rowPop r4).mono ?_
      rintro e w4 ⟨rfl, h5, c6⟩
      go_wp2_with fail
      go_ret
      exact ⟨rfl, _, h5, p4, HY, (c5.mono (by simp)).trans (c6.mono (by simp))⟩
/-- container/heap.Remove. -/
theorem heapRemove {w : World} {b s : Nat} {up : Bool} {l : List Ord} (h : Row w b s up l) (hH : OHp up l) {i : Nat} (hi : i < l.length) (hm : l.length < 1000000000000) :
    Calls Try.prog 53 #[.iface 78 (.pointer (some ⟨b, 0, none⟩)), .int .i64 i] w fun e w' => e = .returned (.iface 28 (ov (l.getD i Ord.zero))) ∧ ∃ l', Row w' b s up l' ∧ (l.getD i Ord.zero :: l').Perm l ∧ OHp up l' ∧ Chg [b, s] w w' :=
  heapRemove_x h hH hi hm rfl
end Go.Proofs.Ytofcphfgpnobnaa
