import Derived.Test.YtofcphfgpnobnaaQueue
namespace Go.Proofs.Ytofcphfgpnobnaa
set_option linter.unusedVariables false
open Go Go.Proofs Go.RowKit
attribute [local go_sem ↓] Go.wp_at_zero Go.wp_at_succ

abbrev rzero : Value := .tuple #[ov Ord.zero, .bool false]
abbrev rord (o : Ord) : Value := .tuple #[ov o, .bool true]

/-- (*Queue).Peek. -/
theorem qPeek_nil {w : World} {b s : Nat} {up : Bool} (h : Que w b s up []) : Calls Try.prog 14 #[.pointer (some ⟨b, 0, none⟩)] w fun e w' => e = .returned rzero ∧ Chg [] w w' := by
  go_enter Try.func14, Try.ntmps14
  go_wp2_with fail
  refine (qLen (h.alloc _)).mono ?_
  rintro e w' ⟨rfl, rfl⟩
  go_wp2_with fail
  exact bodyPost_ret (v := rzero) (by simp [results, Try.results14, go_sem]) rfl ⟨rfl, (Chg.refl [] w).alloc _⟩

theorem Que.first {w : World} {b s : Nat} {up : Bool} {x : Ord} {L : List Ord} (h : Que w b s up (x :: L)) : ∃ (l : List Ord) (cap : Nat), s ≠ b ∧ 0 < l.length ∧ l.length ≤ cap ∧ cap ≤ maxLen ∧ w.cell? ⟨b, 0, none⟩ = some (.slice (some ⟨s, 0, none⟩) l.length cap) ∧ Oat w s 0 x ∧ (∀ k, w.frozen? ⟨s, k, none⟩ = false) ∧ l.length = (x :: L).length := by
  obtain ⟨l, hr, hh, hp⟩ := h.row
  have hl : 0 < l.length := by rw [hp.length_eq]; simp
  obtain ⟨cap, h1, h2, h3, h4, h5⟩ := hr.full (by rintro rfl; simp at hl)
  have h6 := h5.at hl
  rw [heap_head hh hp h.srt] at h6
  exact ⟨l, cap, h1, hl, h2, h3, h4, by simpa using h6, fun k => Beg.free h5 k, hp.length_eq⟩
theorem cell_alloc {w : World} {a : Addr} {v : Value} (h : w.cell? a = some v) (o : Obj) : (w.alloc o).cell? a = some v :=
  ((Chg.refl [] w).alloc o).cell h (by simp)

theorem qPeek_cons {w : World} {b s : Nat} {up : Bool} {x : Ord} {L : List Ord} (h : Que w b s up (x :: L)) : Calls Try.prog 14 #[.pointer (some ⟨b, 0, none⟩)] w fun e w' => e = .returned (rord x) ∧ Chg [] w w' := by
  obtain ⟨l, cap, hne, hl, hlc, hcm, h0, ⟨c0, c1, c2, c3, c4⟩, _, hle⟩ := h.first
  have HLE : Hid ((((x :: L).length : Nat) : Int) = ((l.length : Nat) : Int)) := by show _ = _; rw [hle]
  have hl0 : ((l.length : Int) == 0) = false := beq_eq_false_iff_ne.2 (by omega)
  have hl1 : (0 : Int) < (l.length : Int) := by omega
  unfold maxLen at hcm
  simp only [Nat.zero_add] at c1 c2 c3 c4
  have hbl := h.lt.1
  have hsl := h.lt.2
  clear hle
  go_enter Try.func14, Try.ntmps14
  go_wp2_with fail
  refine (qLen (h.alloc _)).mono ?_
  rw [HLE.out]
  rintro e w' ⟨rfl, rfl⟩
  go_wp2_with fail
  exact bodyPost_ret (v := rord x) (by simp [results, Try.results14, go_sem]) rfl ⟨rfl, (Chg.refl [] w).alloc _⟩

set_option maxRecDepth 100000 in
set_option maxHeartbeats 1000000 in
/-- (*Queue).take: none. -/
theorem takeNo {w : World} {b s : Nat} {up : Bool} {L : List Ord} (h : Que w b s up L) (i : Int) (hi : i < 0 ∨ (L.length : Int) ≤ i) : Calls Try.prog 42 #[.pointer (some ⟨b, 0, none⟩), .int .i64 i] w fun e w' => e = .returned rzero ∧ Chg [] w w' := by
  by_cases h0 : i < 0
  · go_enter Try.func42, Try.ntmps42
    go_wp2_with fail
    exact bodyPost_ret (v := rzero) (by simp [results, Try.results42, go_sem]) rfl ⟨rfl, (Chg.refl [] w).alloc _⟩
  · have h1 : (L.length : Int) ≤ i := by omega
    go_enter Try.func42, Try.ntmps42
    go_wp2_with fail
    refine (qLen (h.alloc _)).mono ?_
    rintro e w' ⟨rfl, rfl⟩
    go_wp2_with fail
    exact bodyPost_ret (v := rzero) (by simp [results, Try.results42, go_sem]) rfl ⟨rfl, (Chg.refl [] w).alloc _⟩

set_option maxRecDepth 100000 in
set_option maxHeartbeats 1000000 in
/-- (*Queue).take: one. -/
theorem takeYes {w : World} {b s : Nat} {up : Bool} {L l : List Ord} (h : Que w b s up L) (hr : Row w b s up l) (hh : OHp up l) (hp : l.Perm L) {i : Nat} (hi : i < l.length) (hm : l.length < 1000000000000) {x : Ord} (hx : Hid (l.getD i Ord.zero = x)) :
    Calls Try.prog 42 #[.pointer (some ⟨b, 0, none⟩), .int .i64 i] w fun e w' => e = .returned (rord x) ∧ ∃ l', Row w' b s up l' ∧ (x :: l').Perm l ∧ OHp up l' ∧ Chg [b, s] w w' := by
  obtain ⟨cap, hne, hlc, hcm, h0, hor⟩ := hr.full (by rintro rfl; simp at hi)
  obtain ⟨c0, c1, c2, c3, c4⟩ := hor.at hi
  rw [hx.out] at c0 c1 c2 c3 c4
  have HLE : Hid (((L.length : Nat) : Int) = ((l.length : Nat) : Int)) := by show _ = _; rw [hp.length_eq]
  have hbl := hr.hlt
  have hsl := hr.lt
  have i1 : (0 : Int) ≤ (i : Int) := by omega
  have i2 : (i : Int) < (l.length : Int) := by omega
  unfold maxLen at hcm
  have hRem := heapRemove_x (((hr.alloc (.cells #[.int .i64 0, .int .i64 0, .bool false, .int .u64 0, .int .u64 0] 28)).alloc (.cells #[.int .i64 x.id, .int .i64 x.client, .bool x.buy, .int .u64 x.price, .int .u64 x.qty] 28))) hh hi hm hx
  have HR := Lib.hid hRem
  clear hRem hor
  go_enter Try.func42, Try.ntmps42
  go_wp2_with fail
  refine (qLen (h.alloc _)).mono ?_
  rw [HLE.out]
  rintro e w' ⟨rfl, rfl⟩
  go_wp2_with fail
  refine HR.out.mono ?_
  rintro e w2 ⟨rfl, l', h2, p2, g2, cc⟩
  clear h hr h0 c0 c1 c2 c3 c4 HR
  have B1 : Blk w2 w.heap.size 28 (oc Ord.zero) := Blk.chg (Blk.alloc (Blk.new w (oc Ord.zero) _) _) cc (by simp; omega)
  have B2 : Blk w2 (w.heap.size + 1) 28 (oc x) := Blk.chg (by have := Blk.new (w.alloc (.cells #[.int .i64 0, .int .i64 0, .bool false, .int .u64 0, .int .u64 0] 28)) (oc x) 28; rwa [World.size_alloc] at this) cc (by simp; omega)
  have c5 : Chg [b, s] w w2 := (((Chg.refl [b, s] w).alloc _).alloc _).trans cc
  have z1 := B1.lt
  have z2 := B2.lt
  have a0 := B1.at (i := 0) rfl
  have a1 := B1.at (i := 1) rfl
  have a2 := B1.at (i := 2) rfl
  have a3 := B1.at (i := 3) rfl
  have a4 := B1.at (i := 4) rfl
  have b0 := B2.at (i := 0) rfl
  have b1 := B2.at (i := 1) rfl
  have b2 := B2.at (i := 2) rfl
  have b3 := B2.at (i := 3) rfl
  have b4 := B2.at (i := 4) rfl
  have f0 := B1.free 0
  have f1 := B1.free 1
  have f2 := B1.free 2
  have f3 := B1.free 3
  have f4 := B1.free 4
  clear B1 B2 cc
  go_wp2_with fail
  have hK : Chg [w.heap.size] w2 (sto w2 w.heap.size 0 x) := sto_chg (Chg.refl _ _) _ _ _ (by simp)
  have hK2 : Chg [b, s] w (sto w2 w.heap.size 0 x) := sto_chg c5 _ _ _ (by simp)
  exact bodyPost_ret (v := rord x) (by simp [results, Try.results42, go_sem, a0, a1, a2, a3, a4]) rfl ⟨rfl, l', h2.chg hK (by simp; omega) (by simp; omega), p2, g2, hK2⟩
end Go.Proofs.Ytofcphfgpnobnaa
