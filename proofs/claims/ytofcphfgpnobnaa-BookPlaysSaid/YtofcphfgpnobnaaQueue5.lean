import Derived.Test.YtofcphfgpnobnaaQueue4
namespace Go.Proofs.Ytofcphfgpnobnaa
set_option linter.unusedVariables false
open Go Go.Proofs Go.RowKit
attribute [local go_sem ↓] Go.wp_at_zero Go.wp_at_succ

theorem ids_eq {L : List Ord} (h : Ids L) {x y : Ord} (hx : x ∈ L) (hy : y ∈ L) (e : x.id = y.id) : x = y := by
  induction L with
  | nil => simp at hx
  | cons a L ih =>
    unfold Ids at h
    rw [List.map_cons, List.nodup_cons] at h
    rcases List.mem_cons.1 hx with h1 | h1 <;> rcases List.mem_cons.1 hy with h2 | h2
    · rw [h1, h2]
    · subst h1; exact absurd (List.mem_map.2 ⟨y, h2, e.symm⟩) h.1
    · subst h2; exact absurd (List.mem_map.2 ⟨x, h1, e⟩) h.1
    · exact ih h.2 h1 h2
theorem found_no {l L : List Ord} {k r : Int} (h : FoundAt l k r) (hp : l.Perm L) (hn : ∀ x ∈ L, x.id ≠ k) : r = -1 := by
  rcases h with ⟨j, hj, e, _⟩ | ⟨_, h⟩
  · exact absurd e (hn _ (hp.mem_iff.1 (by simp [List.getD, hj])))
  · exact h
theorem found_yes {l L : List Ord} {k r : Int} (h : FoundAt l k r) (hp : l.Perm L) (hi : Ids L) {x : Ord} (hx : x ∈ L) (hk : x.id = k) : ∃ j : Nat, j < l.length ∧ l.getD j Ord.zero = x ∧ r = j := by
  rcases h with ⟨j, hj, e, hr⟩ | ⟨h, _⟩
  · exact ⟨j, hj, ids_eq hi (hp.mem_iff.1 (by simp [List.getD, hj])) hx (by rw [e, hk]), hr⟩
  · exact absurd hk (h x (hp.mem_iff.2 hx))

set_option maxRecDepth 100000 in
set_option maxHeartbeats 1000000 in
/-- (*Queue).Remove: none. -/
theorem qRemove_no {w : World} {b s : Nat} {up : Bool} {L : List Ord} (h : Que w b s up L) {k : Int} (hn : ∀ x ∈ L, x.id ≠ k) : Calls Try.prog 19 #[.pointer (some ⟨b, 0, none⟩), .int .i64 k] w fun e w' => e = .returned rzero ∧ Chg [] w w' := by
  obtain ⟨l, hr, hh, hp⟩ := h.row
  have HN := Lib.hid hn
  clear hn
  have hq := h.alloc (.cells #[.int .i64 0, .int .i64 0, .bool false, .int .u64 0, .int .u64 0] 28)
  have hr2 := hr.alloc (.cells #[.int .i64 0, .int .i64 0, .bool false, .int .u64 0, .int .u64 0] 28)
  go_enter Try.func19, Try.ntmps19
  go_wp2_with fail
  refine (qFindAt hr2 k).mono ?_
  rintro e w1 ⟨r, rfl, hf, cf⟩
  obtain rfl := found_no hf hp HN.out
  have hq2 := hq.chg cf (by simp) (by simp)
  go_wp2_with fail
  refine (takeNo hq2 (-1) (.inl (by omega))).mono ?_
  rintro e w2 ⟨rfl, cc⟩
  have B1 := own5 (cf.trans cc) (by simp)
  have z1 := B1.lt
  have a0 := B1.at (i := 0) rfl
  have a1 := B1.at (i := 1) rfl
  have a2 := B1.at (i := 2) rfl
  have a3 := B1.at (i := 3) rfl
  have a4 := B1.at (i := 4) rfl
  have f0 := B1.free 0
  have f1 := B1.free 1
  have f2 := B1.free 2
  have f3 := B1.free 3
  have f4 := B1.free 4
  have hc : Chg [] w (sto w2 w.heap.size 0 Ord.zero) := sto_chg ((((Chg.refl [] w).alloc _).trans cf).trans cc) _ _ _ (by simp)
  clear B1 cc h hr hq hr2 hq2 cf
  go_wp2_with fail
  exact bodyPost_ret (v := rzero) (by simp [results, Try.results19, go_sem, a0, a1, a2, a3, a4]) rfl ⟨rfl, hc⟩

set_option maxRecDepth 100000 in
set_option maxHeartbeats 1000000 in
/-- (*Queue).Remove: one. -/
theorem qRemove_yes {w : World} {b s : Nat} {up : Bool} {L : List Ord} (h : Que w b s up L) (hm : L.length < 1000000000000) {k : Int} {x : Ord} (hx : x ∈ L) (hk : x.id = k) : Calls Try.prog 19 #[.pointer (some ⟨b, 0, none⟩), .int .i64 k] w fun e w' => e = .returned (rord x) ∧ Que w' b s up (sans k L) ∧ Chg [b, s] w w' := by
  obtain ⟨l, hr, hh, hp⟩ := h.row
  have hlt := h.lt
  have HK := Lib.hid hk
  clear hk
  have HI : Hid (Ids L ∧ Srt up L) := ⟨h.ids, h.srt⟩
  have hm' : l.length < 1000000000000 := by rw [hp.length_eq]; exact hm
  have hq := h.alloc (.cells #[.int .i64 0, .int .i64 0, .bool false, .int .u64 0, .int .u64 0] 28)
  have hr2 := hr.alloc (.cells #[.int .i64 0, .int .i64 0, .bool false, .int .u64 0, .int .u64 0] 28)
  go_enter Try.func19, Try.ntmps19
  go_wp2_with fail
  refine (qFindAt hr2 k).mono ?_
  rintro e w1 ⟨r, rfl, hf, cf⟩
  obtain ⟨j, hj, hg, rfl⟩ := found_yes hf hp HI.out.1 hx HK.out
  have HG := Lib.hid hg
  clear hg
  have hq2 := hq.chg cf (by simp) (by simp)
  have hr3 := hr2.chg cf (by simp) (by simp)
  go_wp2_with fail
  refine (takeYes hq2 hr3 hh hp hj hm' HG).mono ?_
  rintro e w2 ⟨rfl, l', h2, p2, g2, cc⟩
  have B1 := own5 ((cf.mono (by simp)).trans cc) (by simp; omega)
  have z1 := B1.lt
  have a0 := B1.at (i := 0) rfl
  have a1 := B1.at (i := 1) rfl
  have a2 := B1.at (i := 2) rfl
  have a3 := B1.at (i := 3) rfl
  have a4 := B1.at (i := 4) rfl
  have f0 := B1.free 0
  have f1 := B1.free 1
  have f2 := B1.free 2
  have f3 := B1.free 3
  have f4 := B1.free 4
  have hc : Chg [b, s] w (sto w2 w.heap.size 0 x) := sto_chg ((((Chg.refl [b, s] w).alloc _).trans (cf.mono (by simp))).trans cc) _ _ _ (by simp)
  have hK : Chg [w.heap.size] w2 (sto w2 w.heap.size 0 x) := sto_chg (Chg.refl _ _) _ _ _ (by simp)
  have p3 : l'.Perm (sans k L) := by rw [← HK.out]; exact sans_perm (p2.trans hp) HI.out.1
  have hq9 : Que (sto w2 w.heap.size 0 x) b s up (sans k L) := ⟨ids_sub HI.out.1 (sans_sub _ _), srt_sub HI.out.2 (sans_sub _ _), l', h2.chg hK (by simp; omega) (by simp; omega), g2, p3⟩
  clear B1 cc h hr hq hr2 hq2 hr3 cf hK p3 p2 h2 hf
  go_wp2_with fail
  exact bodyPost_ret (v := rord x) (by simp [results, Try.results19, go_sem, a0, a1, a2, a3, a4]) rfl ⟨rfl, hq9, hc⟩

set_option maxRecDepth 100000 in
set_option maxHeartbeats 1000000 in
/-- (*Queue).Find: none. -/
theorem qFind_no {w : World} {b s : Nat} {up : Bool} {L : List Ord} (h : Que w b s up L) {k : Int} (hn : ∀ x ∈ L, x.id ≠ k) : Calls Try.prog 21 #[.pointer (some ⟨b, 0, none⟩), .int .i64 k] w fun e w' => e = .returned rzero ∧ Chg [] w w' := by
  obtain ⟨l, hr, hh, hp⟩ := h.row
  have HN := Lib.hid hn
  clear hn
  have hr2 := hr.alloc (.cells #[.int .i64 0, .int .i64 0, .bool false, .int .u64 0, .int .u64 0] 28)
  go_enter Try.func21, Try.ntmps21
  go_wp2_with fail
  refine (qFindAt hr2 k).mono ?_
  rintro e w2 ⟨r, rfl, hf, cf⟩
  obtain rfl := found_no hf hp HN.out
  have B1 := own5 cf (by simp)
  have z1 := B1.lt
  have a0 := B1.at (i := 0) rfl
  have a1 := B1.at (i := 1) rfl
  have a2 := B1.at (i := 2) rfl
  have a3 := B1.at (i := 3) rfl
  have a4 := B1.at (i := 4) rfl
  have f0 := B1.free 0
  have f1 := B1.free 1
  have f2 := B1.free 2
  have f3 := B1.free 3
  have f4 := B1.free 4
  have hc : Chg [] w (sto w2 w.heap.size 0 Ord.zero) := sto_chg (((Chg.refl [] w).alloc _).trans cf) _ _ _ (by simp)
  clear B1 h hr hr2 cf
  go_wp2_with fail
  exact bodyPost_ret (v := rzero) (by simp [results, Try.results21, go_sem, a0, a1, a2, a3, a4]) rfl ⟨rfl, hc⟩

set_option maxRecDepth 100000 in
set_option maxHeartbeats 1000000 in
/-- (*Queue).Find: one. -/
theorem qFind_yes {w : World} {b s : Nat} {up : Bool} {L : List Ord} (h : Que w b s up L) {k : Int} {x : Ord} (hx : x ∈ L) (hk : x.id = k) : Calls Try.prog 21 #[.pointer (some ⟨b, 0, none⟩), .int .i64 k] w fun e w' => e = .returned (rord x) ∧ Chg [] w w' := by
  obtain ⟨l, hr, hh, hp⟩ := h.row
  have hlt := h.lt
  have HK := Lib.hid hk
  clear hk
  have hr2 := hr.alloc (.cells #[.int .i64 0, .int .i64 0, .bool false, .int .u64 0, .int .u64 0] 28)
  have HI := Lib.hid h.ids
  go_enter Try.func21, Try.ntmps21
  go_wp2_with fail
  refine (qFindAt hr2 k).mono ?_
  rintro e w2 ⟨r, rfl, hf, cf⟩
  obtain ⟨j, hj, hg, rfl⟩ := found_yes hf hp HI.out hx HK.out
  have hr3 := hr2.chg cf (by simp) (by simp)
  obtain ⟨cap, hne, hlc, hcm, h0, hor⟩ := hr3.full (by rintro rfl; simp at hj)
  obtain ⟨c0, c1, c2, c3, c4⟩ := hor.at hj
  rw [hg] at c0 c1 c2 c3 c4
  have i1 : (0 : Int) ≤ (j : Int) := by omega
  have i2 : (j : Int) < (l.length : Int) := by omega
  unfold maxLen at hcm
  have B1 := own5 cf (by simp)
  have z1 := B1.lt
  have a0 := B1.at (i := 0) rfl
  have a1 := B1.at (i := 1) rfl
  have a2 := B1.at (i := 2) rfl
  have a3 := B1.at (i := 3) rfl
  have a4 := B1.at (i := 4) rfl
  have f0 := B1.free 0
  have f1 := B1.free 1
  have f2 := B1.free 2
  have f3 := B1.free 3
  have f4 := B1.free 4
  have hc : Chg [] w (sto w2 w.heap.size 0 x) := sto_chg (((Chg.refl [] w).alloc _).trans cf) _ _ _ (by simp)
  clear B1 h hr hr2 hr3 cf hor hf hg
  go_wp2_with fail
  exact bodyPost_ret (v := rord x) (by simp [results, Try.results21, go_sem, a0, a1, a2, a3, a4]) rfl ⟨rfl, hc⟩
end Go.Proofs.Ytofcphfgpnobnaa
