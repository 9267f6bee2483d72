import Derived.Test.YtofcphfgpnobnaaQueue2
namespace Go.Proofs.Ytofcphfgpnobnaa
set_option linter.unusedVariables false
open Go Go.Proofs Go.RowKit
attribute [local go_sem ↓] Go.wp_at_zero Go.wp_at_succ

/-- The five cells of a block of the call's own, behind a call that leaves it alone; it may be written. -/
theorem own5 {w w2 : World} {S : List Nat} {T : TypeId} (h : Chg S (w.alloc (.cells #[.int .i64 0, .int .i64 0, .bool false, .int .u64 0, .int .u64 0] T)) w2) (hs : w.heap.size ∉ S) : Blk w2 w.heap.size T (oc Ord.zero) :=
  Blk.chg (Blk.new w (oc Ord.zero) T) h hs

set_option maxRecDepth 100000 in
set_option maxHeartbeats 1000000 in
/-- (*Queue).Pop: none. -/
theorem qPop_nil {w : World} {b s : Nat} {up : Bool} (h : Que w b s up []) : Calls Try.prog 15 #[.pointer (some ⟨b, 0, none⟩)] w fun e w' => e = .returned rzero ∧ Chg [] w w' := by
  go_enter Try.func15, Try.ntmps15
  go_wp2_with fail
  refine (takeNo (h.alloc _) 0 (.inr (by simp))).mono ?_
  rintro e w2 ⟨rfl, cc⟩
  have B1 := own5 cc (by simp)
  have z1 := B1.lt
  have a0 := B1.at (i := 0) rfl
  have a1 := B1.at (i := 1) rfl
  have a2 := B1.at (i := 2) rfl
  have a3 := B1.at (i := 3) rfl
  have a4 := B1.at (i := 4) rfl
  have f0 := B1.free 0
  have f1 := B1.free 1
  have f2 := B1.free 2
  have f3 := B1.free 3
  have f4 := B1.free 4
  have hc : Chg [] w (sto w2 w.heap.size 0 Ord.zero) := sto_chg (((Chg.refl [] w).alloc _).trans cc) _ _ _ (by simp)
  clear B1 cc h
  go_wp2_with fail
  exact bodyPost_ret (v := rzero) (by simp [results, Try.results15, go_sem, a0, a1, a2, a3, a4]) rfl ⟨rfl, hc⟩

set_option maxRecDepth 100000 in
set_option maxHeartbeats 1000000 in
/-- (*Queue).Pop: the first one. -/
theorem qPop_cons {w : World} {b s : Nat} {up : Bool} {x : Ord} {L : List Ord} (h : Que w b s up (x :: L)) (hm : L.length < 999999999999) : Calls Try.prog 15 #[.pointer (some ⟨b, 0, none⟩)] w fun e w' => e = .returned (rord x) ∧ Que w' b s up L ∧ Chg [b, s] w w' := by
  obtain ⟨l, hr, hh, hp⟩ := h.row
  have hl : 0 < l.length := by rw [hp.length_eq]; simp
  have hm' : l.length < 1000000000000 := by rw [hp.length_eq]; simp; omega
  have hx := Lib.hid (heap_head hh hp h.srt)
  have hlt := h.lt
  have HC := takeYes (h.alloc (.cells #[.int .i64 0, .int .i64 0, .bool false, .int .u64 0, .int .u64 0] 28)) (hr.alloc _) hh hp hl hm' hx
  have HT := Lib.hid HC
  have HI : Hid (Ids (x :: L) ∧ Srt up (x :: L)) := ⟨h.ids, h.srt⟩
  clear HC hx h hr
  go_enter Try.func15, Try.ntmps15
  go_wp2_with fail
  refine HT.out.mono ?_
  rintro e w2 ⟨rfl, l', h2, p2, g2, cc⟩
  have B1 := own5 cc (by simp; omega)
  have z1 := B1.lt
  have a0 := B1.at (i := 0) rfl
  have a1 := B1.at (i := 1) rfl
  have a2 := B1.at (i := 2) rfl
  have a3 := B1.at (i := 3) rfl
  have a4 := B1.at (i := 4) rfl
  have f0 := B1.free 0
  have f1 := B1.free 1
  have f2 := B1.free 2
  have f3 := B1.free 3
  have f4 := B1.free 4
  have hc : Chg [b, s] w (sto w2 w.heap.size 0 x) := sto_chg (((Chg.refl [b, s] w).alloc _).trans cc) _ _ _ (by simp)
  have hK : Chg [w.heap.size] w2 (sto w2 w.heap.size 0 x) := sto_chg (Chg.refl _ _) _ _ _ (by simp)
  have p3 : l'.Perm L := (List.perm_cons x).1 (p2.trans hp)
  have hq : Que (sto w2 w.heap.size 0 x) b s up L := ⟨ids_sub HI.out.1 (List.sublist_cons_self _ _), srt_sub HI.out.2 (List.sublist_cons_self _ _), l', h2.chg hK (by simp; omega) (by simp; omega), g2, p3⟩
  clear B1 cc HT hK p3 p2 h2
  go_wp2_with fail
  exact bodyPost_ret (v := rord x) (by simp [results, Try.results15, go_sem, a0, a1, a2, a3, a4]) rfl ⟨rfl, hq, hc⟩

set_option maxRecDepth 100000 in
set_option maxHeartbeats 1000000 in
/-- (*Queue).Cut. -/
theorem qCut {w : World} {b s : Nat} {up : Bool} {L : List Ord} (h : Que w b s up L) (n : Int) (hn : U n) : Calls Try.prog 20 #[.pointer (some ⟨b, 0, none⟩), .int .u64 n] w fun e w' => e = .returned (.tuple #[]) ∧ Que w' b s up (cutQ n L) ∧ Chg [s] w w' := by
  cases L with
  | nil =>
    go_enter Try.func20, Try.ntmps20
    go_wp2_with fail
    refine (qLen h).mono ?_
    rintro e w' ⟨rfl, rfl⟩
    go_wp2_with fail
    go_end0
    exact ⟨rfl, h, Chg.refl _ _⟩
  | cons x L =>
    have hok := (h.ok x (by simp)).qty
    obtain ⟨l, cap, hne, hl, hlc, hcm, h0, ⟨c0, c1, c2, c3, c4⟩, fz, hle⟩ := h.first
    have HLE : Hid ((((x :: L).length : Nat) : Int) = ((l.length : Nat) : Int)) := by show _ = _; rw [hle]
    have hl1 : (0 : Int) < (l.length : Int) := by omega
    have f4 := fz 4
    unfold maxLen at hcm
    simp only [Nat.zero_add] at c1 c2 c3 c4
    obtain ⟨n1, n2⟩ := hn
    obtain ⟨q1, q2⟩ := hok
    clear hle fz
    by_cases hq : n ≤ x.qty
    · have HC : Hid (cutQ n (x :: L) = { x with qty := x.qty - n } :: L) := by show _ = _; rw [cutQ_cons, if_pos hq]
      have HQ : Hid (Que (w.setCell ⟨s, 4, none⟩ (.int .u64 (x.qty - n))) b s up ({ x with qty := x.qty - n } :: L)) := by
        obtain ⟨l2, hr, hh, hp⟩ := h.row
        have hx := heap_head hh hp h.srt
        have hl2 : 0 < l2.length := by rw [hp.length_eq]; simp
        refine ⟨h.ids, cut_srt _ h.srt, l2.set 0 { l2.getD 0 Ord.zero with qty := x.qty - n }, ?_, set0_hp _ hh, by rw [hx]; exact set0_perm _ hp hx⟩
        have hk := h.ok x (by simp)
        have := hr.sto hl2 (o := { l2.getD 0 Ord.zero with qty := x.qty - n }) (by rw [hx]; exact ⟨hk.id, hk.client, hk.price, ⟨by show 0 ≤ x.qty - n; omega, by show x.qty - n < _; omega⟩⟩)
        rw [hx] at this ⊢
        refine ⟨this.ok, by simpa [World.setCell] using hr.lt, ?_⟩
        rcases hr.mem with ⟨_, e⟩ | ⟨cp, sp, g0, g1, g2, g3, g4⟩
        · subst e; simp at hl2
        · refine .inr ⟨cp, sp, g0, by rw [List.length_set]; exact g1.put _ _ g0.symm, ?_, by simpa using g3, g4⟩
          have k2 := g2.set 4 (.int .u64 (x.qty - n))
          have e2 : (ocs l2 ++ sp).set 4 (.int .u64 (x.qty - n)) = ocs (l2.set 0 { x with qty := x.qty - n }) ++ sp := by
            cases l2 with
            | nil => simp at hl2
            | cons y l2 =>
              have : y = x := hx
              subst this
              simp [ocs, oc]
          rw [e2] at k2
          exact k2
      go_enter Try.func20, Try.ntmps20
      go_wp2_with fail
      refine (qLen h).mono ?_
      rw [HLE.out]
      rintro e w' ⟨rfl, rfl⟩
      go_wp2_with fail
      go_end0
      exact ⟨rfl, by rw [HC.out]; exact HQ.out, (Chg.refl [s] w).setCell _ _ (by simp)⟩
    · have HC : Hid (cutQ n (x :: L) = x :: L) := by show _ = _; rw [cutQ_cons, if_neg hq]
      go_enter Try.func20, Try.ntmps20
      go_wp2_with fail
      refine (qLen h).mono ?_
      rw [HLE.out]
      rintro e w' ⟨rfl, rfl⟩
      go_wp2_with fail
      go_end0
      exact ⟨rfl, by rw [HC.out]; exact h, Chg.refl _ _⟩
end Go.Proofs.Ytofcphfgpnobnaa
