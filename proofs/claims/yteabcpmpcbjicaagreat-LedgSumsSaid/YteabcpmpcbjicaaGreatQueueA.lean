
import Derived.Test.YteabcpmpcbjicaaGreatHeapA
import Derived.Test.YteabcpmpcbjicaaGreatMemA
namespace Go.Proofs.YteabcpmpcbjicaaGreat
set_option linter.unusedVariables false
open Go Go.Proofs Go.RowKit
attribute [local go_sem ↓] Go.wp_at_zero Go.wp_at_succ

/-- A queue in memory. -/
structure Que (w : World) (b s : Nat) (up : Bool) (L : List Ord) : Prop where
  ids : Ids L
  srt : Srt up L
  row : ∃ l, Row w b s up l ∧ OHp up l ∧ l.Perm L

theorem Que.chg {w w' : World} {b s : Nat} {up : Bool} {L : List Ord} {S : List Nat} (h : Que w b s up L) (g : Chg S w w') (hb : b ∉ S) (hs : s ∉ S) : Que w' b s up L :=
  ⟨h.ids, h.srt, h.row.elim fun l k => ⟨l, k.1.chg g hb hs, k.2⟩⟩
theorem Que.lt {w : World} {b s : Nat} {up : Bool} {L : List Ord} (h : Que w b s up L) : b < w.heap.size ∧ s < w.heap.size := h.row.elim fun l k => ⟨k.1.hlt, k.1.lt⟩
theorem Que.ok {w : World} {b s : Nat} {up : Bool} {L : List Ord} (h : Que w b s up L) : ∀ o ∈ L, o.Ok := h.row.elim fun l k o ho => k.1.ok o (k.2.2.mem_iff.2 ho)
theorem Que.drew {w : World} {b s : Nat} {up : Bool} {L : List Ord} (h : Que w b s up L) : Que w.drew b s up L := ⟨h.ids, h.srt, h.row.elim fun l k => ⟨l, k.1.drew, k.2⟩⟩
theorem Que.drewN {w : World} {b s : Nat} {up : Bool} {L : List Ord} (h : Que w b s up L) (n : Nat) : Que (w.drewN n) b s up L := ⟨h.ids, h.srt, h.row.elim fun l k => ⟨l, k.1.drewN n, k.2⟩⟩
theorem Que.alloc {w : World} {b s : Nat} {up : Bool} {L : List Ord} (h : Que w b s up L) (o : Obj) : Que (w.alloc o) b s up L := ⟨h.ids, h.srt, h.row.elim fun l k => ⟨l, k.1.alloc o, k.2⟩⟩

/-- An order in a block of its own. -/
theorem box5 (w : World) (o : Ord) : (w.alloc (.cells #[.int .i64 o.id, .int .i64 o.client, .bool o.buy, .int .u64 o.price, .int .u64 o.qty] 73)).cell? ⟨w.heap.size, 0, none⟩ = some (.int .i64 o.id) ∧
    (w.alloc (.cells #[.int .i64 o.id, .int .i64 o.client, .bool o.buy, .int .u64 o.price, .int .u64 o.qty] 73)).cell? ⟨w.heap.size, 1, none⟩ = some (.int .i64 o.client) ∧
    (w.alloc (.cells #[.int .i64 o.id, .int .i64 o.client, .bool o.buy, .int .u64 o.price, .int .u64 o.qty] 73)).cell? ⟨w.heap.size, 2, none⟩ = some (.bool o.buy) ∧
    (w.alloc (.cells #[.int .i64 o.id, .int .i64 o.client, .bool o.buy, .int .u64 o.price, .int .u64 o.qty] 73)).cell? ⟨w.heap.size, 3, none⟩ = some (.int .u64 o.price) ∧
    (w.alloc (.cells #[.int .i64 o.id, .int .i64 o.client, .bool o.buy, .int .u64 o.price, .int .u64 o.qty] 73)).cell? ⟨w.heap.size, 4, none⟩ = some (.int .u64 o.qty) :=
  ⟨last_cell _ _ _ rfl rfl, last_cell _ _ _ rfl rfl, last_cell _ _ _ rfl rfl, last_cell _ _ _ rfl rfl, last_cell _ _ _ rfl rfl⟩

/-- prio.New. -/
theorem qNew (up : Bool) (w : World) : Calls Tryz.prog 158 #[.bool up] w fun e w' => ∃ b, e = .returned (.pointer (some ⟨b, 0, none⟩)) ∧ Que w' b b up [] ∧ Chg [] w w' ∧ w.heap.size ≤ b := by
  go_enter Tryz.func158, Tryz.ntmps158
  go_wp2
  go_ret
  refine ⟨_, rfl, ⟨List.nodup_nil, List.Pairwise.nil, [], ⟨by simp, by simp, .inl ⟨Blk.new w [.slice none 0 0, .bool up] _, rfl⟩⟩, fun k h1 h2 => by simp at h2, List.Perm.refl _⟩, (Chg.refl [] w).alloc _, Nat.le_refl _⟩

/-- (*Queue).Len. -/
theorem qLen {w : World} {b s : Nat} {up : Bool} {L : List Ord} (h : Que w b s up L) : Calls Tryz.prog 219 #[.pointer (some ⟨b, 0, none⟩)] w fun e w' => e = .returned (.int .i64 L.length) ∧ w = w' := by
  obtain ⟨l, hr, _, hp⟩ := h.row
  have HE := Lib.hid hp.length_eq
  go_enter Tryz.func219, Tryz.ntmps219
  go_wp2_with fail
  refine (rowLen hr).mono ?_
  rw [HE.out]
  rintro e w' ⟨rfl, rfl⟩
  go_wp2_with fail
  go_ret
  exact ⟨rfl, rfl⟩

set_option maxRecDepth 100000 in
/-- (*Queue).Push. -/
theorem qPush {w : World} {b s : Nat} {up : Bool} {L : List Ord} (h : Que w b s up L) {o : Ord} (ho : o.Ok) (hn : ∀ x ∈ L, x.id ≠ o.id) (hm : L.length < 999999999999) :
    Calls Tryz.prog 206 #[.pointer (some ⟨b, 0, none⟩), ov o] w fun e w' => e = .returned (.tuple #[]) ∧ ∃ s', Que w' b s' up (ins up o L) ∧ Chg [b, s] w w' ∧ (s' = s ∨ w.heap.size ≤ s') := by
  obtain ⟨l, hr, hh, hp⟩ := h.row
  have hl : l.length < 999999999999 := by rw [hp.length_eq]; exact hm
  have HI : Hid (Ids L ∧ Srt up L ∧ ∀ x ∈ L, x.id ≠ o.id) := ⟨h.ids, h.srt, hn⟩
  clear hn
  go_enter Tryz.func206, Tryz.ntmps206
  go_wp2_with fail
  have hr1 := hr.alloc (.cells #[.int .i64 o.id, .int .i64 o.client, .bool o.buy, .int .u64 o.price, .int .u64 o.qty] 73)
  have hc1 := (Chg.refl [] w).alloc (.cells #[.int .i64 o.id, .int .i64 o.client, .bool o.buy, .int .u64 o.price, .int .u64 o.qty] 73)
  obtain ⟨x0, x1, x2, x3, x4⟩ := box5 w o
  generalize w.alloc (.cells #[.int .i64 o.id, .int .i64 o.client, .bool o.buy, .int .u64 o.price, .int .u64 o.qty] 73) = W at *
  go_still_tail 6, (by kernel_rfl)
  change wpList _ _ _ _ _ W.drew
  have hr2 := hr1.drew
  have hc2 := hc1.drew
  clear hr hr1 hc1 x0 x1 x2 x3 x4 h
  generalize W.drew = W2 at *
  go_wp2_with fail
  refine (heapPush hr2 hh ho hl).mono ?_
  rintro e w2 ⟨rfl, s', l', h2, p2, g2, c2, hs⟩
  go_wp2_with fail
  go_end0
  have p3 : l'.Perm (ins up o L) := by
    refine p2.trans ((List.perm_append_comm (l₁ := l) (l₂ := [o])).trans ?_)
    exact (List.Perm.cons o hp).trans (ins_perm up o L).symm
  exact ⟨rfl, s', ⟨ins_ids HI.out.1 HI.out.2.2, ins_srt HI.out.2.1 HI.out.2.2, l', h2, g2, p3⟩, (hc2.mono (by simp)).trans c2, by rcases hs with h | h; left; exact h; right; have := hc2.size; omega⟩
end Go.Proofs.YteabcpmpcbjicaaGreat

namespace Go.Proofs.YteabcpmpcbjicaaGreat
set_option linter.unusedVariables false
open Go Go.Proofs Go.RowKit
attribute [local go_sem ↓] Go.wp_at_zero Go.wp_at_succ

abbrev rzero : Value := .tuple #[ov Ord.zero, .bool false]
abbrev rord (o : Ord) : Value := .tuple #[ov o, .bool true]

/-- (*Queue).Peek. -/
theorem qPeek_nil {w : World} {b s : Nat} {up : Bool} (h : Que w b s up []) : Calls Tryz.prog 210 #[.pointer (some ⟨b, 0, none⟩)] w fun e w' => e = .returned rzero ∧ Chg [] w w' := by
  go_enter Tryz.func210, Tryz.ntmps210
  go_wp2_with fail
  refine (qLen (h.alloc _)).mono ?_
  rintro e w' ⟨rfl, rfl⟩
  go_wp2_with fail
  exact bodyPost_ret (v := rzero) (by simp [results, Tryz.results210, go_sem]) rfl ⟨rfl, (Chg.refl [] w).alloc _⟩

theorem Que.first {w : World} {b s : Nat} {up : Bool} {x : Ord} {L : List Ord} (h : Que w b s up (x :: L)) : ∃ (l : List Ord) (cap : Nat), s ≠ b ∧ 0 < l.length ∧ l.length ≤ cap ∧ cap ≤ maxLen ∧ w.cell? ⟨b, 0, none⟩ = some (.slice (some ⟨s, 0, none⟩) l.length cap) ∧ Oat w s 0 x ∧ (∀ k, w.frozen? ⟨s, k, none⟩ = false) ∧ l.length = (x :: L).length := by
  obtain ⟨l, hr, hh, hp⟩ := h.row
  have hl : 0 < l.length := by rw [hp.length_eq]; simp
  obtain ⟨cap, h1, h2, h3, h4, h5⟩ := hr.full (by rintro rfl; simp at hl)
  have h6 := h5.at hl
  rw [heap_head hh hp h.srt] at h6
  exact ⟨l, cap, h1, hl, h2, h3, h4, by simpa using h6, fun k => Beg.free h5 k, hp.length_eq⟩
theorem cell_alloc {w : World} {a : Addr} {v : Value} (h : w.cell? a = some v) (o : Obj) : (w.alloc o).cell? a = some v :=
  ((Chg.refl [] w).alloc o).cell h (by simp)

theorem qPeek_cons {w : World} {b s : Nat} {up : Bool} {x : Ord} {L : List Ord} (h : Que w b s up (x :: L)) : Calls Tryz.prog 210 #[.pointer (some ⟨b, 0, none⟩)] w fun e w' => e = .returned (rord x) ∧ Chg [] w w' := by
  obtain ⟨l, cap, hne, hl, hlc, hcm, h0, ⟨c0, c1, c2, c3, c4⟩, _, hle⟩ := h.first
  have HLE : Hid ((((x :: L).length : Nat) : Int) = ((l.length : Nat) : Int)) := by show _ = _; rw [hle]
  have hl0 : ((l.length : Int) == 0) = false := beq_eq_false_iff_ne.2 (by omega)
  have hl1 : (0 : Int) < (l.length : Int) := by omega
  unfold maxLen at hcm
  simp only [Nat.zero_add] at c1 c2 c3 c4
  have hbl := h.lt.1
  have hsl := h.lt.2
  clear hle
  go_enter Tryz.func210, Tryz.ntmps210
  go_wp2_with fail
  refine (qLen (h.alloc _)).mono ?_
  rw [HLE.out]
  rintro e w' ⟨rfl, rfl⟩
  go_wp2_with fail
  exact bodyPost_ret (v := rord x) (by simp [results, Tryz.results210, go_sem]) rfl ⟨rfl, (Chg.refl [] w).alloc _⟩

set_option maxRecDepth 100000 in
set_option maxHeartbeats 1000000 in
/-- (*Queue).take: none. -/
theorem takeNo {w : World} {b s : Nat} {up : Bool} {L : List Ord} (h : Que w b s up L) (i : Int) (hi : i < 0 ∨ (L.length : Int) ≤ i) : Calls Tryz.prog 217 #[.pointer (some ⟨b, 0, none⟩), .int .i64 i] w fun e w' => e = .returned rzero ∧ Chg [] w w' := by
  by_cases h0 : i < 0
  · go_enter Tryz.func217, Tryz.ntmps217
    go_wp2_with fail
    exact bodyPost_ret (v := rzero) (by simp [results, Tryz.results217, go_sem]) rfl ⟨rfl, (Chg.refl [] w).alloc _⟩
  · have h1 : (L.length : Int) ≤ i := by omega
    go_enter Tryz.func217, Tryz.ntmps217
    go_wp2_with fail
    refine (qLen (h.alloc _)).mono ?_
    rintro e w' ⟨rfl, rfl⟩
    go_wp2_with fail
    exact bodyPost_ret (v := rzero) (by simp [results, Tryz.results217, go_sem]) rfl ⟨rfl, (Chg.refl [] w).alloc _⟩

set_option maxRecDepth 100000 in
set_option maxHeartbeats 1000000 in
/-- (*Queue).take: one. -/
theorem takeYes {w : World} {b s : Nat} {up : Bool} {L l : List Ord} (h : Que w b s up L) (hr : Row w b s up l) (hh : OHp up l) (hp : l.Perm L) {i : Nat} (hi : i < l.length) (hm : l.length < 1000000000000) {x : Ord} (hx : Hid (l.getD i Ord.zero = x)) :
    Calls Tryz.prog 217 #[.pointer (some ⟨b, 0, none⟩), .int .i64 i] w fun e w' => e = .returned (rord x) ∧ ∃ l', Row w' b s up l' ∧ (x :: l').Perm l ∧ OHp up l' ∧ Chg [b, s] w w' := by
  obtain ⟨cap, hne, hlc, hcm, h0, hor⟩ := hr.full (by rintro rfl; simp at hi)
  obtain ⟨c0, c1, c2, c3, c4⟩ := hor.at hi
  rw [hx.out] at c0 c1 c2 c3 c4
  have HLE : Hid (((L.length : Nat) : Int) = ((l.length : Nat) : Int)) := by show _ = _; rw [hp.length_eq]
  have hbl := hr.hlt
  have hsl := hr.lt
  have i1 : (0 : Int) ≤ (i : Int) := by omega
  have i2 : (i : Int) < (l.length : Int) := by omega
  unfold maxLen at hcm
  have hRem := heapRemove_x (((hr.alloc (.cells #[.int .i64 0, .int .i64 0, .bool false, .int .u64 0, .int .u64 0] 73)).alloc (.cells #[.int .i64 x.id, .int .i64 x.client, .bool x.buy, .int .u64 x.price, .int .u64 x.qty] 73))) hh hi hm hx
  have HR := Lib.hid hRem
  clear hRem hor
  go_enter Tryz.func217, Tryz.ntmps217
  go_wp2_with fail
  refine (qLen (h.alloc _)).mono ?_
  rw [HLE.out]
  rintro e w' ⟨rfl, rfl⟩
  go_wp2_with fail
  refine HR.out.mono ?_
  rintro e w2 ⟨rfl, l', h2, p2, g2, cc⟩
  clear h hr h0 c0 c1 c2 c3 c4 HR
  have B1 : Blk w2 w.heap.size 73 (oc Ord.zero) := Blk.chg (Blk.alloc (Blk.new w (oc Ord.zero) _) _) cc (by simp; omega)
  have B2 : Blk w2 (w.heap.size + 1) 73 (oc x) := Blk.chg (by have := Blk.new (w.alloc (.cells #[.int .i64 0, .int .i64 0, .bool false, .int .u64 0, .int .u64 0] 73)) (oc x) 73; rwa [World.size_alloc] at this) cc (by simp; omega)
  have c5 : Chg [b, s] w w2 := (((Chg.refl [b, s] w).alloc _).alloc _).trans cc
  have z1 := B1.lt
  have z2 := B2.lt
  have a0 := B1.at (i := 0) rfl
  have a1 := B1.at (i := 1) rfl
  have a2 := B1.at (i := 2) rfl
  have a3 := B1.at (i := 3) rfl
  have a4 := B1.at (i := 4) rfl
  have b0 := B2.at (i := 0) rfl
  have b1 := B2.at (i := 1) rfl
  have b2 := B2.at (i := 2) rfl
  have b3 := B2.at (i := 3) rfl
  have b4 := B2.at (i := 4) rfl
  have f0 := B1.free 0
  have f1 := B1.free 1
  have f2 := B1.free 2
  have f3 := B1.free 3
  have f4 := B1.free 4
  clear B1 B2 cc
  go_wp2_with fail
  have hK : Chg [w.heap.size] w2 (sto w2 w.heap.size 0 x) := sto_chg (Chg.refl _ _) _ _ _ (by simp)
  have hK2 : Chg [b, s] w (sto w2 w.heap.size 0 x) := sto_chg c5 _ _ _ (by simp)
  exact bodyPost_ret (v := rord x) (by simp [results, Tryz.results217, go_sem, a0, a1, a2, a3, a4]) rfl ⟨rfl, l', h2.chg hK (by simp; omega) (by simp; omega), p2, g2, hK2⟩
end Go.Proofs.YteabcpmpcbjicaaGreat

namespace Go.Proofs.YteabcpmpcbjicaaGreat
set_option linter.unusedVariables false
open Go Go.Proofs Go.RowKit
attribute [local go_sem ↓] Go.wp_at_zero Go.wp_at_succ

/-- The five cells of a block of the call's own, behind a call that leaves it alone; it may be written. -/
theorem own5 {w w2 : World} {S : List Nat} {T : TypeId} (h : Chg S (w.alloc (.cells #[.int .i64 0, .int .i64 0, .bool false, .int .u64 0, .int .u64 0] T)) w2) (hs : w.heap.size ∉ S) : Blk w2 w.heap.size T (oc Ord.zero) :=
  Blk.chg (Blk.new w (oc Ord.zero) T) h hs

set_option maxRecDepth 100000 in
set_option maxHeartbeats 1000000 in
/-- (*Queue).Pop: none. -/
theorem qPop_nil {w : World} {b s : Nat} {up : Bool} (h : Que w b s up []) : Calls Tryz.prog 214 #[.pointer (some ⟨b, 0, none⟩)] w fun e w' => e = .returned rzero ∧ Chg [] w w' := by
  go_enter Tryz.func214, Tryz.ntmps214
  go_wp2_with fail
  refine (takeNo (h.alloc _) 0 (.inr (by simp))).mono ?_
  rintro e w2 ⟨rfl, cc⟩
  have B1 := own5 cc (by simp)
  have z1 := B1.lt
  have a0 := B1.at (i := 0) rfl
  have a1 := B1.at (i := 1) rfl
  have a2 := B1.at (i := 2) rfl
  have a3 := B1.at (i := 3) rfl
  have a4 := B1.at (i := 4) rfl
  have f0 := B1.free 0
  have f1 := B1.free 1
  have f2 := B1.free 2
  have f3 := B1.free 3
  have f4 := B1.free 4
  have hc : Chg [] w (sto w2 w.heap.size 0 Ord.zero) := sto_chg (((Chg.refl [] w).alloc _).trans cc) _ _ _ (by simp)
  clear B1 cc h
  go_wp2_with fail
  exact bodyPost_ret (v := rzero) (by simp [results, Tryz.results214, go_sem, a0, a1, a2, a3, a4]) rfl ⟨rfl, hc⟩

set_option maxRecDepth 100000 in
set_option maxHeartbeats 1000000 in
/-- (*Queue).Pop: the first one. -/
theorem qPop_cons {w : World} {b s : Nat} {up : Bool} {x : Ord} {L : List Ord} (h : Que w b s up (x :: L)) (hm : L.length < 999999999999) : Calls Tryz.prog 214 #[.pointer (some ⟨b, 0, none⟩)] w fun e w' => e = .returned (rord x) ∧ Que w' b s up L ∧ Chg [b, s] w w' := by
  obtain ⟨l, hr, hh, hp⟩ := h.row
  have hl : 0 < l.length := by rw [hp.length_eq]; simp
  have hm' : l.length < 1000000000000 := by rw [hp.length_eq]; simp; omega
  have hx := Lib.hid (heap_head hh hp h.srt)
  have hlt := h.lt
  have HC := takeYes (h.alloc (.cells #[.int .i64 0, .int .i64 0, .bool false, .int .u64 0, .int .u64 0] 73)) (hr.alloc _) hh hp hl hm' hx
  have HT := Lib.hid HC
  have HI : Hid (Ids (x :: L) ∧ Srt up (x :: L)) := ⟨h.ids, h.srt⟩
  clear HC hx h hr
  go_enter Tryz.func214, Tryz.ntmps214
  go_wp2_with fail
  refine HT.out.mono ?_
  rintro e w2 ⟨rfl, l', h2, p2, g2, cc⟩
  have B1 := own5 cc (by simp; omega)
  have z1 := B1.lt
  have a0 := B1.at (i := 0) rfl
  have a1 := B1.at (i := 1) rfl
  have a2 := B1.at (i := 2) rfl
  have a3 := B1.at (i := 3) rfl
  have a4 := B1.at (i := 4) rfl
  have f0 := B1.free 0
  have f1 := B1.free 1
  have f2 := B1.free 2
  have f3 := B1.free 3
  have f4 := B1.free 4
  have hc : Chg [b, s] w (sto w2 w.heap.size 0 x) := sto_chg (((Chg.refl [b, s] w).alloc _).trans cc) _ _ _ (by simp)
  have hK : Chg [w.heap.size] w2 (sto w2 w.heap.size 0 x) := sto_chg (Chg.refl _ _) _ _ _ (by simp)
  have p3 : l'.Perm L := (List.perm_cons x).1 (p2.trans hp)
  have hq : Que (sto w2 w.heap.size 0 x) b s up L := ⟨ids_sub HI.out.1 (List.sublist_cons_self _ _), srt_sub HI.out.2 (List.sublist_cons_self _ _), l', h2.chg hK (by simp; omega) (by simp; omega), g2, p3⟩
  clear B1 cc HT hK p3 p2 h2
  go_wp2_with fail
  exact bodyPost_ret (v := rord x) (by simp [results, Tryz.results214, go_sem, a0, a1, a2, a3, a4]) rfl ⟨rfl, hq, hc⟩

set_option maxRecDepth 100000 in
set_option maxHeartbeats 1000000 in
/-- (*Queue).Cut. -/
theorem qCut {w : World} {b s : Nat} {up : Bool} {L : List Ord} (h : Que w b s up L) (n : Int) (hn : U n) : Calls Tryz.prog 213 #[.pointer (some ⟨b, 0, none⟩), .int .u64 n] w fun e w' => e = .returned (.tuple #[]) ∧ Que w' b s up (cutQ n L) ∧ Chg [s] w w' := by
  cases L with
  | nil =>
    go_enter Tryz.func213, Tryz.ntmps213
    go_wp2_with fail
    refine (qLen h).mono ?_
    rintro e w' ⟨rfl, rfl⟩
    go_wp2_with fail
    go_end0
    exact ⟨rfl, h, Chg.refl _ _⟩
  | cons x L =>
    have hok := (h.ok x (by simp)).qty
    obtain ⟨l, cap, hne, hl, hlc, hcm, h0, ⟨c0, c1, c2, c3, c4⟩, fz, hle⟩ := h.first
    have HLE : Hid ((((x :: L).length : Nat) : Int) = ((l.length : Nat) : Int)) := by show _ = _; rw [hle]
    have hl1 : (0 : Int) < (l.length : Int) := by omega
    have f4 := fz 4
    unfold maxLen at hcm
    simp only [Nat.zero_add] at c1 c2 c3 c4
    obtain ⟨n1, n2⟩ := hn
    obtain ⟨q1, q2⟩ := hok
    clear hle fz
    by_cases hq : n ≤ x.qty
    · have HC : Hid (cutQ n (x :: L) = { x with qty := x.qty - n } :: L) := by show _ = _; rw [cutQ_cons, if_pos hq]
      have HQ : Hid (Que (w.setCell ⟨s, 4, none⟩ (.int .u64 (x.qty - n))) b s up ({ x with qty := x.qty - n } :: L)) := by
        obtain ⟨l2, hr, hh, hp⟩ := h.row
        have hx := heap_head hh hp h.srt
        have hl2 : 0 < l2.length := by rw [hp.length_eq]; simp
        refine ⟨h.ids, cut_srt _ h.srt, l2.set 0 { l2.getD 0 Ord.zero with qty := x.qty - n }, ?_, set0_hp _ hh, by rw [hx]; exact set0_perm _ hp hx⟩
        have hk := h.ok x (by simp)
        have := hr.sto hl2 (o := { l2.getD 0 Ord.zero with qty := x.qty - n }) (by rw [hx]; exact ⟨hk.id, hk.client, hk.price, ⟨by show 0 ≤ x.qty - n; omega, by show x.qty - n < _; omega⟩⟩)
        rw [hx] at this ⊢
        refine ⟨this.ok, by simpa [World.setCell] using hr.lt, ?_⟩
        rcases hr.mem with ⟨_, e⟩ | ⟨cp, sp, g0, g1, g2, g3, g4⟩
        · subst e; simp at hl2
        · refine .inr ⟨cp, sp, g0, by rw [List.length_set]; exact g1.put _ _ g0.symm, ?_, by simpa using g3, g4⟩
          have k2 := g2.set 4 (.int .u64 (x.qty - n))
          have e2 : (ocs l2 ++ sp).set 4 (.int .u64 (x.qty - n)) = ocs (l2.set 0 { x with qty := x.qty - n }) ++ sp := by
            cases l2 with
            | nil => simp at hl2
            | cons y l2 =>
              have : y = x := hx
              subst this
              simp [ocs, oc]
          rw [e2] at k2
          exact k2
      go_enter Tryz.func213, Tryz.ntmps213
      go_wp2_with fail
      refine (qLen h).mono ?_
      rw [HLE.out]
      rintro e w' ⟨rfl, rfl⟩
      go_wp2_with fail
      go_end0
      exact ⟨rfl, by rw [HC.out]; exact HQ.out, (Chg.refl [s] w).setCell _ _ (by simp)⟩
    · have HC : Hid (cutQ n (x :: L) = x :: L) := by show _ = _; rw [cutQ_cons, if_neg hq]
      go_enter Tryz.func213, Tryz.ntmps213
      go_wp2_with fail
      refine (qLen h).mono ?_
      rw [HLE.out]
      rintro e w' ⟨rfl, rfl⟩
      go_wp2_with fail
      go_end0
      exact ⟨rfl, by rw [HC.out]; exact h, Chg.refl _ _⟩
end Go.Proofs.YteabcpmpcbjicaaGreat

namespace Go.Proofs.YteabcpmpcbjicaaGreat
set_option linter.unusedVariables false
open Go Go.Proofs Go.RowKit
attribute [local go_sem ↓] Go.wp_at_zero Go.wp_at_succ

/-- The literal in find. -/
theorem findLit {w : World} {g : Nat} {k : Int} (hg : w.cell? ⟨g, 0, none⟩ = some (.int .i64 k)) (o : Ord) :
    Calls Tryz.prog 222 #[ov o, .pointer (some ⟨g, 0, none⟩)] w fun e w' => e = .returned (.bool (decide (o.id = k))) ∧ Chg [] w w' := by
  have hlt := cell_block hg
  go_enter Tryz.func222, Tryz.ntmps222
  go_wp2_with fail
  go_ret
  exact ⟨ret_bool (by by_cases h : o.id = k <;> simp [h]), (Chg.refl [] w).alloc _⟩

def FoundAt (l : List Ord) (k r : Int) : Prop := (∃ j, j < l.length ∧ (l.getD j Ord.zero).id = k ∧ r = ((j : Nat) : Int)) ∨ ((∀ x ∈ l, x.id ≠ k) ∧ r = -1)

set_option maxRecDepth 100000 in
set_option maxHeartbeats 1000000 in
/-- slices.IndexFunc by find's literal. -/
theorem indexFunc {w : World} {s g cap : Nat} {k : Int} {a : Option Addr} {l : List Ord} (hg : w.cell? ⟨g, 0, none⟩ = some (.int .i64 k)) (hl : l.length ≤ 9223372036854775807) (ha : l = [] ∨ (a = some ⟨s, 0, none⟩ ∧ Orow w s l)) :
    Calls Tryz.prog 221 #[.slice a l.length cap, .func (.func 222) #[] #[.pointer (some ⟨g, 0, none⟩)]] w fun e w' => ∃ r, e = .returned (.int .i64 r) ∧ FoundAt l k r ∧ Chg [] w w' := by
  rcases ha with rfl | ⟨rfl, hr⟩
  · go_enter Tryz.func221, Tryz.ntmps221
    go_wp2_with fail
    go_loop [8] (fun i => i = .int .i64 0) (fun _ => 0)
    case atStart => rfl
    case round =>
      subst hrel
      go_wp2_with fail
      go_ret
      exact ⟨-1, rfl, .inr ⟨by simp, rfl⟩, Chg.refl _ _⟩
  · have HR := Lib.hid hr
    clear hr
    go_enter Tryz.func221, Tryz.ntmps221
    go_wp2_with fail
    go_loopw [8] (fun i wr => ∃ j : Nat, j ≤ l.length ∧ i = .int .i64 j ∧ Chg [] w wr ∧ Hid (∀ x ∈ l.take j, x.id ≠ k)) (fun i _ => l.length - (intOf i).toNat)
    case atStart => exact ⟨0, by omega, rfl, Chg.refl _ _, by simp [Hid]⟩
    case round =>
      obtain ⟨j, hj, rfl, hc, hn⟩ := hrel
      by_cases hlt : j < l.length
      · obtain ⟨c0, c1, c2, c3, c4⟩ := Orow.at (Beg.chg HR.out hc (by simp)) hlt
        have hg2 := hc.cell hg (by simp)
        obtain ⟨x, hx⟩ : ∃ x, l.getD j Ord.zero = x := ⟨_, rfl⟩
        rw [hx] at c0 c1 c2 c3 c4
        have HX := Lib.hid hx
        clear hx
        by_cases he : x.id = k
        · have hd : decide (x.id = k) = true := by simpa using he
          have HE := Lib.hid he
          have HD := Lib.hid hd
          clear he hd
          go_wp2_with fail
          refine (findLit hg2 x).mono ?_
          rw [HD.out]
          rintro e w2 ⟨rfl, c⟩
          go_wp2_with fail
          go_ret
          exact ⟨_, rfl, .inl ⟨j, hlt, by rw [HX.out]; exact HE.out, rfl⟩, hc.trans c⟩
        · have hd : decide (x.id = k) = false := by simpa using he
          have HE := Lib.hid he
          have HD := Lib.hid hd
          clear he hd
          have hn2 : Hid (∀ y ∈ l.take (j + 1), y.id ≠ k) := by
            intro y hy
            rw [List.take_succ_eq_append_getElem hlt] at hy
            rcases List.mem_append.1 hy with h | h
            · exact hn.out y h
            · simp at h
              subst h
              have : l.getD j Ord.zero = l[j] := by simp [List.getD, hlt]
              rw [← this, HX.out]; exact HE.out
          go_wp2_with fail
          refine (findLit hg2 x).mono ?_
          rw [HD.out]
          rintro e w2 ⟨rfl, c⟩
          have hc2 := hc.trans c
          clear hc c c0 c1 c2 c3 c4 hg2 hn
          go_wp2_with fail
          go_roundw
          case rel => exact ⟨j + 1, by omega, by go_num, hc2, hn2⟩
          case measure => simp [intOf]; omega
      · have hn3 : Hid (∀ x ∈ l, x.id ≠ k) := by
          have := hn.out
          rwa [List.take_of_length_le (by omega)] at this
        go_wp2_with fail
        go_ret
        exact ⟨-1, rfl, .inr ⟨hn3.out, rfl⟩, hc⟩

set_option maxRecDepth 100000 in
/-- (*Queue).find. -/
theorem qFindAt {w : World} {b s : Nat} {up : Bool} {l : List Ord} (hr : Row w b s up l) (k : Int) :
    Calls Tryz.prog 216 #[.pointer (some ⟨b, 0, none⟩), .int .i64 k] w fun e w' => ∃ r, e = .returned (.int .i64 r) ∧ FoundAt l k r ∧ Chg [] w w' := by
  have hlt := hr.hlt
  have hR := hr.alloc (.cells #[.int .i64 k] 3)
  by_cases h0 : l = []
  · subst h0
    obtain ⟨a, cap, hd⟩ := hr.head
    go_enter Tryz.func216, Tryz.ntmps216
    go_wp2_with fail
    refine (indexFunc (s := 0) (l := []) (last_cell _ _ _ rfl rfl) (by simp) (.inl rfl)).mono ?_
    rintro e w2 ⟨r, rfl, hf, c⟩
    go_wp2_with fail
    go_ret
    exact ⟨r, rfl, hf, ((Chg.refl [] w).alloc _).trans c⟩
  · obtain ⟨cap, hne, hlc, hcm, hd, hor⟩ := hr.full h0
    have ho : Orow (w.alloc (.cells #[.int .i64 k] 3)) s l := Beg.alloc hor _
    unfold maxLen at hcm
    have hl9 : l.length ≤ 9223372036854775807 := by omega
    have HO := Lib.hid ho
    clear ho hor
    go_enter Tryz.func216, Tryz.ntmps216
    go_wp2_with fail
    refine (indexFunc (last_cell _ _ _ rfl rfl) hl9 (.inr ⟨rfl, HO.out⟩)).mono ?_
    rintro e w2 ⟨r, rfl, hf, c⟩
    go_wp2_with fail
    go_ret
    exact ⟨r, rfl, hf, ((Chg.refl [] w).alloc _).trans c⟩
end Go.Proofs.YteabcpmpcbjicaaGreat

namespace Go.Proofs.YteabcpmpcbjicaaGreat
set_option linter.unusedVariables false
open Go Go.Proofs Go.RowKit
attribute [local go_sem ↓] Go.wp_at_zero Go.wp_at_succ

theorem ids_eq {L : List Ord} (h : Ids L) {x y : Ord} (hx : x ∈ L) (hy : y ∈ L) (e : x.id = y.id) : x = y := by
  induction L with
  | nil => simp at hx
  | cons a L ih =>
    unfold Ids at h
    rw [List.map_cons, List.nodup_cons] at h
    rcases List.mem_cons.1 hx with h1 | h1 <;> rcases List.mem_cons.1 hy with h2 | h2
    · rw [h1, h2]
    · subst h1; exact absurd (List.mem_map.2 ⟨y, h2, e.symm⟩) h.1
    · subst h2; exact absurd (List.mem_map.2 ⟨x, h1, e⟩) h.1
    · exact ih h.2 h1 h2
theorem found_no {l L : List Ord} {k r : Int} (h : FoundAt l k r) (hp : l.Perm L) (hn : ∀ x ∈ L, x.id ≠ k) : r = -1 := by
  rcases h with ⟨j, hj, e, _⟩ | ⟨_, h⟩
  · exact absurd e (hn _ (hp.mem_iff.1 (by simp [List.getD, hj])))
  · exact h
theorem found_yes {l L : List Ord} {k r : Int} (h : FoundAt l k r) (hp : l.Perm L) (hi : Ids L) {x : Ord} (hx : x ∈ L) (hk : x.id = k) : ∃ j : Nat, j < l.length ∧ l.getD j Ord.zero = x ∧ r = j := by
  rcases h with ⟨j, hj, e, hr⟩ | ⟨h, _⟩
  · exact ⟨j, hj, ids_eq hi (hp.mem_iff.1 (by simp [List.getD, hj])) hx (by rw [e, hk]), hr⟩
  · exact absurd hk (h x (hp.mem_iff.2 hx))

set_option maxRecDepth 100000 in
set_option maxHeartbeats 1000000 in
/-- (*Queue).Remove: none. -/
theorem qRemove_no {w : World} {b s : Nat} {up : Bool} {L : List Ord} (h : Que w b s up L) {k : Int} (hn : ∀ x ∈ L, x.id ≠ k) : Calls Tryz.prog 208 #[.pointer (some ⟨b, 0, none⟩), .int .i64 k] w fun e w' => e = .returned rzero ∧ Chg [] w w' := by
  obtain ⟨l, hr, hh, hp⟩ := h.row
  have HN := Lib.hid hn
  clear hn
  have hq := h.alloc (.cells #[.int .i64 0, .int .i64 0, .bool false, .int .u64 0, .int .u64 0] 73)
  have hr2 := hr.alloc (.cells #[.int .i64 0, .int .i64 0, .bool false, .int .u64 0, .int .u64 0] 73)
  go_enter Tryz.func208, Tryz.ntmps208
  go_wp2_with fail
  refine (qFindAt hr2 k).mono ?_
  rintro e w1 ⟨r, rfl, hf, cf⟩
  obtain rfl := found_no hf hp HN.out
  have hq2 := hq.chg cf (by simp) (by simp)
  go_wp2_with fail
  refine (takeNo hq2 (-1) (.inl (by omega))).mono ?_
  rintro e w2 ⟨rfl, cc⟩
  have B1 := own5 (cf.trans cc) (by simp)
  have z1 := B1.lt
  have a0 := B1.at (i := 0) rfl
  have a1 := B1.at (i := 1) rfl
  have a2 := B1.at (i := 2) rfl
  have a3 := B1.at (i := 3) rfl
  have a4 := B1.at (i := 4) rfl
  have f0 := B1.free 0
  have f1 := B1.free 1
  have f2 := B1.free 2
  have f3 := B1.free 3
  have f4 := B1.free 4
  have hc : Chg [] w (sto w2 w.heap.size 0 Ord.zero) := sto_chg ((((Chg.refl [] w).alloc _).trans cf).trans cc) _ _ _ (by simp)
  clear B1 cc h hr hq hr2 hq2 cf
  go_wp2_with fail
  exact bodyPost_ret (v := rzero) (by simp [results, Tryz.results208, go_sem, a0, a1, a2, a3, a4]) rfl ⟨rfl, hc⟩

set_option maxRecDepth 100000 in
set_option maxHeartbeats 1000000 in
/-- (*Queue).Remove: one. -/
theorem qRemove_yes {w : World} {b s : Nat} {up : Bool} {L : List Ord} (h : Que w b s up L) (hm : L.length < 1000000000000) {k : Int} {x : Ord} (hx : x ∈ L) (hk : x.id = k) : Calls Tryz.prog 208 #[.pointer (some ⟨b, 0, none⟩), .int .i64 k] w fun e w' => e = .returned (rord x) ∧ Que w' b s up (sans k L) ∧ Chg [b, s] w w' := by
  obtain ⟨l, hr, hh, hp⟩ := h.row
  have hlt := h.lt
  have HK := Lib.hid hk
  clear hk
  have HI : Hid (Ids L ∧ Srt up L) := ⟨h.ids, h.srt⟩
  have hm' : l.length < 1000000000000 := by rw [hp.length_eq]; exact hm
  have hq := h.alloc (.cells #[.int .i64 0, .int .i64 0, .bool false, .int .u64 0, .int .u64 0] 73)
  have hr2 := hr.alloc (.cells #[.int .i64 0, .int .i64 0, .bool false, .int .u64 0, .int .u64 0] 73)
  go_enter Tryz.func208, Tryz.ntmps208
  go_wp2_with fail
  refine (qFindAt hr2 k).mono ?_
  rintro e w1 ⟨r, rfl, hf, cf⟩
  obtain ⟨j, hj, hg, rfl⟩ := found_yes hf hp HI.out.1 hx HK.out
  have HG := Lib.hid hg
  clear hg
  have hq2 := hq.chg cf (by simp) (by simp)
  have hr3 := hr2.chg cf (by simp) (by simp)
  go_wp2_with fail
  refine (takeYes hq2 hr3 hh hp hj hm' HG).mono ?_
  rintro e w2 ⟨rfl, l', h2, p2, g2, cc⟩
  have B1 := own5 ((cf.mono (by simp)).trans cc) (by simp; omega)
  have z1 := B1.lt
  have a0 := B1.at (i := 0) rfl
  have a1 := B1.at (i := 1) rfl
  have a2 := B1.at (i := 2) rfl
  have a3 := B1.at (i := 3) rfl
  have a4 := B1.at (i := 4) rfl
  have f0 := B1.free 0
  have f1 := B1.free 1
  have f2 := B1.free 2
  have f3 := B1.free 3
  have f4 := B1.free 4
  have hc : Chg [b, s] w (sto w2 w.heap.size 0 x) := sto_chg ((((Chg.refl [b, s] w).alloc _).trans (cf.mono (by simp))).trans cc) _ _ _ (by simp)
  have hK : Chg [w.heap.size] w2 (sto w2 w.heap.size 0 x) := sto_chg (Chg.refl _ _) _ _ _ (by simp)
  have p3 : l'.Perm (sans k L) := by rw [← HK.out]; exact sans_perm (p2.trans hp) HI.out.1
  have hq9 : Que (sto w2 w.heap.size 0 x) b s up (sans k L) := ⟨ids_sub HI.out.1 (sans_sub _ _), srt_sub HI.out.2 (sans_sub _ _), l', h2.chg hK (by simp; omega) (by simp; omega), g2, p3⟩
  clear B1 cc h hr hq hr2 hq2 hr3 cf hK p3 p2 h2 hf
  go_wp2_with fail
  exact bodyPost_ret (v := rord x) (by simp [results, Tryz.results208, go_sem, a0, a1, a2, a3, a4]) rfl ⟨rfl, hq9, hc⟩

set_option maxRecDepth 100000 in
set_option maxHeartbeats 1000000 in
/-- (*Queue).Find: none. -/
theorem qFind_no {w : World} {b s : Nat} {up : Bool} {L : List Ord} (h : Que w b s up L) {k : Int} (hn : ∀ x ∈ L, x.id ≠ k) : Calls Tryz.prog 207 #[.pointer (some ⟨b, 0, none⟩), .int .i64 k] w fun e w' => e = .returned rzero ∧ Chg [] w w' := by
  obtain ⟨l, hr, hh, hp⟩ := h.row
  have HN := Lib.hid hn
  clear hn
  have hr2 := hr.alloc (.cells #[.int .i64 0, .int .i64 0, .bool false, .int .u64 0, .int .u64 0] 73)
  go_enter Tryz.func207, Tryz.ntmps207
  go_wp2_with fail
  refine (qFindAt hr2 k).mono ?_
  rintro e w2 ⟨r, rfl, hf, cf⟩
  obtain rfl := found_no hf hp HN.out
  have B1 := own5 cf (by simp)
  have z1 := B1.lt
  have a0 := B1.at (i := 0) rfl
  have a1 := B1.at (i := 1) rfl
  have a2 := B1.at (i := 2) rfl
  have a3 := B1.at (i := 3) rfl
  have a4 := B1.at (i := 4) rfl
  have f0 := B1.free 0
  have f1 := B1.free 1
  have f2 := B1.free 2
  have f3 := B1.free 3
  have f4 := B1.free 4
  have hc : Chg [] w (sto w2 w.heap.size 0 Ord.zero) := sto_chg (((Chg.refl [] w).alloc _).trans cf) _ _ _ (by simp)
  clear B1 h hr hr2 cf
  go_wp2_with fail
  exact bodyPost_ret (v := rzero) (by simp [results, Tryz.results207, go_sem, a0, a1, a2, a3, a4]) rfl ⟨rfl, hc⟩

set_option maxRecDepth 100000 in
set_option maxHeartbeats 1000000 in
/-- (*Queue).Find: one. -/
theorem qFind_yes {w : World} {b s : Nat} {up : Bool} {L : List Ord} (h : Que w b s up L) {k : Int} {x : Ord} (hx : x ∈ L) (hk : x.id = k) : Calls Tryz.prog 207 #[.pointer (some ⟨b, 0, none⟩), .int .i64 k] w fun e w' => e = .returned (rord x) ∧ Chg [] w w' := by
  obtain ⟨l, hr, hh, hp⟩ := h.row
  have hlt := h.lt
  have HK := Lib.hid hk
  clear hk
  have hr2 := hr.alloc (.cells #[.int .i64 0, .int .i64 0, .bool false, .int .u64 0, .int .u64 0] 73)
  have HI := Lib.hid h.ids
  go_enter Tryz.func207, Tryz.ntmps207
  go_wp2_with fail
  refine (qFindAt hr2 k).mono ?_
  rintro e w2 ⟨r, rfl, hf, cf⟩
  obtain ⟨j, hj, hg, rfl⟩ := found_yes hf hp HI.out hx HK.out
  have hr3 := hr2.chg cf (by simp) (by simp)
  obtain ⟨cap, hne, hlc, hcm, h0, hor⟩ := hr3.full (by rintro rfl; simp at hj)
  obtain ⟨c0, c1, c2, c3, c4⟩ := hor.at hj
  rw [hg] at c0 c1 c2 c3 c4
  have i1 : (0 : Int) ≤ (j : Int) := by omega
  have i2 : (j : Int) < (l.length : Int) := by omega
  unfold maxLen at hcm
  have B1 := own5 cf (by simp)
  have z1 := B1.lt
  have a0 := B1.at (i := 0) rfl
  have a1 := B1.at (i := 1) rfl
  have a2 := B1.at (i := 2) rfl
  have a3 := B1.at (i := 3) rfl
  have a4 := B1.at (i := 4) rfl
  have f0 := B1.free 0
  have f1 := B1.free 1
  have f2 := B1.free 2
  have f3 := B1.free 3
  have f4 := B1.free 4
  have hc : Chg [] w (sto w2 w.heap.size 0 x) := sto_chg (((Chg.refl [] w).alloc _).trans cf) _ _ _ (by simp)
  clear B1 h hr hr2 hr3 cf hor hf hg
  go_wp2_with fail
  exact bodyPost_ret (v := rord x) (by simp [results, Tryz.results207, go_sem, a0, a1, a2, a3, a4]) rfl ⟨rfl, hc⟩
end Go.Proofs.YteabcpmpcbjicaaGreat
