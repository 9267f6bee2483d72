import Derived.Test.YtofcphfgpnobnaaHeapW3
import Derived.Test.YtofcphfgpnobnaaQ
namespace Go.Proofs.Ytofcphfgpnobnaa
set_option linter.unusedVariables false
open Go Go.Proofs Go.RowKit
attribute [local go_sem ↓] Go.wp_at_zero Go.wp_at_succ

/-- A queue in memory. -/
structure Que (w : World) (b s : Nat) (up : Bool) (L : List Ord) : Prop where
  ids : Ids L
  srt : Srt up L
  row : ∃ l, Row w b s up l ∧ OHp up l ∧ l.Perm L

theorem Que.chg {w w' : World} {b s : Nat} {up : Bool} {L : List Ord} {S : List Nat} (h : Que w b s up L) (g : Chg S w w') (hb : b ∉ S) (hs : s ∉ S) : Que w' b s up L :=
  ⟨h.ids, h.srt, h.row.elim fun l k => ⟨l, k.1.chg g hb hs, k.2⟩⟩
theorem Que.lt {w : World} {b s : Nat} {up : Bool} {L : List Ord} (h : Que w b s up L) : b < w.heap.size ∧ s < w.heap.size := h.row.elim fun l k => ⟨k.1.hlt, k.1.lt⟩
theorem Que.ok {w : World} {b s : Nat} {up : Bool} {L : List Ord} (h : Que w b s up L) : ∀ o ∈ L, o.Ok := h.row.elim fun l k o ho => k.1.ok o (k.2.2.mem_iff.2 ho)
theorem Que.drew {w : World} {b s : Nat} {up : Bool} {L : List Ord} (h : Que w b s up L) : Que w.drew b s up L := ⟨h.ids, h.srt, h.row.elim fun l k => ⟨l, k.1.drew, k.2⟩⟩
theorem Que.drewN {w : World} {b s : Nat} {up : Bool} {L : List Ord} (h : Que w b s up L) (n : Nat) : Que (w.drewN n) b s up L := ⟨h.ids, h.srt, h.row.elim fun l k => ⟨l, k.1.drewN n, k.2⟩⟩
theorem Que.alloc {w : World} {b s : Nat} {up : Bool} {L : List Ord} (h : Que w b s up L) (o : Obj) : Que (w.alloc o) b s up L := ⟨h.ids, h.srt, h.row.elim fun l k => ⟨l, k.1.alloc o, k.2⟩⟩

/-- An order in a block of its own. -/
theorem box5 (w : World) (o : Ord) : (w.alloc (.cells #[.int .i64 o.id, .int .i64 o.client, .bool o.buy, .int .u64 o.price, .int .u64 o.qty] 28)).cell? ⟨w.heap.size, 0, none⟩ = some (.int .i64 o.id) ∧
    (w.alloc (.cells #[.int .i64 o.id, .int .i64 o.client, .bool o.buy, .int .u64 o.price, .int .u64 o.qty] 28)).cell? ⟨w.heap.size, 1, none⟩ = some (.int .i64 o.client) ∧
    (w.alloc (.cells #[.int .i64 o.id, .int .i64 o.client, .bool o.buy, .int .u64 o.price, .int .u64 o.qty] 28)).cell? ⟨w.heap.size, 2, none⟩ = some (.bool o.buy) ∧
    (w.alloc (.cells #[.int .i64 o.id, .int .i64 o.client, .bool o.buy, .int .u64 o.price, .int .u64 o.qty] 28)).cell? ⟨w.heap.size, 3, none⟩ = some (.int .u64 o.price) ∧
    (w.alloc (.cells #[.int .i64 o.id, .int .i64 o.client, .bool o.buy, .int .u64 o.price, .int .u64 o.qty] 28)).cell? ⟨w.heap.size, 4, none⟩ = some (.int .u64 o.qty) :=
  ⟨last_cell _ _ _ rfl rfl, last_cell _ _ _ rfl rfl, last_cell _ _ _ rfl rfl, last_cell _ _ _ rfl rfl, last_cell _ _ _ rfl rfl⟩

/-- prio.New. -/
theorem qNew (up : Bool) (w : World) : Calls Try.prog 12 #[.bool up] w fun e w' => ∃ b, e = .returned (.pointer (some ⟨b, 0, none⟩)) ∧ Que w' b b up [] ∧ Chg [] w w' ∧ w.heap.size ≤ b := by
  go_enter Try.func12, Try.ntmps12
  go_wp2
  go_ret
  refine ⟨_, rfl, ⟨List.nodup_nil, List.Pairwise.nil, [], ⟨by simp, by simp, .inl ⟨Blk.new w [.slice none 0 0, .bool up] _, rfl⟩⟩, fun k h1 h2 => by simp at h2, List.Perm.refl _⟩, (Chg.refl [] w).alloc _, Nat.le_refl _⟩

/-- (*Queue).Len. -/
theorem qLen {w : World} {b s : Nat} {up : Bool} {L : List Ord} (h : Que w b s up L) : Calls Try.prog 16 #[.pointer (some ⟨b, 0, none⟩)] w fun e w' => e = .returned (.int .i64 L.length) ∧ w = w' := by
  obtain ⟨l, hr, _, hp⟩ := h.row
  have HE := Lib.hid hp.length_eq
  go_enter Try.func16, Try.ntmps16
  go_wp2_with fail
  refine (rowLen hr).mono ?_
  rw [HE.out]
  rintro e w' ⟨rfl, rfl⟩
  go_wp2_with fail
  go_ret
  exact ⟨rfl, rfl⟩

set_option maxRecDepth 100000 in
/-- (*Queue).Push. -/
theorem qPush {w : World} {b s : Nat} {up : Bool} {L : List Ord} (h : Que w b s up L) {o : Ord} (ho : o.Ok) (hn : ∀ x ∈ L, x.id ≠ o.id) (hm : L.length < 999999999999) :
    Calls Try.prog 13 #[.pointer (some ⟨b, 0, none⟩), ov o] w fun e w' => e = .returned (.tuple #[]) ∧ ∃ s', Que w' b s' up (ins up o L) ∧ Chg [b, s] w w' ∧ (s' = s ∨ w.heap.size ≤ s') := by
  obtain ⟨l, hr, hh, hp⟩ := h.row
  have hl : l.length < 999999999999 := by rw [hp.length_eq]; exact hm
  have HI : Hid (Ids L ∧ Srt up L ∧ ∀ x ∈ L, x.id ≠ o.id) := ⟨h.ids, h.srt, hn⟩
  clear hn
  go_enter Try.func13, Try.ntmps13
  go_wp2_with fail
  have hr1 := hr.alloc (.cells #[.int .i64 o.id, .int .i64 o.client, .bool o.buy, .int .u64 o.price, .int .u64 o.qty] 28)
  have hc1 := (Chg.refl [] w).alloc (.cells #[.int .i64 o.id, .int .i64 o.client, .bool o.buy, .int .u64 o.price, .int .u64 o.qty] 28)
  obtain ⟨x0, x1, x2, x3, x4⟩ := box5 w o
  generalize w.alloc (.cells #[.int .i64 o.id, .int .i64 o.client, .bool o.buy, .int .u64 o.price, .int .u64 o.qty] 28) = W at *
  go_still_tail 6, (by kernel_rfl)
  change wpList _ _ _ _ _ W.drew
  have hr2 := hr1.drew
  have hc2 := hc1.drew
  clear hr hr1 hc1 x0 x1 x2 x3 x4 h
  generalize W.drew = W2 at *
  go_wp2_with fail
  refine (heapPush hr2 hh ho hl).mono ?_
  rintro e w2 ⟨rfl, s', l', h2, p2, g2, c2, hs⟩
  go_wp2_with fail
  go_end0
  have p3 : l'.Perm (ins up o L) := by
    refine p2.trans ((List.perm_append_comm (l₁ := l) (l₂ := [o])).trans ?_)
    exact (List.Perm.cons o hp).trans (ins_perm up o L).symm
  exact ⟨rfl, s', ⟨ins_ids HI.out.1 HI.out.2.2, ins_srt HI.out.2.1 HI.out.2.2, l', h2, g2, p3⟩, (hc2.mono (by simp)).trans c2, by rcases hs with h | h; left; exact h; right; have := hc2.size; omega⟩
end Go.Proofs.Ytofcphfgpnobnaa
