import Derived.Test.YtkjkkchpicehoaaAcct3
import Derived.WalkSpells
namespace Go.Proofs.Ytkjkkchpicehoaa
set_option linter.unusedVariables false
open Go Go.Proofs Go.RowKit

theorem own_empty (w : World) (T : TypeId) (sz : Nat) {base : Nat} (h : base ≤ w.heap.size) : (w.alloc (.cells #[] T)).ownsRow base T sz (.slice (some ⟨w.heap.size, 0, none⟩) 0 0) 0 [] :=
  ⟨by simp, .inr ⟨w.heap.size, 0, #[], rfl, h, heap_new _ _, by omega, by unfold maxLen; omega, by simp, by simp⟩⟩
theorem ret_slice {a b : Option Addr} {n m c d : Nat} (h : a = b) (g : n = m) (k : c = d) : Ending.returned (.slice a n c) = .returned (.slice b m d) := by rw [h, g, k]

theorem run_slice_nil {P : Program} {t e : TypeId} (ht : P.underlying t = some (.slice e)) (w : World) (a : Addr) (n c : Nat) :
    (binOp .eql t (.slice (some a) n c) (.slice none 0 0)).run P w = .ok (.bool false) w := by
  have h : ∀ d : Nat, (Op.equalIn (d + 1) t (.slice (some a) n c) (.slice none 0 0)).run P w = .ok false w := fun d => by
    simp [Op.equalIn, run_underlying ht]
  simp only [binOp]
  simp [Op.equal, Op.maxDepth, h 9999]

set_option maxHeartbeats 1000000 in
/-- slices.Clone of the row. -/
theorem clonePair_any {w : World} {s n cap : Nat} {xs : List Int} (hl : xs.length = n * 2) (hn : n ≤ 1000) (h : Beg w s 75 (xs.map (Value.int .u64))) :
    Calls Try.prog 53 #[.slice (some ⟨s, 0, none⟩) n cap] w fun e w' => ∃ g c, e = .returned (.slice (some ⟨g, 0, none⟩) n c) ∧ n ≤ c ∧ c ≤ maxLen ∧ w.heap.size ≤ g ∧ Beg w' g 75 (xs.map (Value.int .u64)) ∧ Chg [] w w' := by
  obtain ⟨i0, hi, hz0, hz1, hz2⟩ := info_parts info_pair
  have heq := run_slice_nil (P := Try.prog) Try.underlying71
  go_enter Try.func53, Try.ntmps53
  go_wp2_with (at_builtin; refine wpList_append_own _ rfl (.tmp 5) (.tmp 6) 71 rfl w.heap.size 75 i0 (.agg #[.int .u64 0, .int .u64 0]) 2 16 Try.underlying71 hi hz0 hz1 hz2 rfl (by decide) _ 0 [] rfl (own_empty _ _ _ (Nat.le_refl _)) ⟨s, 0, none⟩ n cap (xs.map (Value.int .u64)) rfl ?c0 ?c1 ?c2 ?c3 ?c4 ?c5 ?_)
  case c0 => simpa using hl
  case c1 => intro j u hj; rw [add_none, Nat.zero_add]; exact (h.alloc _).at hj
  case c2 => intro u hu; obtain ⟨y, _, rfl⟩ := List.mem_map.1 hu; rfl
  case c3 => unfold maxLen; omega
  case c4 => omega
  case c5 => simp
  intro v' w1 hown hg hnil
  have hc1 : Chg [] w w1 := ((Chg.refl _ _).alloc _).grown hg (fun k hk => by simp [Value.ownBlock] at hk; omega)
  obtain ⟨g, c, rfl, e2, e3, e4, e5, _⟩ := own_beg hown hnil
  clear hown hg hnil
  go_wp2_with fail
  go_ret
  exact ⟨g, c, by first | rfl | exact ret_slice rfl (by omega) rfl, by omega, e4, e2, by simpa using e5, hc1⟩

/-- (*Accounts).Copy. -/
theorem copy_any {w : World} {b s n : Nat} {xs : List Int} (h : Acc w b s n xs) :
    Calls Try.prog 30 #[.pointer (some ⟨b, 0, none⟩)] w fun e w' => ∃ b' s', e = .returned (.pointer (some ⟨b', 0, none⟩)) ∧ Acc w' b' s' n xs ∧ Chg [] w w' ∧ w.heap.size ≤ s' ∧ w.heap.size ≤ b' := by
  obtain ⟨cap, _, _, hb0⟩ := h.head
  have h0 := hb0.at (i := 0) rfl
  clear hb0
  go_enter Try.func30, Try.ntmps30
  go_wp2_with fail
  refine (clonePair_any h.ok.len h.ok.most h.row).mono ?_
  rintro e w1 ⟨g, c, rfl, h1, h2, h3, h4, h5⟩
  go_wp2_with fail
  go_ret
  exact ⟨w1.heap.size, g, rfl, ⟨h.ok, by have := h4.lt; omega, ⟨c, h1, h2, Blk.new w1 [.slice (some ⟨g, 0, none⟩) n c] _⟩, h4.alloc _⟩, h5.alloc _, h3, h5.size⟩
end Go.Proofs.Ytkjkkchpicehoaa
