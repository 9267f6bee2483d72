import Derived.Test.YtkjkkchpicehoaaAcct
namespace Go.Proofs.Ytkjkkchpicehoaa
set_option linter.unusedVariables false
open Go Go.Proofs Go.RowKit

theorem info_pair : (Try.prog.info? 75).map (fun i => (i.zero, i.size, i.bytes)) = some (some (.agg #[.int .u64 0, .int .u64 0]), 2, 16) := by kernel_rfl
theorem info_u64 : (Try.prog.info? 22).map (fun i => (i.zero, i.size, i.bytes)) = some (some (.int .u64 0), 1, 8) := by kernel_rfl

def zeros (n : Nat) : List Int := List.replicate n 0
/-- How many clients there are. -/
def aN (c : Int) : Nat := if c ≤ 0 then 0 else if c < 1000 then c.toNat else 1000

theorem zeros_ok (n : Nat) (h : n ≤ 1000) : AOk n (zeros (n * 2)) :=
  ⟨by simp [zeros], h, fun x hx => by rw [List.eq_of_mem_replicate hx]; simp [U]⟩
theorem made_pair (n : Nat) : (madeCells (Value.agg #[.int .u64 0, .int .u64 0]).cells (n * 2)).toList = (zeros (n * 2)).map (Value.int .u64) := by
  apply List.ext_getElem
  · simp [madeCells, zeros]
  · intro i h1 h2
    simp [madeCells, zeros, Value.cells]
    have : i % 2 = 0 ∨ i % 2 = 1 := by omega
    rcases this with h | h <;> simp [h]

theorem new_make {w : World} {c : Int} {n : Nat} (hn : aN c = n) (hd : (c < 0 ∧ n = 0) ∨ (c = 0 ∧ n = 0) ∨ (∃ k : Nat, c = k ∧ n = k ∧ 0 < k ∧ k < 1000) ∨ (c = 1000 ∧ n = 1000) ∨ (1000 < c ∧ n = 1000)) :
    Calls Try.prog 24 #[.int .i64 c] w fun e w' => ∃ b s, e = .returned (.pointer (some ⟨b, 0, none⟩)) ∧ Acc w' b s n (zeros (n * 2)) ∧ Chg [] w w' ∧ w.heap.size ≤ s ∧ w.heap.size ≤ b := by
  obtain ⟨i0, hi, hz0, hz1, hz2⟩ := info_parts info_pair
  have HN := Lib.hid hn
  clear hn
  have : n ≤ 1000 := by omega
  have hlast : ∀ (w' : World), w'.ownsRow w.heap.size 75 2 (.slice (some ⟨w.heap.size, 0, none⟩) n n) n (madeCells (Value.agg #[.int .u64 0, .int .u64 0]).cells (n * 2)).toList → w.grownBy w' none →
      Acc (w'.alloc (.cells #[.slice (some ⟨w.heap.size, 0, none⟩) n n] 73)) w'.heap.size w.heap.size n (zeros (n * 2)) ∧ Chg [] w (w'.alloc (.cells #[.slice (some ⟨w.heap.size, 0, none⟩) n n] 73)) ∧ w.heap.size < w'.heap.size := fun w' h1 h2 => by
    have hb := (own_blk h1).1
    have hlt := hb.lt
    rw [made_pair] at hb
    exact ⟨⟨zeros_ok _ this, by omega, ⟨n, Nat.le_refl _, by unfold maxLen; omega, Blk.new w' [.slice (some ⟨w.heap.size, 0, none⟩) n n] _⟩, (hb.alloc _).beg⟩, ((Chg.refl [] w).grown h2 (by simp)).alloc _, hlt⟩
  have HL := Lib.hid hlast
  clear hlast
  rcases hd with ⟨h1, rfl⟩ | ⟨rfl, rfl⟩ | ⟨k, rfl, rfl, h1, h2⟩ | ⟨rfl, rfl⟩ | ⟨h1, rfl⟩
  · go_enter Try.func24, Try.ntmps24
    go_wp2_with (at_make; refine wpList_make_full _ rfl (.tmp 5) (.tmp 5) 71 rfl w.heap.size 75 i0 (.agg #[.int .u64 0, .int .u64 0]) 2 Try.underlying71 hi hz0 hz1 .i64 .i64 _ _ 0 rfl rfl ?c1 ?c2 ?c3 ?c4 ?c5 ?_)
    case c1 => omega
    case c2 => omega
    case c3 => rw [hz2]; omega
    case c4 => unfold maxLen; omega
    case c5 => exact Nat.le_refl _
    intro w' g1 g2
    obtain ⟨h3, h4, h5⟩ := HL.out w' g1 g2
    clear g1 g2
    go_wp2_with fail
    go_ret
    exact ⟨_, _, rfl, h3, h4, Nat.le_refl _, Nat.le_of_lt h5⟩
  · go_enter Try.func24, Try.ntmps24
    go_wp2_with (at_make; refine wpList_make_full _ rfl (.tmp 5) (.tmp 5) 71 rfl w.heap.size 75 i0 (.agg #[.int .u64 0, .int .u64 0]) 2 Try.underlying71 hi hz0 hz1 .i64 .i64 _ _ 0 rfl rfl ?c1 ?c2 ?c3 ?c4 ?c5 ?_)
    case c1 => omega
    case c2 => omega
    case c3 => rw [hz2]; omega
    case c4 => unfold maxLen; omega
    case c5 => exact Nat.le_refl _
    intro w' g1 g2
    obtain ⟨h3, h4, h5⟩ := HL.out w' g1 g2
    clear g1 g2
    go_wp2_with fail
    go_ret
    exact ⟨_, _, rfl, h3, h4, Nat.le_refl _, Nat.le_of_lt h5⟩
  · go_enter Try.func24, Try.ntmps24
    go_wp2_with (at_make; refine wpList_make_full _ rfl (.tmp 5) (.tmp 5) 71 rfl w.heap.size 75 i0 (.agg #[.int .u64 0, .int .u64 0]) 2 Try.underlying71 hi hz0 hz1 .i64 .i64 _ _ n rfl rfl ?c1 ?c2 ?c3 ?c4 ?c5 ?_)
    case c1 => omega
    case c2 => omega
    case c3 => rw [hz2]; omega
    case c4 => unfold maxLen; omega
    case c5 => exact Nat.le_refl _
    intro w' g1 g2
    obtain ⟨h3, h4, h5⟩ := HL.out w' g1 g2
    clear g1 g2
    go_wp2_with fail
    go_ret
    exact ⟨_, _, rfl, h3, h4, Nat.le_refl _, Nat.le_of_lt h5⟩
  · go_enter Try.func24, Try.ntmps24
    go_wp2_with (at_make; refine wpList_make_full _ rfl (.tmp 5) (.tmp 5) 71 rfl w.heap.size 75 i0 (.agg #[.int .u64 0, .int .u64 0]) 2 Try.underlying71 hi hz0 hz1 .i64 .i64 _ _ 1000 rfl rfl ?c1 ?c2 ?c3 ?c4 ?c5 ?_)
    case c1 => omega
    case c2 => omega
    case c3 => rw [hz2]; omega
    case c4 => unfold maxLen; omega
    case c5 => exact Nat.le_refl _
    intro w' g1 g2
    obtain ⟨h3, h4, h5⟩ := HL.out w' g1 g2
    clear g1 g2
    go_wp2_with fail
    go_ret
    exact ⟨_, _, rfl, h3, h4, Nat.le_refl _, Nat.le_of_lt h5⟩
  · go_enter Try.func24, Try.ntmps24
    go_wp2_with (at_make; refine wpList_make_full _ rfl (.tmp 5) (.tmp 5) 71 rfl w.heap.size 75 i0 (.agg #[.int .u64 0, .int .u64 0]) 2 Try.underlying71 hi hz0 hz1 .i64 .i64 _ _ 1000 rfl rfl ?c1 ?c2 ?c3 ?c4 ?c5 ?_)
    case c1 => omega
    case c2 => omega
    case c3 => rw [hz2]; omega
    case c4 => unfold maxLen; omega
    case c5 => exact Nat.le_refl _
    intro w' g1 g2
    obtain ⟨h3, h4, h5⟩ := HL.out w' g1 g2
    clear g1 g2
    go_wp2_with fail
    go_ret
    exact ⟨_, _, rfl, h3, h4, Nat.le_refl _, Nat.le_of_lt h5⟩

/-- New. -/
theorem new_any (c : Int) (w : World) :
    Calls Try.prog 24 #[.int .i64 c] w fun e w' => ∃ b s, e = .returned (.pointer (some ⟨b, 0, none⟩)) ∧ Acc w' b s (aN c) (zeros (aN c * 2)) ∧ Chg [] w w' ∧ w.heap.size ≤ s ∧ w.heap.size ≤ b := by
  refine new_make rfl ?_
  unfold aN
  by_cases h1 : c < 0
  · left; rw [if_pos (by omega)]; exact ⟨h1, rfl⟩
  by_cases h2 : c = 0
  · right; left; rw [if_pos (by omega)]; exact ⟨h2, rfl⟩
  by_cases h3 : c < 1000
  · right; right; left; rw [if_neg (by omega), if_pos h3]; exact ⟨c.toNat, by omega, rfl, by omega, by omega⟩
  by_cases h4 : c = 1000
  · right; right; right; left; rw [if_neg (by omega), if_neg h3]; exact ⟨h4, rfl⟩
  · right; right; right; right; rw [if_neg (by omega), if_neg h3]; exact ⟨by omega, rfl⟩
end Go.Proofs.Ytkjkkchpicehoaa
