import Derived.Test.YtofcphfgpnobnaaOrd
import Derived.Deep.QuietTactic
import Derived.BigQuiet
import Derived.StillTailTactics
import Derived.Deep.RegionHeld3
import Derived.BigRegion
import Derived.Deep.DrawnRows
import Derived.Outline
namespace Go.Proofs.Ytofcphfgpnobnaa
set_option linter.unusedVariables false
open Go Go.Proofs Go.RowKit
attribute [local go_sem ↓] Go.wp_at_zero Go.wp_at_succ

/-- A queue's row in memory: the struct's block b, the row's block s. -/
structure Row (w : World) (b s : Nat) (up : Bool) (l : List Ord) : Prop where
  ok : ∀ o ∈ l, o.Ok
  lt : s < w.heap.size
  mem : (Blk w b 76 [.slice none 0 0, .bool up] ∧ l = []) ∨
    (∃ cap sp, s ≠ b ∧ Blk w b 76 [.slice (some ⟨s, 0, none⟩) l.length cap, .bool up] ∧ Blk w s 28 (ocs l ++ sp) ∧ l.length * 5 + sp.length = cap * 5 ∧ cap ≤ maxLen)

theorem Row.up {w : World} {b s : Nat} {up : Bool} {l : List Ord} (h : Row w b s up l) : w.cell? ⟨b, 1, none⟩ = some (.bool up) := by
  rcases h.mem with ⟨h, _⟩ | ⟨cap, sp, _, h, _⟩
  · exact h.at (i := 1) rfl
  · exact h.at (i := 1) rfl
theorem Row.head {w : World} {b s : Nat} {up : Bool} {l : List Ord} (h : Row w b s up l) : ∃ a cap, w.cell? ⟨b, 0, none⟩ = some (.slice a l.length cap) := by
  rcases h.mem with ⟨h1, rfl⟩ | ⟨cap, sp, _, h1, _⟩
  · exact ⟨_, _, h1.at (i := 0) rfl⟩
  · exact ⟨_, _, h1.at (i := 0) rfl⟩
theorem Row.hlt {w : World} {b s : Nat} {up : Bool} {l : List Ord} (h : Row w b s up l) : b < w.heap.size := cell_block h.up
/-- Where there are orders. -/
theorem Row.full {w : World} {b s : Nat} {up : Bool} {l : List Ord} (h : Row w b s up l) (hl : l ≠ []) : ∃ cap, s ≠ b ∧ l.length ≤ cap ∧ cap ≤ maxLen ∧ w.cell? ⟨b, 0, none⟩ = some (.slice (some ⟨s, 0, none⟩) l.length cap) ∧ Orow w s l := by
  rcases h.mem with ⟨_, h⟩ | ⟨cap, sp, h0, h1, h2, h3, h4⟩
  · exact absurd h hl
  · exact ⟨cap, h0, by omega, h4, h1.at (i := 0) rfl, sp, h2⟩
theorem Row.chg {w w' : World} {b s : Nat} {up : Bool} {l : List Ord} {S : List Nat} (h : Row w b s up l) (g : Chg S w w') (hb : b ∉ S) (hs : s ∉ S) : Row w' b s up l := by
  refine ⟨h.ok, Nat.lt_of_lt_of_le h.lt g.size, ?_⟩
  rcases h.mem with ⟨h1, h2⟩ | ⟨cap, sp, h0, h1, h2, h3⟩
  · exact .inl ⟨h1.chg g hb, h2⟩
  · exact .inr ⟨cap, sp, h0, h1.chg g hb, h2.chg g hs, h3⟩
theorem Row.okAt {w : World} {b s : Nat} {up : Bool} {l : List Ord} (h : Row w b s up l) (k : Nat) : (l.getD k Ord.zero).Ok := by
  rw [List.getD]
  cases e : l[k]? with
  | none => exact ⟨by simp [I], by simp [I], by simp [U], by simp [U]⟩
  | some v => exact h.ok _ (List.mem_of_getElem? e)

theorem Row.drew {w : World} {b s : Nat} {up : Bool} {l : List Ord} (h : Row w b s up l) : Row w.drew b s up l := ⟨h.ok, h.lt, h.mem⟩
theorem Row.drewN {w : World} {b s : Nat} {up : Bool} {l : List Ord} (h : Row w b s up l) (n : Nat) : Row (w.drewN n) b s up l := ⟨h.ok, h.lt, h.mem⟩
theorem Row.alloc {w : World} {b s : Nat} {up : Bool} {l : List Ord} (h : Row w b s up l) (o : Obj) : Row (w.alloc o) b s up l := h.chg ((Chg.refl [] w).alloc o) (by simp) (by simp)
theorem set5_app {c d : List Value} {i : Nat} (h : i + 5 ≤ c.length) (o : Ord) : set5 (c ++ d) i o = set5 c i o ++ d := by
  unfold set5
  rw [List.set_append_left _ _ (by omega), List.set_append_left _ _ (by simp; omega), List.set_append_left _ _ (by simp; omega), List.set_append_left _ _ (by simp; omega), List.set_append_left _ _ (by simp; omega)]
theorem Blk.sto {w : World} {s : Nat} {c : List Value} {T : TypeId} (h : Blk w s T c) (i : Nat) (o : Ord) : Blk (sto w s i o) s T (set5 c i o) := ((((h.set i _).set _ _).set _ _).set _ _).set _ _
theorem Blk.sto_other {w : World} {b s : Nat} {c : List Value} {T : TypeId} (h : Blk w b T c) (i : Nat) (o : Ord) (hne : b ≠ s) : Blk (Go.Proofs.Ytofcphfgpnobnaa.sto w s i o) b T c := ((((h.put _ _ hne).put _ _ hne).put _ _ hne).put _ _ hne).put _ _ hne
/-- An order is stored. -/
theorem Row.sto {w : World} {b s : Nat} {up : Bool} {l : List Ord} (h : Row w b s up l) {k : Nat} (hk : k < l.length) {o : Ord} (ho : o.Ok) : Row (sto w s (k * 5) o) b s up (l.set k o) := by
  refine ⟨fun x hx => ?_, by simpa [Go.Proofs.Ytofcphfgpnobnaa.sto, World.setCell] using h.lt, ?_⟩
  · rcases List.mem_or_eq_of_mem_set hx with h1 | h1
    · exact h.ok _ h1
    · exact h1 ▸ ho
  · rcases h.mem with ⟨_, h2⟩ | ⟨cap, sp, h0, h1, h2, h3, h4⟩
    · subst h2; simp at hk
    · refine .inr ⟨cap, sp, h0, ?_, ?_, by simpa using h3, h4⟩
      · rw [List.length_set]; exact h1.sto_other _ _ h0.symm
      · have := h2.sto (k * 5) o
        rw [set5_app (by rw [ocs_len]; omega), ocs_set l k o hk] at this
        exact this

abbrev ov (o : Ord) : Value := .agg #[.int .i64 o.id, .int .i64 o.client, .bool o.buy, .int .u64 o.price, .int .u64 o.qty]

theorem isNaNu (a : Int) (w : World) : Calls Try.prog 65 #[.int .u64 a] w fun e w' => e = .returned (.bool false) ∧ w = w' := by
  go_enter Try.func65, Try.ntmps65
  go_wp2
  go_ret
  exact ⟨rfl, rfl⟩
theorem isNaNi (a : Int) (w : World) : Calls Try.prog 66 #[.int .i64 a] w fun e w' => e = .returned (.bool false) ∧ w = w' := by
  go_enter Try.func66, Try.ntmps66
  go_wp2
  go_ret
  exact ⟨rfl, rfl⟩
theorem compareU (a b : Int) (w : World) : Calls Try.prog 57 #[.int .u64 a, .int .u64 b] w fun e w' => e = .returned (.int .i64 (cmpI a b)) ∧ w = w' := by
  rcases cmpI_cases a b with ⟨h, e⟩ | ⟨h, e⟩ | ⟨h, e⟩ <;> rw [e] <;> clear e
  · go_enter Try.func57, Try.ntmps57
    go_wp2_with fail
    refine (isNaNu _ _).mono ?_
    rintro e w' ⟨rfl, rfl⟩
    go_wp2_with fail
    refine (isNaNu _ _).mono ?_
    rintro e w' ⟨rfl, rfl⟩
    go_wp2_with fail
    go_ret
    exact ⟨rfl, rfl⟩
  · subst h
    go_enter Try.func57, Try.ntmps57
    go_wp2_with fail
    refine (isNaNu _ _).mono ?_
    rintro e w' ⟨rfl, rfl⟩
    go_wp2_with fail
    refine (isNaNu _ _).mono ?_
    rintro e w' ⟨rfl, rfl⟩
    go_wp2_with fail
    go_ret
    exact ⟨rfl, rfl⟩
  · go_enter Try.func57, Try.ntmps57
    go_wp2_with fail
    refine (isNaNu _ _).mono ?_
    rintro e w' ⟨rfl, rfl⟩
    go_wp2_with fail
    refine (isNaNu _ _).mono ?_
    rintro e w' ⟨rfl, rfl⟩
    go_wp2_with fail
    go_ret
    exact ⟨rfl, rfl⟩
theorem compareI (a b : Int) (w : World) : Calls Try.prog 59 #[.int .i64 a, .int .i64 b] w fun e w' => e = .returned (.int .i64 (cmpI a b)) ∧ w = w' := by
  rcases cmpI_cases a b with ⟨h, e⟩ | ⟨h, e⟩ | ⟨h, e⟩ <;> rw [e] <;> clear e
  · go_enter Try.func59, Try.ntmps59
    go_wp2_with fail
    refine (isNaNi _ _).mono ?_
    rintro e w' ⟨rfl, rfl⟩
    go_wp2_with fail
    refine (isNaNi _ _).mono ?_
    rintro e w' ⟨rfl, rfl⟩
    go_wp2_with fail
    go_ret
    exact ⟨rfl, rfl⟩
  · subst h
    go_enter Try.func59, Try.ntmps59
    go_wp2_with fail
    refine (isNaNi _ _).mono ?_
    rintro e w' ⟨rfl, rfl⟩
    go_wp2_with fail
    refine (isNaNi _ _).mono ?_
    rintro e w' ⟨rfl, rfl⟩
    go_wp2_with fail
    go_ret
    exact ⟨rfl, rfl⟩
  · go_enter Try.func59, Try.ntmps59
    go_wp2_with fail
    refine (isNaNi _ _).mono ?_
    rintro e w' ⟨rfl, rfl⟩
    go_wp2_with fail
    refine (isNaNi _ _).mono ?_
    rintro e w' ⟨rfl, rfl⟩
    go_wp2_with fail
    go_ret
    exact ⟨rfl, rfl⟩

/-- cmp.Or of two, that lie in a block. -/
theorem or_two (x y : Int) (g : Nat) (cap : Nat) (w : World) (h0 : w.cell? ⟨g, 0, none⟩ = some (.int .i64 x)) (h1 : w.cell? ⟨g, 1, none⟩ = some (.int .i64 y)) :
    Calls Try.prog 58 #[.slice (some ⟨g, 0, none⟩) 2 cap] w fun e w' => e = .returned (.int .i64 (if x = 0 then y else x)) ∧ w = w' := by
  by_cases hx : x = 0
  · rw [if_pos hx]
    subst hx
    by_cases hy : y = 0
    · subst hy
      go_enter Try.func58, Try.ntmps58
      go_wp2
      go_loop [8] (fun i => i = .int .i64 0 ∨ i = .int .i64 1 ∨ i = .int .i64 2) (fun i => 2 - (intOf i).toNat)
      case atStart => exact .inl rfl
      case round =>
        rcases hrel with rfl | rfl | rfl
        · go_wp2
          go_round
          case rel => exact .inr (.inl rfl)
          case measure => simp [intOf]
        · go_wp2
          go_round
          case rel => exact .inr (.inr rfl)
          case measure => simp [intOf]
        · go_wp2
          go_ret
          exact ⟨rfl, rfl⟩
    · have hy' : (y != 0) = true := by simpa using hy
      go_enter Try.func58, Try.ntmps58
      go_wp2
      go_loop [8] (fun i => i = .int .i64 0 ∨ i = .int .i64 1) (fun i => 2 - (intOf i).toNat)
      case atStart => exact .inl rfl
      case round =>
        rcases hrel with rfl | rfl
        · go_wp2
          go_round
          case rel => exact .inr rfl
          case measure => simp [intOf]
        · go_wp2
          go_ret
          exact ⟨rfl, rfl⟩
  · rw [if_neg hx]
    have hx' : (x != 0) = true := by simpa using hx
    go_enter Try.func58, Try.ntmps58
    go_wp2
    go_loop [8] (fun i => i = .int .i64 0) (fun i => 0)
    case atStart => rfl
    case round =>
      subst hrel
      go_wp2
      go_ret
      exact ⟨rfl, rfl⟩

/-- (*row).order. -/
theorem order_any {w : World} {b : Nat} {up : Bool} (hu : w.cell? ⟨b, 1, none⟩ = some (.bool up)) (x y : Ord) :
    Calls Try.prog 46 #[.pointer (some ⟨b, 0, none⟩), ov x, ov y] w fun e w' => e = .returned (.int .i64 (ordN up x y)) ∧ Chg [] w w' := by
  have hb := cell_block hu
  obtain ⟨i1, c1, b1, p1, q1⟩ := x
  obtain ⟨i2, c2, b2, p2, q2⟩ := y
  simp only [ov]
  have HO : Hid (∀ n m, cmpI p1 p2 = n → cmpI i1 i2 = m → ordN up ⟨i1, c1, b1, p1, q1⟩ ⟨i2, c2, b2, p2, q2⟩ = if (if up = true then n else -n) = 0 then m else (if up = true then n else -n)) := by
    rintro n m rfl rfl
    unfold ordN
    cases up <;> simp
  go_enter Try.func46, Try.ntmps46
  go_wp2_with fail
  refine (compareU _ _ _).mono ?_
  rintro e w' ⟨rfl, rfl⟩
  rcases cmpI_cases p1 p2 with ⟨h, e⟩ | ⟨h, e⟩ | ⟨h, e⟩
  all_goals
    rw [e]
    have e1 := Lib.hid e
    clear e h
    cases up
  all_goals
    go_wp2_with fail
    refine (compareI _ _ _).mono ?_
    rintro e w' ⟨rfl, rfl⟩
    generalize hm : cmpI i1 i2 = m
    have e2 := Lib.hid hm
    clear hm
    go_wp2_with fail
    refine (or_two _ m _ _ _ (last_cell _ _ _ (by simp) rfl) (last_cell _ _ _ (by simp) rfl)).mono ?_
    rintro e w' ⟨rfl, rfl⟩
    go_wp2_with fail
    go_ret
    exact ⟨ret_int (by rw [HO.out _ _ e1.out e2.out]; simp), (((Chg.refl [] w).alloc _).alloc _).alloc _⟩
end Go.Proofs.Ytofcphfgpnobnaa
