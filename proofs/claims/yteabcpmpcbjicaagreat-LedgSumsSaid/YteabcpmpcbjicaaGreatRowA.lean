
import Derived.Test.YteabcpmpcbjicaaGreatMemA
import Derived.Deep.QuietTactic
import Derived.BigQuiet
import Derived.StillTailTactics
import Derived.Deep.RegionHeld3
import Derived.BigRegion
import Derived.Deep.DrawnRows
import Derived.Outline
import Derived.Deep.AppendLies
import Derived.Deep.RegionLaw
namespace Go.Proofs.YteabcpmpcbjicaaGreat
set_option linter.unusedVariables false
open Go Go.Proofs Go.RowKit
attribute [local go_sem ↓] Go.wp_at_zero Go.wp_at_succ

/-- A queue's row in memory: the struct's block b, the row's block s. -/
structure Row (w : World) (b s : Nat) (up : Bool) (l : List Ord) : Prop where
  ok : ∀ o ∈ l, o.Ok
  lt : s < w.heap.size
  mem : (Blk w b 231 [.slice none 0 0, .bool up] ∧ l = []) ∨
    (∃ cap sp, s ≠ b ∧ Blk w b 231 [.slice (some ⟨s, 0, none⟩) l.length cap, .bool up] ∧ Blk w s 73 (ocs l ++ sp) ∧ l.length * 5 + sp.length = cap * 5 ∧ cap ≤ maxLen)

theorem Row.up {w : World} {b s : Nat} {up : Bool} {l : List Ord} (h : Row w b s up l) : w.cell? ⟨b, 1, none⟩ = some (.bool up) := by
  rcases h.mem with ⟨h, _⟩ | ⟨cap, sp, _, h, _⟩
  · exact h.at (i := 1) rfl
  · exact h.at (i := 1) rfl
theorem Row.head {w : World} {b s : Nat} {up : Bool} {l : List Ord} (h : Row w b s up l) : ∃ a cap, w.cell? ⟨b, 0, none⟩ = some (.slice a l.length cap) := by
  rcases h.mem with ⟨h1, rfl⟩ | ⟨cap, sp, _, h1, _⟩
  · exact ⟨_, _, h1.at (i := 0) rfl⟩
  · exact ⟨_, _, h1.at (i := 0) rfl⟩
theorem Row.hlt {w : World} {b s : Nat} {up : Bool} {l : List Ord} (h : Row w b s up l) : b < w.heap.size := cell_block h.up
/-- Where there are orders. -/
theorem Row.full {w : World} {b s : Nat} {up : Bool} {l : List Ord} (h : Row w b s up l) (hl : l ≠ []) : ∃ cap, s ≠ b ∧ l.length ≤ cap ∧ cap ≤ maxLen ∧ w.cell? ⟨b, 0, none⟩ = some (.slice (some ⟨s, 0, none⟩) l.length cap) ∧ Orow w s l := by
  rcases h.mem with ⟨_, h⟩ | ⟨cap, sp, h0, h1, h2, h3, h4⟩
  · exact absurd h hl
  · exact ⟨cap, h0, by omega, h4, h1.at (i := 0) rfl, sp, h2⟩
theorem Row.chg {w w' : World} {b s : Nat} {up : Bool} {l : List Ord} {S : List Nat} (h : Row w b s up l) (g : Chg S w w') (hb : b ∉ S) (hs : s ∉ S) : Row w' b s up l := by
  refine ⟨h.ok, Nat.lt_of_lt_of_le h.lt g.size, ?_⟩
  rcases h.mem with ⟨h1, h2⟩ | ⟨cap, sp, h0, h1, h2, h3⟩
  · exact .inl ⟨h1.chg g hb, h2⟩
  · exact .inr ⟨cap, sp, h0, h1.chg g hb, h2.chg g hs, h3⟩
theorem Row.okAt {w : World} {b s : Nat} {up : Bool} {l : List Ord} (h : Row w b s up l) (k : Nat) : (l.getD k Ord.zero).Ok := by
  rw [List.getD]
  cases e : l[k]? with
  | none => exact ⟨by simp [I], by simp [I], by simp [U], by simp [U]⟩
  | some v => exact h.ok _ (List.mem_of_getElem? e)

theorem Row.drew {w : World} {b s : Nat} {up : Bool} {l : List Ord} (h : Row w b s up l) : Row w.drew b s up l := ⟨h.ok, h.lt, h.mem⟩
theorem Row.drewN {w : World} {b s : Nat} {up : Bool} {l : List Ord} (h : Row w b s up l) (n : Nat) : Row (w.drewN n) b s up l := ⟨h.ok, h.lt, h.mem⟩
theorem Row.alloc {w : World} {b s : Nat} {up : Bool} {l : List Ord} (h : Row w b s up l) (o : Obj) : Row (w.alloc o) b s up l := h.chg ((Chg.refl [] w).alloc o) (by simp) (by simp)
theorem set5_app {c d : List Value} {i : Nat} (h : i + 5 ≤ c.length) (o : Ord) : set5 (c ++ d) i o = set5 c i o ++ d := by
  unfold set5
  rw [List.set_append_left _ _ (by omega), List.set_append_left _ _ (by simp; omega), List.set_append_left _ _ (by simp; omega), List.set_append_left _ _ (by simp; omega), List.set_append_left _ _ (by simp; omega)]
theorem Blk.sto {w : World} {s : Nat} {c : List Value} {T : TypeId} (h : Blk w s T c) (i : Nat) (o : Ord) : Blk (sto w s i o) s T (set5 c i o) := ((((h.set i _).set _ _).set _ _).set _ _).set _ _
theorem Blk.sto_other {w : World} {b s : Nat} {c : List Value} {T : TypeId} (h : Blk w b T c) (i : Nat) (o : Ord) (hne : b ≠ s) : Blk (Go.Proofs.YteabcpmpcbjicaaGreat.sto w s i o) b T c := ((((h.put _ _ hne).put _ _ hne).put _ _ hne).put _ _ hne).put _ _ hne
/-- An order is stored. -/
theorem Row.sto {w : World} {b s : Nat} {up : Bool} {l : List Ord} (h : Row w b s up l) {k : Nat} (hk : k < l.length) {o : Ord} (ho : o.Ok) : Row (sto w s (k * 5) o) b s up (l.set k o) := by
  refine ⟨fun x hx => ?_, by simpa [Go.Proofs.YteabcpmpcbjicaaGreat.sto, World.setCell] using h.lt, ?_⟩
  · rcases List.mem_or_eq_of_mem_set hx with h1 | h1
    · exact h.ok _ h1
    · exact h1 ▸ ho
  · rcases h.mem with ⟨_, h2⟩ | ⟨cap, sp, h0, h1, h2, h3, h4⟩
    · subst h2; simp at hk
    · refine .inr ⟨cap, sp, h0, ?_, ?_, by simpa using h3, h4⟩
      · rw [List.length_set]; exact h1.sto_other _ _ h0.symm
      · have := h2.sto (k * 5) o
        rw [set5_app (by rw [ocs_len]; omega), ocs_set l k o hk] at this
        exact this

abbrev ov (o : Ord) : Value := .agg #[.int .i64 o.id, .int .i64 o.client, .bool o.buy, .int .u64 o.price, .int .u64 o.qty]

theorem isNaNu (a : Int) (w : World) : Calls Tryz.prog 193 #[.int .u64 a] w fun e w' => e = .returned (.bool false) ∧ w = w' := by
  go_enter Tryz.func193, Tryz.ntmps193
  go_wp2
  go_ret
  exact ⟨rfl, rfl⟩
theorem isNaNi (a : Int) (w : World) : Calls Tryz.prog 194 #[.int .i64 a] w fun e w' => e = .returned (.bool false) ∧ w = w' := by
  go_enter Tryz.func194, Tryz.ntmps194
  go_wp2
  go_ret
  exact ⟨rfl, rfl⟩
theorem compareU (a b : Int) (w : World) : Calls Tryz.prog 178 #[.int .u64 a, .int .u64 b] w fun e w' => e = .returned (.int .i64 (cmpI a b)) ∧ w = w' := by
  rcases cmpI_cases a b with ⟨h, e⟩ | ⟨h, e⟩ | ⟨h, e⟩ <;> rw [e] <;> clear e
  · go_enter Tryz.func178, Tryz.ntmps178
    go_wp2_with fail
    refine (isNaNu _ _).mono ?_
    rintro e w' ⟨rfl, rfl⟩
    go_wp2_with fail
    refine (isNaNu _ _).mono ?_
    rintro e w' ⟨rfl, rfl⟩
    go_wp2_with fail
    go_ret
    exact ⟨rfl, rfl⟩
  · subst h
    go_enter Tryz.func178, Tryz.ntmps178
    go_wp2_with fail
    refine (isNaNu _ _).mono ?_
    rintro e w' ⟨rfl, rfl⟩
    go_wp2_with fail
    refine (isNaNu _ _).mono ?_
    rintro e w' ⟨rfl, rfl⟩
    go_wp2_with fail
    go_ret
    exact ⟨rfl, rfl⟩
  · go_enter Tryz.func178, Tryz.ntmps178
    go_wp2_with fail
    refine (isNaNu _ _).mono ?_
    rintro e w' ⟨rfl, rfl⟩
    go_wp2_with fail
    refine (isNaNu _ _).mono ?_
    rintro e w' ⟨rfl, rfl⟩
    go_wp2_with fail
    go_ret
    exact ⟨rfl, rfl⟩
theorem compareI (a b : Int) (w : World) : Calls Tryz.prog 180 #[.int .i64 a, .int .i64 b] w fun e w' => e = .returned (.int .i64 (cmpI a b)) ∧ w = w' := by
  rcases cmpI_cases a b with ⟨h, e⟩ | ⟨h, e⟩ | ⟨h, e⟩ <;> rw [e] <;> clear e
  · go_enter Tryz.func180, Tryz.ntmps180
    go_wp2_with fail
    refine (isNaNi _ _).mono ?_
    rintro e w' ⟨rfl, rfl⟩
    go_wp2_with fail
    refine (isNaNi _ _).mono ?_
    rintro e w' ⟨rfl, rfl⟩
    go_wp2_with fail
    go_ret
    exact ⟨rfl, rfl⟩
  · subst h
    go_enter Tryz.func180, Tryz.ntmps180
    go_wp2_with fail
    refine (isNaNi _ _).mono ?_
    rintro e w' ⟨rfl, rfl⟩
    go_wp2_with fail
    refine (isNaNi _ _).mono ?_
    rintro e w' ⟨rfl, rfl⟩
    go_wp2_with fail
    go_ret
    exact ⟨rfl, rfl⟩
  · go_enter Tryz.func180, Tryz.ntmps180
    go_wp2_with fail
    refine (isNaNi _ _).mono ?_
    rintro e w' ⟨rfl, rfl⟩
    go_wp2_with fail
    refine (isNaNi _ _).mono ?_
    rintro e w' ⟨rfl, rfl⟩
    go_wp2_with fail
    go_ret
    exact ⟨rfl, rfl⟩

/-- cmp.Or of two, that lie in a block. -/
theorem or_two (x y : Int) (g : Nat) (cap : Nat) (w : World) (h0 : w.cell? ⟨g, 0, none⟩ = some (.int .i64 x)) (h1 : w.cell? ⟨g, 1, none⟩ = some (.int .i64 y)) :
    Calls Tryz.prog 179 #[.slice (some ⟨g, 0, none⟩) 2 cap] w fun e w' => e = .returned (.int .i64 (if x = 0 then y else x)) ∧ w = w' := by
  by_cases hx : x = 0
  · rw [if_pos hx]
    subst hx
    by_cases hy : y = 0
    · subst hy
      go_enter Tryz.func179, Tryz.ntmps179
      go_wp2
      go_loop [8] (fun i => i = .int .i64 0 ∨ i = .int .i64 1 ∨ i = .int .i64 2) (fun i => 2 - (intOf i).toNat)
      case atStart => exact .inl rfl
      case round =>
        rcases hrel with rfl | rfl | rfl
        · go_wp2
          go_round
          case rel => exact .inr (.inl rfl)
          case measure => simp [intOf]
        · go_wp2
          go_round
          case rel => exact .inr (.inr rfl)
          case measure => simp [intOf]
        · go_wp2
          go_ret
          exact ⟨rfl, rfl⟩
    · have hy' : (y != 0) = true := by simpa using hy
      go_enter Tryz.func179, Tryz.ntmps179
      go_wp2
      go_loop [8] (fun i => i = .int .i64 0 ∨ i = .int .i64 1) (fun i => 2 - (intOf i).toNat)
      case atStart => exact .inl rfl
      case round =>
        rcases hrel with rfl | rfl
        · go_wp2
          go_round
          case rel => exact .inr rfl
          case measure => simp [intOf]
        · go_wp2
          go_ret
          exact ⟨rfl, rfl⟩
  · rw [if_neg hx]
    have hx' : (x != 0) = true := by simpa using hx
    go_enter Tryz.func179, Tryz.ntmps179
    go_wp2
    go_loop [8] (fun i => i = .int .i64 0) (fun i => 0)
    case atStart => rfl
    case round =>
      subst hrel
      go_wp2
      go_ret
      exact ⟨rfl, rfl⟩

/-- (*row).order. -/
theorem order_any {w : World} {b : Nat} {up : Bool} (hu : w.cell? ⟨b, 1, none⟩ = some (.bool up)) (x y : Ord) :
    Calls Tryz.prog 147 #[.pointer (some ⟨b, 0, none⟩), ov x, ov y] w fun e w' => e = .returned (.int .i64 (ordN up x y)) ∧ Chg [] w w' := by
  have hb := cell_block hu
  obtain ⟨i1, c1, b1, p1, q1⟩ := x
  obtain ⟨i2, c2, b2, p2, q2⟩ := y
  simp only [ov]
  have HO : Hid (∀ n m, cmpI p1 p2 = n → cmpI i1 i2 = m → ordN up ⟨i1, c1, b1, p1, q1⟩ ⟨i2, c2, b2, p2, q2⟩ = if (if up = true then n else -n) = 0 then m else (if up = true then n else -n)) := by
    rintro n m rfl rfl
    unfold ordN
    cases up <;> simp
  go_enter Tryz.func147, Tryz.ntmps147
  go_wp2_with fail
  refine (compareU _ _ _).mono ?_
  rintro e w' ⟨rfl, rfl⟩
  rcases cmpI_cases p1 p2 with ⟨h, e⟩ | ⟨h, e⟩ | ⟨h, e⟩
  all_goals
    rw [e]
    have e1 := Lib.hid e
    clear e h
    cases up
  all_goals
    go_wp2_with fail
    refine (compareI _ _ _).mono ?_
    rintro e w' ⟨rfl, rfl⟩
    generalize hm : cmpI i1 i2 = m
    have e2 := Lib.hid hm
    clear hm
    go_wp2_with fail
    refine (or_two _ m _ _ _ (last_cell _ _ _ (by simp) rfl) (last_cell _ _ _ (by simp) rfl)).mono ?_
    rintro e w' ⟨rfl, rfl⟩
    go_wp2_with fail
    go_ret
    exact ⟨ret_int (by rw [HO.out _ _ e1.out e2.out]; simp), (((Chg.refl [] w).alloc _).alloc _).alloc _⟩
end Go.Proofs.YteabcpmpcbjicaaGreat

namespace Go.Proofs.YteabcpmpcbjicaaGreat
set_option linter.unusedVariables false
open Go Go.Proofs Go.RowKit
attribute [local go_sem ↓] Go.wp_at_zero Go.wp_at_succ

/-- (*row).Len. -/
theorem rowLen {w : World} {b s : Nat} {up : Bool} {l : List Ord} (h : Row w b s up l) : Calls Tryz.prog 224 #[.pointer (some ⟨b, 0, none⟩)] w fun e w' => e = .returned (.int .i64 l.length) ∧ w = w' := by
  obtain ⟨a, cap, h0⟩ := h.head
  go_enter Tryz.func224, Tryz.ntmps224
  go_wp2
  go_ret
  exact ⟨rfl, rfl⟩

set_option maxRecDepth 100000 in
set_option maxHeartbeats 1000000 in
/-- (*row).Less. -/
theorem rowLess {w : World} {b s : Nat} {up : Bool} {l : List Ord} (h : Row w b s up l) {i j : Nat} (hi : i < l.length) (hj : j < l.length) :
    Calls Tryz.prog 247 #[.pointer (some ⟨b, 0, none⟩), .int .i64 i, .int .i64 j] w fun e w' => e = .returned (.bool (ahead up (l.getD i Ord.zero) (l.getD j Ord.zero))) ∧ Chg [] w w' := by
  obtain ⟨cap, hne, hlc, hcm, h0, hr⟩ := h.full (by rintro rfl; simp at hi)
  have hu := h.up
  obtain ⟨x0, x1, x2, x3, x4⟩ := hr.at hi
  obtain ⟨y0, y1, y2, y3, y4⟩ := hr.at hj
  have HO := Lib.hid (ordN_lt up (l.getD i Ord.zero) (l.getD j Ord.zero))
  generalize l.getD i Ord.zero = x at *
  generalize l.getD j Ord.zero = y at *
  have hi1 : (0 : Int) ≤ (i : Int) := by omega
  have hi2 : (i : Int) < (l.length : Int) := by omega
  have hj1 : (0 : Int) ≤ (j : Int) := by omega
  have hj2 : (j : Int) < (l.length : Int) := by omega
  unfold maxLen at hcm
  clear hr h
  go_enter Tryz.func247, Tryz.ntmps247
  go_wp2_with fail
  go_still_tail 15, (by kernel_rfl)
  change wpList _ _ _ _ _ w.drew
  have hc : Chg [] w w.drew := (Chg.refl [] w).drew
  have hu2 : w.drew.cell? ⟨b, 1, none⟩ = some (.bool up) := hu
  clear hu h0 x0 x1 x2 x3 x4 y0 y1 y2 y3 y4
  generalize w.drew = w2 at *
  go_wp2_with fail
  refine (order_any hu2 x y).mono ?_
  rintro e w' ⟨rfl, hc2⟩
  go_wp2_with fail
  go_ret
  exact ⟨ret_bool HO.out, hc.trans hc2⟩
end Go.Proofs.YteabcpmpcbjicaaGreat

namespace Go.Proofs.YteabcpmpcbjicaaGreat
set_option linter.unusedVariables false
open Go Go.Proofs Go.RowKit
attribute [local go_sem ↓] Go.wp_at_zero Go.wp_at_succ

set_option maxRecDepth 100000 in
set_option maxHeartbeats 4000000 in
/-- (*row).Swap. -/
theorem rowSwap {w : World} {b s : Nat} {up : Bool} {l : List Ord} (h : Row w b s up l) {i j : Nat} (hi : i < l.length) (hj : j < l.length) (hij : i ≠ j) :
    Calls Tryz.prog 250 #[.pointer (some ⟨b, 0, none⟩), .int .i64 i, .int .i64 j] w fun e w' => e = .returned (.tuple #[]) ∧ Row w' b s up (sw Ord.zero l i j) ∧ Chg [s] w w' := by
  obtain ⟨cap, hne, hlc, hcm, h0, hr⟩ := h.full (by rintro rfl; simp at hi)
  obtain ⟨x0, x1, x2, x3, x4⟩ := hr.at hi
  obtain ⟨y0, y1, y2, y3, y4⟩ := hr.at hj
  have f : ∀ k, w.frozen? ⟨s, k, none⟩ = false := fun k => Beg.free hr k
  have HS : Hid (Row (sto (sto w s (i * 5) (l.getD j Ord.zero)) s (j * 5) (l.getD i Ord.zero)) b s up (sw Ord.zero l i j)) := (h.sto hi (h.okAt j)).sto (by simpa using hj) (h.okAt i)
  generalize l.getD i Ord.zero = x at *
  generalize l.getD j Ord.zero = y at *
  have hi1 : (0 : Int) ≤ (i : Int) := by omega
  have hi2 : (i : Int) < (l.length : Int) := by omega
  have hj1 : (0 : Int) ≤ (j : Int) := by omega
  have hj2 : (j : Int) < (l.length : Int) := by omega
  unfold maxLen at hcm
  clear hr h
  go_enter Tryz.func250, Tryz.ntmps250
  go_wp2_with fail
  go_region
  go_end0
  exact ⟨rfl, HS.out.drew, (sto_chg (sto_chg (Chg.refl [s] w) _ _ _ (by simp)) _ _ _ (by simp)).drew⟩
end Go.Proofs.YteabcpmpcbjicaaGreat

namespace Go.Proofs.YteabcpmpcbjicaaGreat
set_option linter.unusedVariables false
open Go Go.Proofs Go.RowKit
attribute [local go_sem ↓] Go.wp_at_zero Go.wp_at_succ

theorem info_ord : (Tryz.prog.info? 73).map (fun i => (i.zero, i.size, i.bytes)) = some (some (ov Ord.zero), 5, 40) := by kernel_rfl

theorem assert_ord (v : Value) (w : World) : (Instr.typeAssert (.iface 73 v) 20 73 true).run Tryz.prog w = .ok (.tuple #[v, .bool true]) w := by kernel_rfl

theorem news_drew (w : World) (c : Array Value) (T : TypeId) {n : Nat} (hn : n = w.heap.size) : ∀ (j : Nat) u, c.toList[j]? = some u → (w.alloc (.cells c T)).drew.cell? ((Addr.mk n 0 none).add j) = some u := by
  subst hn
  exact World.news_of_block (cs := c) (t := T) (fr := (0, 0)) (heap_new w _)
theorem Blk.grown {w w' : World} {b : Nat} {T : TypeId} {c : List Value} {row : Option Nat} (h : Blk w b T c) (g : w.grownBy w' row) (hn : row ≠ some b) : Blk w' b T c := h.same (g.block b h.lt (Ne.symm hn))
theorem Row.owns {w : World} {b s : Nat} {up : Bool} {l : List Ord} (h : Row w b s up l) : ∃ v, Blk w b 231 [v, .bool up] ∧ w.ownsRow 0 73 5 v l.length (ocs l) ∧ (v.ownBlock = none ∨ v.ownBlock = some s) ∧ v.ownBlock ≠ some b := by
  rcases h.mem with ⟨h1, h2⟩ | ⟨cap, sp, h0, h1, h2, h3, h4⟩
  · subst h2
    exact ⟨_, h1, ⟨rfl, .inl ⟨rfl, rfl⟩⟩, .inl rfl, by simp [Value.ownBlock]⟩
  · refine ⟨_, h1, ⟨ocs_len l, .inr ⟨s, cap, (ocs l ++ sp).toArray, rfl, Nat.zero_le _, h2, by omega, h4, by simp [ocs_len]; omega, ?_⟩⟩, .inr rfl, by simpa [Value.ownBlock] using h0⟩
    simp [ocs_len]
theorem Row.of_owns {w : World} {b g cap : Nat} {up : Bool} {l : List Ord} (hb : Blk w b 231 [.slice (some ⟨g, 0, none⟩) l.length cap, .bool up]) (hg : g ≠ b) (hok : ∀ o ∈ l, o.Ok)
    (ho : w.ownsRow 0 73 5 (.slice (some ⟨g, 0, none⟩) l.length cap) l.length (ocs l)) : Row w b g up l := by
  rcases ho.2 with ⟨h1, _⟩ | ⟨g', cap', cur, hv, _, hh, hn, hc, hs, ht⟩
  · cases h1
  · injection hv with e1 e2 e3
    injection e1 with e1
    injection e1 with e1
    subst e1; subst e3
    have hz : g < w.heap.size := (Array.getElem?_eq_some_iff.1 hh).1
    refine ⟨hok, hz, .inr ⟨cap, cur.toList.drop (l.length * 5), hg, hb, ?_, ?_, hc⟩⟩
    · unfold Blk; rw [hh, ← ht, List.take_append_drop]
    · simp [hs]; omega

theorem Row.pushed {w1 : World} {b gg cap : Nat} {up : Bool} {l : List Ord} {v : Value} {o : Ord} (hown1 : w1.ownsRow 0 73 5 (.slice (some ⟨gg, 0, none⟩) (l.length + 1) cap) (l.length + 1) (ocs l ++ oc o))
    (hb1 : Blk w1 b 231 [v, .bool up]) (hgb : gg ≠ b) (hok : ∀ x ∈ l, x.Ok) (ho : o.Ok) : Row (w1.setCell ⟨b, 0, none⟩ (.slice (some ⟨gg, 0, none⟩) (l.length + 1) cap)) b gg up (l ++ [o]) := by
  have e : (l ++ [o]).length = l.length + 1 := by simp
  have hb2 : Blk (w1.setCell ⟨b, 0, none⟩ (.slice (some ⟨gg, 0, none⟩) (l.length + 1) cap)) b 231 [.slice (some ⟨gg, 0, none⟩) (l ++ [o]).length cap, .bool up] := by rw [e]; exact hb1.set 0 _
  refine Row.of_owns hb2 hgb (fun x hx => by rcases List.mem_append.1 hx with h | h; exact hok _ h; simp at h; exact h ▸ ho) ?_
  rw [e, ocs_snoc]
  refine ⟨hown1.1, ?_⟩
  rcases hown1.2 with h1 | ⟨g, c, cur, hv, hg, hh, hr⟩
  · exact .inl h1
  · refine .inr ⟨g, c, cur, hv, hg, ?_, hr⟩
    injection hv with e1 e2 e3
    injection e1 with e1
    injection e1 with e1
    rw [Below.heap_setCell _ _ _ _ (by show g ≠ b; omega)]
    exact hh

set_option maxRecDepth 100000 in
set_option maxHeartbeats 4000000 in
/-- (*row).Push. -/
theorem rowPush {w : World} {b s : Nat} {up : Bool} {l : List Ord} (h : Row w b s up l) {o : Ord} (ho : o.Ok) (hm : l.length < 1000000000000) :
    Calls Tryz.prog 249 #[.pointer (some ⟨b, 0, none⟩), .iface 73 (ov o)] w fun e w' => e = .returned (.tuple #[]) ∧ ∃ s', Row w' b s' up (l ++ [o]) ∧ Chg [b, s] w w' ∧ (s' = s ∨ w.heap.size ≤ s') := by
  obtain ⟨i0, hi, hz0, hz1, hz2⟩ := info_parts info_ord
  obtain ⟨v, hb, hown, hv, hvb⟩ := h.owns
  have h0 := hb.at (i := 0) rfl
  have hlt := hb.lt
  have hsl := h.lt
  have f : w.frozen? ⟨b, 0, none⟩ = false := hb.free 0
  have has := assert_ord
  go_enter Tryz.func249, Tryz.ntmps249
  go_wp2_with fail
  obtain ⟨oi, oc', ob, op, oq⟩ := o
  dsimp only
  go_region_law
    ((refine step_append_lies _ (by rfl) _ _ _ (by rfl) 0 73 i0 _ 5 40 Tryz.underlying67 hi hz0 hz1 hz2 rfl (by omega) v l.length (ocs l) (by rfl) (((hown.alloc _).alloc _).drew)
        ⟨w.heap.size + 1, 0, none⟩ 1 1 [.int .i64 oi, .int .i64 oc', .bool ob, .int .u64 op, .int .u64 oq] (by rfl) (by rfl) (news_drew (w.alloc _) _ _ (by simp)) (by simp [Value.oneCell'])
        (by omega) (by unfold maxLen; omega) (by omega) (by simp) (w.heap.size + 1 + 1) (by simp) ?_; intro gg cap w1 hown1 hgrow hat hglt; have hb1 := (((hb.alloc _).alloc _).drew).grown hgrow hvb; have hc1 := hb1.at (i := 0) rfl; have hf1 := hb1.free 0))
  all_goals
    go_end0
    have hgb : gg ≠ b := by
      rintro rfl
      rcases hat with h1 | h1
      · exact hvb h1
      · omega
    exact ⟨rfl, gg, Row.pushed (o := ⟨oi, oc', ob, op, oq⟩) hown1 hb1 hgb h.ok ho, (((((Chg.refl [b, s] w).alloc _).alloc _).drew).grown hgrow (fun k hk => by rcases hv with h1 | h1 <;> rw [h1] at hk <;> simp at hk; subst hk; simp)).setCell _ _ (by simp),
      by rcases hat with h1 | h1; rcases hv with h2 | h2; rw [h2] at h1; cases h1; rw [h2] at h1; injection h1 with h1; exact .inl h1.symm; exact .inr (by omega)⟩
end Go.Proofs.YteabcpmpcbjicaaGreat

namespace Go.Proofs.YteabcpmpcbjicaaGreat
set_option linter.unusedVariables false
open Go Go.Proofs Go.RowKit
attribute [local go_sem ↓] Go.wp_at_zero Go.wp_at_succ

/-- The last one goes. -/
theorem Row.popped {w : World} {b s : Nat} {up : Bool} {l : List Ord} {o : Ord} (h : Row w b s up (l ++ [o])) : ∃ cap, w.cell? ⟨b, 0, none⟩ = some (.slice (some ⟨s, 0, none⟩) (l.length + 1) cap) ∧ l.length + 1 ≤ cap ∧ cap ≤ maxLen ∧ Oat w s (l.length * 5) o ∧
    w.frozen? ⟨b, 0, none⟩ = false ∧ ∀ w', Chg [] w w' → Row (w'.setCell ⟨b, 0, none⟩ (.slice (some ⟨s, 0, none⟩) l.length cap)) b s up l := by
  obtain ⟨cap, hne, hlc, hcm, h0, hr⟩ := h.full (by simp)
  have hat := hr.at (k := l.length) (by simp)
  simp [List.getD] at hat
  refine ⟨cap, by simpa using h0, by simpa using hlc, hcm, hat, ?_, fun w' hc => ?_⟩
  · rcases h.mem with ⟨h1, _⟩ | ⟨cap, sp, _, h1, _⟩
    · exact h1.free 0
    · exact h1.free 0
  · refine ⟨fun x hx => h.ok x (by simp [hx]), ?_, .inr ?_⟩
    · have := h.lt; have := hc.size; simp [World.setCell]; omega
    · rcases h.mem with ⟨_, h1⟩ | ⟨cap', sp, h1, h2, h3, h4, h5⟩
      · simp at h1
      · have := h2.at (i := 0) rfl
        rw [this] at h0
        injection h0 with h0
        injection h0 with _ _ h0
        subst h0
        refine ⟨cap', oc o ++ sp, h1, (h2.chg hc (by simp)).set 0 _, ?_, ?_, h5⟩
        · rw [ocs_snoc, List.append_assoc] at h3
          exact (h3.chg hc (by simp)).put _ _ h1
        · simp [oc_len] at h4 ⊢; omega

set_option maxRecDepth 100000 in
set_option maxHeartbeats 4000000 in
/-- (*row).Pop. -/
theorem rowPop {w : World} {b s : Nat} {up : Bool} {l : List Ord} {o : Ord} (h : Row w b s up (l ++ [o])) :
    Calls Tryz.prog 248 #[.pointer (some ⟨b, 0, none⟩)] w fun e w' => e = .returned (.iface 73 (ov o)) ∧ Row w' b s up l ∧ Chg [b] w w' := by
  have hlt := h.hlt
  obtain ⟨cap, h0, hlc, hcm, ⟨c0, c1, c2, c3, c4⟩, f0, hd⟩ := h.popped
  have HD := Lib.hid hd
  clear hd h
  unfold maxLen at hcm
  go_enter Tryz.func248, Tryz.ntmps248
  go_wp2_with fail
  go_ret
  exact ⟨rfl, (HD.out w (Chg.refl _ _)).alloc _, ((Chg.refl [b] w).setCell _ _ (by simp)).alloc _⟩
end Go.Proofs.YteabcpmpcbjicaaGreat
