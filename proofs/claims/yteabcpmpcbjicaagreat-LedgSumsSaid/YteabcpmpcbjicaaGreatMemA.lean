
import Derived.Test.YteabcpmpcbjicaaGreatBase
import Derived.WalkKit
import Derived.Maps.Own
import Derived.Maps.OwnOps
import Derived.Maps.Views
namespace Go.Proofs.YteabcpmpcbjicaaGreat
set_option linter.unusedVariables false
open Go Go.Proofs Go.RowKit

theorem heap_new (w : World) (o : Obj) : (w.alloc o).heap[w.heap.size]? = some o := (Go.MapKept.heap_alloc w o).1
theorem add_none (b off k : Nat) : (Addr.mk b off none).add k = ⟨b, off + k, none⟩ := by
  unfold Addr.add; split
  · subst_vars; rfl
  · rfl
theorem cell_block {w : World} {a : Addr} {v : Value} (h : w.cell? a = some v) : a.block < w.heap.size := by
  unfold World.cell? at h
  split at h
  · rename_i h2; exact (Array.getElem?_eq_some_iff.1 h2).1
  · simp at h
theorem ret_bool {a b : Bool} (h : a = b) : Ending.returned (.bool a) = .returned (.bool b) := by rw [h]
theorem vint {k : IntKind} {a b : Int} (h : a = b) : Value.int k a = .int k b := by rw [h]

/-- Block b holds just these cells, of type T; it may be written. -/
def Blk (w : World) (b : Nat) (T : TypeId) (c : List Value) : Prop := w.heap[b]? = some (.cells c.toArray T (0, 0))

theorem Blk.lt {w : World} {b : Nat} {T : TypeId} {c : List Value} (h : Blk w b T c) : b < w.heap.size := (Array.getElem?_eq_some_iff.1 h).1
theorem Blk.cell {w : World} {b : Nat} {T : TypeId} {c : List Value} (h : Blk w b T c) (i : Nat) : w.cell? ⟨b, i, none⟩ = c[i]? := by
  unfold Blk at h; simp [World.cell?, h]
theorem Blk.at {w : World} {b : Nat} {T : TypeId} {c : List Value} (h : Blk w b T c) {i : Nat} {v : Value} (hv : c[i]? = some v) : w.cell? ⟨b, i, none⟩ = some v := (h.cell i).trans hv
theorem Blk.free {w : World} {b : Nat} {T : TypeId} {c : List Value} (h : Blk w b T c) (i : Nat) : w.frozen? ⟨b, i, none⟩ = false := by
  unfold Blk at h; simp [World.frozen?, h]
theorem Blk.same {w w' : World} {b : Nat} {T : TypeId} {c : List Value} (h : Blk w b T c) (e : w'.heap[b]? = w.heap[b]?) : Blk w' b T c := e.trans h
theorem Blk.new (w : World) (c : List Value) (T : TypeId) : Blk (w.alloc (.cells c.toArray T)) w.heap.size T c := heap_new _ _
theorem Blk.set {w : World} {b : Nat} {T : TypeId} {c : List Value} (h : Blk w b T c) (i : Nat) (v : Value) : Blk (w.setCell ⟨b, i, none⟩ v) b T (c.set i v) := by
  unfold Blk at h ⊢
  simp only [World.setCell, Array.getElem?_modify, h]
  simp

/-- Nothing of what was there has turned, but for blocks of S. -/
structure Chg (S : List Nat) (w w' : World) : Prop where
  os : w'.os = w.os
  tape : w'.tape = w.tape
  output : w'.output = w.output
  size : w.heap.size ≤ w'.heap.size
  block : ∀ k, k < w.heap.size → k ∉ S → w'.heap[k]? = w.heap[k]?

theorem Chg.refl (S : List Nat) (w : World) : Chg S w w := ⟨rfl, rfl, rfl, Nat.le_refl _, fun _ _ _ => rfl⟩
theorem Chg.trans {S : List Nat} {a b c : World} (h : Chg S a b) (k : Chg S b c) : Chg S a c :=
  ⟨k.os.trans h.os, k.tape.trans h.tape, k.output.trans h.output, Nat.le_trans h.size k.size, fun i hi hn => (k.block i (Nat.lt_of_lt_of_le hi h.size) hn).trans (h.block i hi hn)⟩
/-- What turns later may be old blocks of S, or blocks that are new. -/
theorem Chg.trans' {S R : List Nat} {a b c : World} (h : Chg S a b) (k : Chg R b c) (hR : ∀ x ∈ R, x ∈ S ∨ a.heap.size ≤ x) : Chg S a c :=
  ⟨k.os.trans h.os, k.tape.trans h.tape, k.output.trans h.output, Nat.le_trans h.size k.size, fun i hi hn => (k.block i (Nat.lt_of_lt_of_le hi h.size) (fun hm => by rcases hR i hm with h1 | h1; exact hn h1; omega)).trans (h.block i hi hn)⟩
theorem Chg.mono {S R : List Nat} {a b : World} (h : Chg S a b) (hs : ∀ x ∈ S, x ∈ R) : Chg R a b := ⟨h.os, h.tape, h.output, h.size, fun k hk hn => h.block k hk fun hm => hn (hs k hm)⟩
theorem Chg.drew {S : List Nat} {a w : World} (h : Chg S a w) : Chg S a w.drew := ⟨h.os, h.tape, h.output, h.size, h.block⟩
theorem Chg.drewN {S : List Nat} {a w : World} (h : Chg S a w) (n : Nat) : Chg S a (w.drewN n) := ⟨h.os, h.tape, h.output, h.size, h.block⟩
theorem Chg.alloc {S : List Nat} {a w : World} (h : Chg S a w) (o : Obj) : Chg S a (w.alloc o) :=
  ⟨h.os, h.tape, h.output, Nat.le_trans h.size (by simp), fun k hk hn => (Below.heap_alloc _ _ _ (Nat.lt_of_lt_of_le hk h.size)).trans (h.block k hk hn)⟩
theorem Chg.setCell {S : List Nat} {a w : World} (h : Chg S a w) (p : Addr) (u : Value) (hp : p.block ∈ S ∨ a.heap.size ≤ p.block) : Chg S a (w.setCell p u) :=
  ⟨h.os, h.tape, h.output, by simpa [World.setCell] using h.size, fun k hk hn => (Below.heap_setCell _ _ _ _ (fun e => by subst e; rcases hp with h1 | h1; exact hn h1; omega)).trans (h.block k hk hn)⟩
theorem Chg.grown {S : List Nat} {a w w' : World} {row : Option Nat} (h : Chg S a w) (hg : w.grownBy w' row) (hr : ∀ k, row = some k → k ∈ S ∨ a.heap.size ≤ k) : Chg S a w' :=
  ⟨hg.os.trans h.os, hg.tape.trans h.tape, hg.output.trans h.output, Nat.le_trans h.size hg.size, fun k hk hn => (hg.block k (Nat.lt_of_lt_of_le hk h.size) (fun e => by rcases hr k e.symm with h1 | h1; exact hn h1; omega)).trans (h.block k hk hn)⟩
theorem Chg.below {w w' : World} (h : Chg [] w w') : Below w.heap.size w w' := ⟨h.os, h.tape, h.output, h.size, fun k hk => h.block k hk (by simp)⟩
theorem Chg.of_below {w w' : World} (h : Below w.heap.size w w') : Chg [] w w' := ⟨h.os, h.tape, h.output, h.size, fun k hk _ => h.block k hk⟩
theorem Chg.cell {S : List Nat} {w w' : World} (h : Chg S w w') {p : Addr} {v : Value} (hp : w.cell? p = some v) (hn : p.block ∉ S) : w'.cell? p = some v :=
  (World.cell?_of_block (w := w) (h.block p.block (cell_block hp) hn)).trans hp
theorem Blk.chg {S : List Nat} {w w' : World} {b : Nat} {T : TypeId} {c : List Value} (h : Blk w b T c) (g : Chg S w w') (hn : b ∉ S) : Blk w' b T c := h.same (g.block b h.lt hn)
theorem Blk.alloc {w : World} {b : Nat} {T : TypeId} {c : List Value} (h : Blk w b T c) (o : Obj) : Blk (w.alloc o) b T c := h.same (Below.heap_alloc _ _ _ h.lt)
theorem Blk.put {w : World} {b : Nat} {T : TypeId} {c : List Value} (h : Blk w b T c) (p : Addr) (u : Value) (hn : b ≠ p.block) : Blk (w.setCell p u) b T c := h.same (Below.heap_setCell _ _ _ _ hn)
theorem Blk.drew {w : World} {b : Nat} {T : TypeId} {c : List Value} (h : Blk w b T c) : Blk w.drew b T c := h

/-- Block b begins with these cells. -/
def Beg (w : World) (b : Nat) (T : TypeId) (c : List Value) : Prop := ∃ sp, Blk w b T (c ++ sp)
theorem Beg.lt {w : World} {b : Nat} {T : TypeId} {c : List Value} (h : Beg w b T c) : b < w.heap.size := h.elim fun _ g => g.lt
theorem Beg.at {w : World} {b : Nat} {T : TypeId} {c : List Value} (h : Beg w b T c) {i : Nat} {v : Value} (hv : c[i]? = some v) : w.cell? ⟨b, i, none⟩ = some v := by
  obtain ⟨sp, g⟩ := h
  exact g.at (by rw [List.getElem?_append_left (List.getElem?_eq_some_iff.1 hv).1]; exact hv)
theorem Beg.free {w : World} {b : Nat} {T : TypeId} {c : List Value} (h : Beg w b T c) (i : Nat) : w.frozen? ⟨b, i, none⟩ = false := h.elim fun _ g => g.free i
theorem Beg.same {w w' : World} {b : Nat} {T : TypeId} {c : List Value} (h : Beg w b T c) (e : w'.heap[b]? = w.heap[b]?) : Beg w' b T c := h.elim fun sp g => ⟨sp, g.same e⟩
theorem Beg.set {w : World} {b : Nat} {T : TypeId} {c : List Value} (h : Beg w b T c) (i : Nat) (v : Value) (hi : i < c.length) : Beg (w.setCell ⟨b, i, none⟩ v) b T (c.set i v) := by
  obtain ⟨sp, g⟩ := h
  exact ⟨sp, by have := g.set i v; rwa [List.set_append_left _ _ hi] at this⟩
theorem Beg.chg {S : List Nat} {w w' : World} {b : Nat} {T : TypeId} {c : List Value} (h : Beg w b T c) (g : Chg S w w') (hn : b ∉ S) : Beg w' b T c := h.same (g.block b h.lt hn)
theorem Beg.alloc {w : World} {b : Nat} {T : TypeId} {c : List Value} (h : Beg w b T c) (o : Obj) : Beg (w.alloc o) b T c := h.same (Below.heap_alloc _ _ _ h.lt)
theorem Beg.put {w : World} {b : Nat} {T : TypeId} {c : List Value} (h : Beg w b T c) (p : Addr) (u : Value) (hn : b ≠ p.block) : Beg (w.setCell p u) b T c := h.same (Below.heap_setCell _ _ _ _ hn)
theorem Blk.beg {w : World} {b : Nat} {T : TypeId} {c : List Value} (h : Blk w b T c) : Beg w b T c := ⟨[], by rw [List.append_nil]; exact h⟩
/-- A row that is owned: its block, its capacity. -/
theorem own_beg {w : World} {base : Nat} {T : TypeId} {size n : Nat} {v : Value} {xs : List Value} (h : w.ownsRow base T size v n xs) (hv : v ≠ .slice none 0 0) : ∃ g cap, v = .slice (some ⟨g, 0, none⟩) n cap ∧ base ≤ g ∧ n ≤ cap ∧ cap ≤ maxLen ∧ Beg w g T xs ∧ xs.length = n * size := by
  rcases h.2 with ⟨h1, _⟩ | ⟨g, cap, cur, hv, hg, hh, hn, hc, hs, ht⟩
  · exact absurd h1 hv
  · refine ⟨g, cap, hv, hg, hn, hc, ⟨cur.toList.drop (n * size), ?_⟩, h.1⟩
    unfold Blk
    rw [hh, ← ht, List.take_append_drop]

/-- A row that is owned, all of it in use: its block. -/
theorem own_blk {w : World} {base : Nat} {T : TypeId} {size g n : Nat} {xs : List Value} (h : w.ownsRow base T size (.slice (some ⟨g, 0, none⟩) n n) n xs) : Blk w g T xs ∧ base ≤ g := by
  rcases h.2 with ⟨h1, _⟩ | ⟨g', cap, cur, hv, hg, hh, hn, hc, hs, ht⟩
  · cases h1
  · injection hv with e1 e2 e3
    injection e1 with e1
    injection e1 with e1
    subst e1; subst e3
    refine ⟨?_, hg⟩
    unfold Blk
    rw [hh, ← ht, List.take_of_length_le (by simp [hs])]

theorem one_new (w : World) (v : Value) (T : TypeId) (j : Nat) (u : Value) (h : [v][j]? = some u) : (w.alloc (.cells #[v] T)).cell? ((Addr.mk w.heap.size 0 none).add j) = some u := by
  have hj : j = 0 := by
    rcases Nat.lt_or_ge j 1 with h1 | h1
    · omega
    · rw [List.getElem?_eq_none (by simpa using h1)] at h; simp at h
  subst hj
  simp at h
  subst h
  simp only [add_none, World.cell?, heap_new]
  simp
theorem last_cell (w : World) (c : Array Value) (T : TypeId) {n j : Nat} {v : Value} (hn : n = w.heap.size) (h : c[j]? = some v) : (w.alloc (.cells c T)).cell? ⟨n, j, none⟩ = some v := by
  subst hn
  simp only [World.cell?, heap_new]
  simpa using h
theorem one_at (w : World) (v : Value) (T : TypeId) {n : Nat} (hn : n = w.heap.size) (j : Nat) (u : Value) (h : [v][j]? = some u) : (w.alloc (.cells #[v] T)).cell? ((Addr.mk n 0 none).add j) = some u := by
  subst hn; exact one_new w v T j u h
theorem own_base {w : World} {base n : Nat} {T : TypeId} {sz : Nat} {v : Value} {xs : List Value} (h : w.ownsRow base T sz v n xs) : ∀ k, v.ownBlock = some k → base ≤ k := by
  intro k hk
  rcases h.2 with ⟨rfl, _⟩ | ⟨g, c, cur, rfl, hg, _⟩
  · simp [Value.ownBlock] at hk
  · simp [Value.ownBlock] at hk; omega
theorem own_slice {w : World} {base n : Nat} {T : TypeId} {sz : Nat} {v : Value} {xs : List Value} (h : w.ownsRow base T sz v n xs) : ∃ a c, v = .slice a n c := by
  rcases h.2 with ⟨rfl, h0⟩ | ⟨g, c, cur, rfl, _⟩
  · exact ⟨none, 0, by rw [h0]⟩
  · exact ⟨_, _, rfl⟩
/-- A row of numbers that is owned, as a row. -/
theorem row64_owned {w : World} {base n : Nat} {T : TypeId} {a : Option Addr} {cap : Nat} {l : List Int} (h : w.ownsRow base T 1 (.slice a n cap) n (l.map (Value.int .u64))) : Row64 w a l := by
  obtain ⟨h1, h2⟩ := h
  rcases h2 with ⟨h2, h3⟩ | ⟨g, c, cur, hv, hg, hh, hn, hc, hs, ht⟩
  · subst h3; left; simpa using h1
  · right
    injection hv with e1 e2 e3
    refine ⟨g, 0, e1, fun j hj => ?_⟩
    simp only [World.cell?, hh, Nat.zero_add]
    have hjn : j < n * 1 := by simp at h1; omega
    have e : (cur.toList.take (n * 1))[j]? = (l.map (Value.int .u64))[j]? := by rw [ht]
    rw [List.getElem?_take, if_pos hjn] at e
    simp [hj] at e
    simp [hj, List.getD, e]
theorem row64_below {w w' : World} {s : Option Addr} {l : List Int} (h : Row64 w s l) (hb : Below w.heap.size w w') : Row64 w' s l := by
  rcases h with rfl | ⟨b, off, rfl, hc⟩
  · exact .inl rfl
  · refine .inr ⟨b, off, rfl, fun j hj => ?_⟩
    have h0 := hc j hj
    rw [← h0]
    exact hb.cell (p := ⟨b, off + j, none⟩) (cell_block h0)
theorem row64_cell {w : World} {s : Option Addr} {l : List Int} (h : Row64 w s l) {j : Nat} (hj : j < l.length) : ∃ b off, s = some ⟨b, off, none⟩ ∧ w.cell? ⟨b, off + j, none⟩ = some (.int .u64 (l.getD j 0)) := by
  rcases h with rfl | ⟨b, off, rfl, hc⟩
  · simp at hj
  · exact ⟨b, off, rfl, hc j hj⟩
theorem shr_U {a : Int} (h : U a) (n : Int) (hn : 1 ≤ n) : U (a / n) := by
  have := Int.ediv_le_self n h.1
  have := h.2
  exact ⟨Int.ediv_nonneg h.1 (by omega), by omega⟩
/-- The lower places of a number. -/
theorem low_i64 (x : Int) (k : Nat) (hk : k ≤ 62) : ∃ f : Nat, bits BinOp.and .i64 x ((2 ^ k - 1 : Nat) : Int) = f ∧ f < 2 ^ k := by
  have h := and_mask_i64 x k hk
  have hpos : 0 < (2 ^ k : Nat) := Nat.pow_pos (by omega)
  have h1 := Int.emod_nonneg x (b := ((2 ^ k : Nat) : Int)) (by omega)
  have h2 := Int.emod_lt_of_pos x (b := ((2 ^ k : Nat) : Int)) (by omega)
  exact ⟨(x % ((2 ^ k : Nat) : Int)).toNat, by omega, by omega⟩
theorem low_u64 (x : Int) (k : Nat) (hk : k ≤ 62) : ∃ f : Nat, bits BinOp.and .u64 x ((2 ^ k - 1 : Nat) : Int) = f ∧ f < 2 ^ k := by
  have h := and_mask_u64 x k hk
  have hpos : 0 < (2 ^ k : Nat) := Nat.pow_pos (by omega)
  have h1 := Int.emod_nonneg x (b := ((2 ^ k : Nat) : Int)) (by omega)
  have h2 := Int.emod_lt_of_pos x (b := ((2 ^ k : Nat) : Int)) (by omega)
  exact ⟨(x % ((2 ^ k : Nat) : Int)).toNat, by omega, by omega⟩
theorem and1_i64 (x : Int) : ∃ f : Nat, bits BinOp.and .i64 x 1 = f ∧ f < 2 := low_i64 x 1 (by omega)
theorem and1_u64 (x : Int) : ∃ f : Nat, bits BinOp.and .u64 x 1 = f ∧ f < 2 := low_u64 x 1 (by omega)
theorem and3_i64 (x : Int) : ∃ f : Nat, bits BinOp.and .i64 x 3 = f ∧ f < 4 := low_i64 x 2 (by omega)
theorem and3_u64 (x : Int) : ∃ f : Nat, bits BinOp.and .u64 x 3 = f ∧ f < 4 := low_u64 x 2 (by omega)
theorem and7_i64 (x : Int) : ∃ f : Nat, bits BinOp.and .i64 x 7 = f ∧ f < 8 := low_i64 x 3 (by omega)
theorem and7_u64 (x : Int) : ∃ f : Nat, bits BinOp.and .u64 x 7 = f ∧ f < 8 := low_u64 x 3 (by omega)
theorem and15_i64 (x : Int) : ∃ f : Nat, bits BinOp.and .i64 x 15 = f ∧ f < 16 := low_i64 x 4 (by omega)
theorem and15_u64 (x : Int) : ∃ f : Nat, bits BinOp.and .u64 x 15 = f ∧ f < 16 := low_u64 x 4 (by omega)
theorem and31_i64 (x : Int) : ∃ f : Nat, bits BinOp.and .i64 x 31 = f ∧ f < 32 := low_i64 x 5 (by omega)
theorem and31_u64 (x : Int) : ∃ f : Nat, bits BinOp.and .u64 x 31 = f ∧ f < 32 := low_u64 x 5 (by omega)
theorem and63_i64 (x : Int) : ∃ f : Nat, bits BinOp.and .i64 x 63 = f ∧ f < 64 := low_i64 x 6 (by omega)
theorem and63_u64 (x : Int) : ∃ f : Nat, bits BinOp.and .u64 x 63 = f ∧ f < 64 := low_u64 x 6 (by omega)
theorem and255_i64 (x : Int) : ∃ f : Nat, bits BinOp.and .i64 x 255 = f ∧ f < 256 := low_i64 x 8 (by omega)
theorem and255_u64 (x : Int) : ∃ f : Nat, bits BinOp.and .u64 x 255 = f ∧ f < 256 := low_u64 x 8 (by omega)
def isum : List Int → Int
  | [] => 0
  | x :: l => x + isum l
theorem isum_append (l m : List Int) : isum (l ++ m) = isum l + isum m := by
  induction l with
  | nil => simp [isum]
  | cons x l ih => simp [isum, ih, Int.add_assoc]
theorem isum_reverse (l : List Int) : isum l.reverse = isum l := by
  induction l with
  | nil => rfl
  | cons x l ih => simp [isum, isum_append, ih, Int.add_comm]
theorem isum_nonneg (l : List Int) (h : ∀ x ∈ l, 0 ≤ x) : 0 ≤ isum l := by
  induction l with
  | nil => simp [isum]
  | cons x l ih => have := h x (by simp); have := ih fun y hy => h y (by simp [hy]); simp [isum]; omega
/-- A sum is the plain sum, where no part of it is too much. -/
theorem sumFrom_eq (l : List Int) : ∀ s, s < 18446744073709551616 → (∀ x ∈ l, 0 ≤ x) → sumFrom s l = if s + isum l < 18446744073709551616 then some (s + isum l) else none := by
  induction l with
  | nil => intro s hs _; simp [sumFrom, isum, hs]
  | cons x l ih =>
    intro s hs h
    have hx := h x (by simp)
    have hl : 0 ≤ isum l := isum_nonneg _ fun y hy => h y (by simp [hy])
    have e : isum (x :: l) = x + isum l := rfl
    have e2 : s + x + isum l = s + isum (x :: l) := by omega
    by_cases g : s + x < 18446744073709551616
    · have e1 : sumFrom s (x :: l) = sumFrom (s + x) l := if_pos g
      rw [e1, ih _ g fun y hy => h y (by simp [hy]), e2]
    · have e1 : sumFrom s (x :: l) = none := if_neg g
      rw [if_neg (by omega), e1]
theorem sum_facts (l : List Int) (h : ∀ x ∈ l, U x) : cSumN l = (if isum l < 18446744073709551616 then isum l else 0) ∧ cSumB l = decide (isum l < 18446744073709551616) := by
  have e := sumFrom_eq l 0 (by omega) fun x hx => (h x hx).1
  rw [Int.zero_add] at e
  unfold cSumN cSumB
  rw [e]
  by_cases g : isum l < 18446744073709551616 <;> simp [g]
end Go.Proofs.YteabcpmpcbjicaaGreat

namespace Go.Proofs.YteabcpmpcbjicaaGreat
set_option linter.unusedVariables false

/-! A heap in a list: plain. -/
section
variable {α : Type} (d : α) (lt : α → α → Bool)

/-- An order: strict, and what is not ahead of what is not ahead is not ahead. -/
structure Swo : Prop where
  irr : ∀ a, lt a a = false
  tr : ∀ a b c, lt a b = true → lt b c = true → lt a c = true
  ntr : ∀ a b c, lt a b = false → lt b c = false → lt a c = false
variable {lt}
theorem Swo.asy (h : Swo lt) {a b : α} (g : lt a b = true) : lt b a = false := by
  cases e : lt b a
  · rfl
  · have := h.tr _ _ _ g e; rw [h.irr] at this; cases this
variable (lt)

def sw (l : List α) (i j : Nat) : List α := (l.set i (l.getD j d)).set j (l.getD i d)
theorem sw_len (l : List α) (i j : Nat) : (sw d l i j).length = l.length := by simp [sw]
theorem sw_get {l : List α} {i j : Nat} (hi : i < l.length) (hj : j < l.length) (k : Nat) : (sw d l i j).getD k d = if k = j then l.getD i d else if k = i then l.getD j d else l.getD k d := by
  unfold sw
  simp only [List.getD, List.getElem?_set, List.length_set]
  by_cases h1 : k = j
  · subst h1; simp [hj]
  · rw [if_neg (Ne.symm h1), if_neg h1]
    by_cases h2 : k = i
    · subst h2; simp [hi]
    · rw [if_neg (Ne.symm h2), if_neg h2]
theorem set_perm (l : List α) (i : Nat) (x : α) (hi : i < l.length) : (x :: l).Perm (l.getD i d :: l.set i x) := by
  induction l generalizing i with
  | nil => simp at hi
  | cons y l ih =>
    cases i with
    | zero => simp [List.getD]; exact List.Perm.swap _ _ _
    | succ i =>
      have hi' : i < l.length := by simpa using hi
      have := ih i hi'
      simp only [List.set_cons_succ, List.getD_cons_succ]
      exact (List.Perm.swap _ _ _).trans ((List.Perm.cons y this).trans (List.Perm.swap _ _ _))
theorem sw_perm {l : List α} {i j : Nat} (hi : i < l.length) (hj : j < l.length) : (sw d l i j).Perm l := by
  have h1 := set_perm d l i (l.getD j d) hi
  have hj' : j < (l.set i (l.getD j d)).length := by simpa using hj
  have h2 := set_perm d (l.set i (l.getD j d)) j (l.getD i d) hj'
  have e : (l.set i (l.getD j d)).getD j d = l.getD j d := by
    simp only [List.getD, List.getElem?_set]
    by_cases h : i = j
    · subst h; simp [hi]
    · rw [if_neg h]
  rw [e] at h2
  have h3 := h1.trans h2
  exact (List.perm_cons _).1 h3.symm

def par (k : Nat) : Nat := (k - 1) / 2
/-- The one at k is not ahead of its parent. -/
def okAt (l : List α) (k : Nat) : Prop := lt (l.getD k d) (l.getD (par k) d) = false
/-- The first n are a heap. -/
def Hp (n : Nat) (l : List α) : Prop := ∀ k, 0 < k → k < n → okAt d lt l k
/-- .. but for the one at j and its parent. -/
def UpI (n : Nat) (l : List α) (j : Nat) : Prop :=
  (∀ k, 0 < k → k < n → k ≠ j → okAt d lt l k) ∧ (0 < j → ∀ k, 0 < k → k < n → par k = j → lt (l.getD k d) (l.getD (par j) d) = false)
theorem UpI.done {n : Nat} {l : List α} {j : Nat} (h : UpI d lt n l j) (hj : j = 0 ∨ okAt d lt l j) : Hp d lt n l := by
  intro k h0 hk
  by_cases e : k = j
  · subst e
    rcases hj with h1 | h1
    · omega
    · exact h1
  · exact h.1 k h0 hk e
variable {d lt}
theorem UpI.step (o : Swo lt) {n : Nat} {l : List α} {j : Nat} (h : UpI d lt n l j) (hn : n ≤ l.length) (hj : j < n) (h0 : 0 < j) (hl : lt (l.getD j d) (l.getD (par j) d) = true) : UpI d lt n (sw d l (par j) j) (par j) := by
  have hp : par j < j := by unfold par; omega
  have g := sw_get d (l := l) (i := par j) (j := j) (by omega) (by omega)
  refine ⟨fun k k0 kn kp => ?_, fun p0 k k0 kn kp => ?_⟩
  · unfold okAt
    rw [g, g]
    by_cases e : k = j
    · subst e
      rw [if_pos rfl, if_neg (by omega), if_pos rfl]
      exact o.asy hl
    · rw [if_neg e, if_neg kp]
      by_cases e2 : par k = j
      · rw [if_pos e2]; exact h.2 h0 k k0 kn e2
      · rw [if_neg e2]
        by_cases e3 : par k = par j
        · rw [if_pos e3]
          have hk := h.1 k k0 kn e
          unfold okAt at hk
          rw [e3] at hk
          cases e4 : lt (l.getD k d) (l.getD j d)
          · rfl
          · have := o.tr _ _ _ e4 hl; rw [hk] at this; cases this
        · rw [if_neg e3]; exact h.1 k k0 kn e
  · have hpp : par (par j) < par j := by unfold par at p0 ⊢; omega
    have hpj := h.1 (par j) p0 (by omega) (by omega)
    rw [g, g, if_neg (show par (par j) ≠ j by omega), if_neg (show par (par j) ≠ par j by omega)]
    by_cases e : k = j
    · subst e; rw [if_pos rfl]; exact hpj
    · rw [if_neg e, if_neg (by unfold par at kp; intro h; subst h; unfold par at *; omega)]
      have hk := h.1 k k0 kn e
      unfold okAt at hk
      rw [kp] at hk
      exact o.ntr _ _ _ hk hpj

/-- On the way down from i0: all is right but for the one at i (and, as long as nothing moved, for i and its parent). -/
structure DnI (d : α) (lt : α → α → Bool) (n : Nat) (l : List α) (i0 i : Nat) : Prop where
  le : i0 ≤ i
  a : ∀ k, 0 < k → k < n → par k ≠ i → k ≠ i → okAt d lt l k
  b : i0 < i → okAt d lt l i
  c : 0 < i → ∀ k, 0 < k → k < n → par k = i → lt (l.getD k d) (l.getD (par i) d) = false
theorem DnI.step (o : Swo lt) {n : Nat} {l : List α} {i0 i j : Nat} (h : DnI d lt n l i0 i) (hn : n ≤ l.length) (hj : j < n) (hij : par j = i) (h0 : 0 < j) (hl : lt (l.getD j d) (l.getD i d) = true)
    (hs : ∀ k, 0 < k → k < n → par k = i → lt (l.getD k d) (l.getD j d) = false) : DnI d lt n (sw d l i j) i0 j := by
  have hlt : i < j := by unfold par at hij; omega
  have g := sw_get d (l := l) (i := i) (j := j) (by omega) (by omega)
  refine ⟨by have := h.le; omega, fun k k0 kn kp kj => ?_, fun _ => ?_, fun j0 k k0 kn kp => ?_⟩
  · unfold okAt
    rw [g, g, if_neg kj, if_neg kp]
    by_cases e : k = i
    · subst e
      rw [if_pos rfl]
      have : par k ≠ k := by unfold par; omega
      rw [if_neg this]
      exact h.c k0 j h0 hj hij
    · rw [if_neg e]
      by_cases e2 : par k = i
      · rw [if_pos e2]; exact hs k k0 kn e2
      · rw [if_neg e2]; exact h.a k k0 kn e2 e
  · unfold okAt
    rw [g, g, hij, if_pos rfl, if_neg (by omega), if_pos rfl]
    exact o.asy hl
  · have hkj : j < k := by unfold par at kp; omega
    rw [g, g, if_neg (by omega), if_neg (by omega), hij, if_neg (by omega), if_pos rfl]
    have := h.a k k0 kn (by omega) (by omega)
    unfold okAt at this
    rw [kp] at this
    exact this
/-- Nothing more moves: what is left is at most i0 and its parent. -/
theorem DnI.stop {n : Nat} {l : List α} {i0 i : Nat} (h : DnI d lt n l i0 i) (hs : ∀ k, 0 < k → k < n → par k = i → lt (l.getD k d) (l.getD i d) = false) : (i0 < i → Hp d lt n l) ∧ (i = i0 → UpI d lt n l i0) := by
  refine ⟨fun hlt k k0 kn => ?_, fun e => ⟨fun k k0 kn ki => ?_, fun i0' k k0 kn kp => ?_⟩⟩
  · by_cases e : k = i
    · subst e; exact h.b hlt
    · by_cases e2 : par k = i
      · unfold okAt; rw [e2]; exact hs k k0 kn e2
      · exact h.a k k0 kn e2 e
  · subst e
    by_cases e2 : par k = i
    · unfold okAt; rw [e2]; exact hs k k0 kn e2
    · exact h.a k k0 kn e2 ki
  · subst e; exact h.c i0' k k0 kn kp
/-- The first of a heap: nobody is ahead of it. -/
theorem Hp.min (o : Swo lt) {n : Nat} {l : List α} (h : Hp d lt n l) : ∀ k, k < n → lt (l.getD k d) (l.getD 0 d) = false := by
  intro k
  induction k using Nat.strongRecOn with
  | ind k ih =>
    intro hk
    by_cases e : k = 0
    · subst e; exact o.irr _
    · have hp : par k < k := by unfold par; omega
      exact o.ntr _ _ _ (h k (by omega) hk) (ih (par k) hp (by omega))
/-- One put at the end. -/
theorem Hp.push {l : List α} (h : Hp d lt l.length l) (x : α) : UpI d lt (l.length + 1) (l ++ [x]) l.length := by
  have g : ∀ k, k < l.length → (l ++ [x]).getD k d = l.getD k d := fun k hk => by simp [List.getD, List.getElem?_append_left hk]
  refine ⟨fun k k0 kn kj => ?_, fun _ k k0 kn kp => by unfold par at kp; omega⟩
  unfold okAt
  have hp : par k < k := by unfold par; omega
  rw [g k (by omega), g (par k) (by omega)]
  exact h k k0 (by omega)
/-- The one at i changes its place with the last one: on the way down from i. -/
theorem Hp.out (o : Swo lt) {n : Nat} {l : List α} (hl : l.length = n + 1) (h : Hp d lt (n + 1) l) {i : Nat} (hi : i < n) : DnI d lt n (sw d l i n) i i := by
  have g := sw_get d (l := l) (i := i) (j := n) (by omega) (by omega)
  refine ⟨Nat.le_refl _, fun k k0 kn kp ki => ?_, fun h => by omega, fun i0 k k0 kn kp => ?_⟩
  · unfold okAt
    have hp : par k < k := by unfold par; omega
    rw [g, g, if_neg (by omega), if_neg ki, if_neg (by omega), if_neg kp]
    exact h k k0 (by omega)
  · have hp : par i < i := by unfold par; omega
    have hk : i < k := by unfold par at kp; omega
    rw [g, g, if_neg (by omega), if_neg (by omega), if_neg (by omega), if_neg (by omega)]
    have h1 := h k k0 (by omega)
    have h2 := h i i0 (by omega)
    unfold okAt at h1 h2
    rw [kp] at h1
    exact o.ntr _ _ _ h1 h2
/-- A heap's beginning is one. -/
theorem Hp.take {n m : Nat} {l : List α} (h : Hp d lt n l) (hm : m ≤ n) (hn : n ≤ l.length) : Hp d lt m (l.take m) := by
  intro k k0 kn
  have g : ∀ k, k < m → (l.take m).getD k d = l.getD k d := fun k hk => by simp [List.getD, hk]
  have hp : par k < k := by unfold par; omega
  unfold okAt
  rw [g k kn, g (par k) (by omega)]
  exact h k k0 (by omega)
theorem Hp.mono {n m : Nat} {l : List α} (h : Hp d lt n l) (hm : m ≤ n) : Hp d lt m l := fun k k0 kn => h k k0 (by omega)
end
end Go.Proofs.YteabcpmpcbjicaaGreat

namespace Go.Proofs.YteabcpmpcbjicaaGreat
set_option linter.unusedVariables false
open Go Go.Proofs Go.RowKit

/-! Rows of records: their cells, one record behind the other. -/
def flat {α : Type} (c : α → List Value) : List α → List Value
  | [] => []
  | x :: l => c x ++ flat c l
theorem flat_len {α : Type} {c : α → List Value} {n : Nat} (h : ∀ x, (c x).length = n) (l : List α) : (flat c l).length = l.length * n := by
  induction l with
  | nil => simp [flat]
  | cons x l ih => simp only [flat, List.length_append, ih, h, List.length_cons, Nat.add_mul, Nat.one_mul]; omega
theorem flat_append {α : Type} (c : α → List Value) (l m : List α) : flat c (l ++ m) = flat c l ++ flat c m := by
  induction l with
  | nil => rfl
  | cons x l ih => simp [flat, ih]
theorem flat_snoc {α : Type} (c : α → List Value) (l : List α) (x : α) : flat c (l ++ [x]) = flat c l ++ c x := by rw [flat_append]; simp [flat]
theorem flat_get {α : Type} {c : α → List Value} {n : Nat} (h : ∀ x, (c x).length = n) (d : α) (l : List α) (k j : Nat) (hj : j < n) (hk : k < l.length) : (flat c l)[k * n + j]? = (c (l.getD k d))[j]? := by
  induction l generalizing k with
  | nil => simp at hk
  | cons x l ih =>
    cases k with
    | zero =>
      simp only [flat, Nat.zero_mul, Nat.zero_add]
      rw [List.getElem?_append_left (by rw [h]; exact hj)]
      rfl
    | succ k =>
      simp only [flat]
      rw [List.getElem?_append_right (by rw [h, Nat.add_mul]; omega), h, show (k + 1) * n + j - n = k * n + j by rw [Nat.add_mul]; omega, ih k (by simpa using hk)]
      rfl
theorem flat_take {α : Type} {c : α → List Value} {n : Nat} (h : ∀ x, (c x).length = n) (l : List α) (k : Nat) : flat c (l.take k) = (flat c l).take (k * n) := by
  induction l generalizing k with
  | nil => simp [flat]
  | cons x l ih =>
    cases k with
    | zero => simp [flat]
    | succ k =>
      simp only [List.take_succ_cons, flat, ih]
      rw [List.take_append, h, List.take_of_length_le (l := c x) (by rw [h, Nat.add_mul]; omega), show (k + 1) * n - n = k * n by rw [Nat.add_mul]; omega]
/-- The cells of a record at a place of a block. -/
def RAt (w : World) (s i : Nat) (cs : List Value) : Prop := ∀ (j : Nat) v, cs[j]? = some v → w.cell? ⟨s, i + j, none⟩ = some v
theorem RAt.same {w w' : World} {s i : Nat} {cs : List Value} (h : RAt w s i cs) (e : w'.heap[s]? = w.heap[s]?) : RAt w' s i cs := fun j v hv => (World.cell?_of_block (w := w) e).trans (h j v hv)
theorem RAt.chg {w w' : World} {s i : Nat} {cs : List Value} {S : List Nat} (h : RAt w s i cs) (g : Chg S w w') (hn : s ∉ S) : RAt w' s i cs := fun j v hv => g.cell (h j v hv) hn
theorem flat_beg {α : Type} {c : α → List Value} {n : Nat} (h : ∀ x, (c x).length = n) (d : α) {w : World} {b : Nat} {T : TypeId} {l : List α} (hb : Beg w b T (flat c l)) {k : Nat} (hk : k < l.length) : RAt w b (k * n) (c (l.getD k d)) := by
  intro j v hv
  have hj : j < n := by have := (List.getElem?_eq_some_iff.1 hv).1; rw [h] at this; exact this
  exact hb.at (by rw [flat_get h d l k j hj hk]; exact hv)
/-- A row of records in memory: empty, or at the head of a block. -/
def RowF {α : Type} (c : α → List Value) (w : World) (T : TypeId) (a : Option Addr) (l : List α) : Prop := l = [] ∨ ∃ g, a = some ⟨g, 0, none⟩ ∧ Beg w g T (flat c l)
theorem RowF.chg {α : Type} {c : α → List Value} {w w' : World} {T : TypeId} {a : Option Addr} {l : List α} {S : List Nat} (h : RowF c w T a l) (k : Chg S w w') (hs : ∀ g, a = some ⟨g, 0, none⟩ → g ∉ S) : RowF c w' T a l :=
  h.imp id fun ⟨g, h1, h2⟩ => ⟨g, h1, h2.chg k (hs g h1)⟩
theorem RowF.chg0 {α : Type} {c : α → List Value} {w w' : World} {T : TypeId} {a : Option Addr} {l : List α} (h : RowF c w T a l) (k : Chg [] w w') : RowF c w' T a l := h.chg k (by simp)
theorem RowF.at {α : Type} {c : α → List Value} {n : Nat} (hn : ∀ x, (c x).length = n) (d : α) {w : World} {T : TypeId} {a : Option Addr} {l : List α} (h : RowF c w T a l) {k : Nat} (hk : k < l.length) : ∃ g, a = some ⟨g, 0, none⟩ ∧ g < w.heap.size ∧ RAt w g (k * n) (c (l.getD k d)) := by
  rcases h with rfl | ⟨g, h1, h2⟩
  · simp at hk
  · exact ⟨g, h1, h2.lt, flat_beg hn d h2 hk⟩
/-- A row that a call made, from block B on. -/
def NewF {α : Type} (c : α → List Value) (w : World) (B : Nat) (T : TypeId) (a : Option Addr) (l : List α) : Prop := l = [] ∨ ∃ g, a = some ⟨g, 0, none⟩ ∧ B ≤ g ∧ Beg w g T (flat c l)
theorem NewF.row {α : Type} {c : α → List Value} {w : World} {B : Nat} {T : TypeId} {a : Option Addr} {l : List α} (h : NewF c w B T a l) : RowF c w T a l := h.imp id fun ⟨g, h1, _, h2⟩ => ⟨g, h1, h2⟩
theorem NewF.mono {α : Type} {c : α → List Value} {w : World} {B D : Nat} {T : TypeId} {a : Option Addr} {l : List α} (h : NewF c w B T a l) (hd : D ≤ B) : NewF c w D T a l := h.imp id fun ⟨g, h1, h3, h2⟩ => ⟨g, h1, Nat.le_trans hd h3, h2⟩
theorem NewF.chg {α : Type} {c : α → List Value} {w w' : World} {B : Nat} {T : TypeId} {a : Option Addr} {l : List α} {S : List Nat} (h : NewF c w B T a l) (k : Chg S w w') (hs : ∀ x ∈ S, x < B) : NewF c w' B T a l :=
  h.imp id fun ⟨g, h1, h3, h2⟩ => ⟨g, h1, h3, h2.chg k fun hm => by have := hs g hm; omega⟩
theorem NewF.chg0 {α : Type} {c : α → List Value} {w w' : World} {B : Nat} {T : TypeId} {a : Option Addr} {l : List α} (h : NewF c w B T a l) (k : Chg [] w w') : NewF c w' B T a l := h.chg k (by simp)
theorem own_new {α : Type} {c : α → List Value} {w : World} {B n : Nat} {T : TypeId} {v : Value} {l : List α} (h : w.ownsRow B T n v l.length (flat c l)) : ∃ a cap, v = .slice a l.length cap ∧ NewF c w B T a l := by
  by_cases hv : v = .slice none 0 0
  · subst hv
    rcases h.2 with ⟨_, e⟩ | ⟨_, _, _, e, _⟩
    · have hl := List.eq_nil_of_length_eq_zero e
      subst hl
      exact ⟨none, 0, rfl, .inl rfl⟩
    · cases e
  · obtain ⟨g, cap, rfl, h1, _, _, h2, _⟩ := own_beg h hv
    exact ⟨_, cap, rfl, .inr ⟨g, rfl, h1, h2⟩⟩
/-- What a row of the call's own is: nil and empty, or a block from B on. -/
theorem own_slice2 {w : World} {base n : Nat} {T : TypeId} {sz : Nat} {v : Value} {xs : List Value} (h : w.ownsRow base T sz v n xs) : ∃ a c, v = .slice a n c := own_slice h

theorem own_chg {w w' : World} {S : List Nat} {base n : Nat} {T : TypeId} {sz : Nat} {v : Value} {xs : List Value} (h : w.ownsRow base T sz v n xs) (c : Chg S w w') (hS : ∀ x ∈ S, x < base) : w'.ownsRow base T sz v n xs := by
  refine ⟨h.1, ?_⟩
  rcases h.2 with h1 | ⟨g, cap, cur, e1, e2, e3, e4⟩
  · exact .inl h1
  · exact .inr ⟨g, cap, cur, e1, e2, (c.block g (Array.getElem?_eq_some_iff.1 e3).1 fun hm => by have := hS g hm; omega).trans e3, e4⟩

/-! Footprints: the blocks of a thing. -/
def Dis (F G : List Nat) : Prop := ∀ x ∈ F, x ∉ G
theorem Dis.symm {F G : List Nat} (h : Dis F G) : Dis G F := fun x h1 h2 => h x h2 h1
/-- The footprint has grown by new blocks alone. -/
def Grw (n : Nat) (F F' : List Nat) : Prop := ∀ x ∈ F', x ∈ F ∨ n ≤ x
theorem Grw.refl (n : Nat) (F : List Nat) : Grw n F F := fun _ h => .inl h
theorem Grw.trans {n m : Nat} {F F' F'' : List Nat} (h : Grw n F F') (k : Grw m F' F'') (hm : n ≤ m) : Grw n F F'' := fun x hx => by
  rcases k x hx with h1 | h1
  · exact h x h1
  · exact .inr (Nat.le_trans hm h1)
theorem Dis.grw {n : Nat} {F F' G : List Nat} (h : Dis F G) (k : Grw n F F') (hl : ∀ x ∈ G, x < n) : Dis F' G := fun x hx hg => by
  rcases k x hx with h1 | h1
  · exact h x h1 hg
  · have := hl x hg; omega
theorem Chg.fp {F F' : List Nat} {a b c : World} (h : Chg F a b) (k : Chg F' b c) (g : Grw a.heap.size F F') : Chg F a c := h.trans' k g
end Go.Proofs.YteabcpmpcbjicaaGreat

namespace Go.Proofs.YteabcpmpcbjicaaGreat
open Go

/-- A region of a function's code, by its number. -/
def findRegion (n : Nat) : Code → Option Code
  | .region id ops d => if id = n then some (.region id ops d) else none
  | .seq a b => match findRegion n a with
    | some c => some c
    | none => findRegion n b
  | .cond _ a b => match findRegion n a with
    | some c => some c
    | none => findRegion n b
  | .block _ c => findRegion n c
  | .loop c => findRegion n c
  | .scope c => findRegion n c
  | .rangeFunc _ _ a b => match findRegion n a with
    | some c => some c
    | none => findRegion n b
  | _ => none
noncomputable def regionOf (f : Func) (n : Nat) : Code := (f.body.bind (findRegion n)).getD .skip
end Go.Proofs.YteabcpmpcbjicaaGreat

namespace Go.Proofs.YteabcpmpcbjicaaGreat
set_option linter.unusedVariables false
open Go Go.Proofs Go.RowKit Go.Maps

theorem keyInt : Keyed Tryz.prog 3 := int_keyed Tryz.underlying3
theorem zeroU (w : World) : (zeroValue 27).run Tryz.prog w = .ok (.int .u64 0) w := by kernel_rfl

/-- Block b is a map of at most n entries; what it holds of a number: f. -/
def MapU (w : World) (b n : Nat) (f : Int → Int) : Prop :=
  ∃ D : DataW Unit, IsMap D ∧ w.ownsMap Tryz.prog 3 (plainElem Tryz.prog 27) b n D ∧ ∀ x, (Lit.int .i64 x).wf = true → D.atKey (.int .i64 x) (.lit (.int .u64 0)) = .lit (.int .u64 (f x)) ∧ U (f x)

theorem I_lit {x : Int} (h : I x) : (Lit.int .i64 x).wf = true := WalkArith.wf_i64 ⟨h.1, h.2⟩
theorem U_lit {x : Int} (h : U x) : (Lit.int .u64 x).wf = true := by
  refine WalkArith.wf_u64 ?_
  exact ⟨h.1, by have := h.2; omega⟩
theorem MapU.lt {w : World} {b n : Nat} {f : Int → Int} (h : MapU w b n f) : b < w.heap.size := h.elim fun D g => g.2.1.lt
theorem MapU.chg {S : List Nat} {w w' : World} {b n : Nat} {f : Int → Int} (h : MapU w b n f) (g : Chg S w w') (hn : b ∉ S) : MapU w' b n f := by
  obtain ⟨D, h1, ⟨es, cl, h2, h3⟩, h4⟩ := h
  exact ⟨D, h1, ⟨es, cl, (g.block b (Array.getElem?_eq_some_iff.1 h2).1 hn).trans h2, h3⟩, h4⟩
theorem MapU.alloc {w : World} {b n : Nat} {f : Int → Int} (h : MapU w b n f) (o : Obj) : MapU (w.alloc o) b n f := by
  obtain ⟨D, h1, h2, h4⟩ := h
  exact ⟨D, h1, h2.alloc o, h4⟩
theorem MapU.drew {w : World} {b n : Nat} {f : Int → Int} (h : MapU w b n f) : MapU w.drew b n f := h
theorem MapU.drewN {w : World} {b n : Nat} {f : Int → Int} (h : MapU w b n f) (m : Nat) : MapU (w.drewN m) b n f := h
theorem MapU.mono {w : World} {b n m : Nat} {f : Int → Int} (h : MapU w b n f) (hm : n ≤ m) : MapU w b m f := by
  obtain ⟨D, h1, h2, h4⟩ := h
  exact ⟨D, h1, h2.mono hm, h4⟩
theorem MapU.new (w : World) : MapU (w.alloc (.map #[] 0)) w.heap.size 0 (fun _ => 0) :=
  ⟨.map [], isMap_empty, World.ownsMap_made _ _ _ _, fun x _ => ⟨rfl, by simp [U]⟩⟩
theorem MapU.U {w : World} {b n : Nat} {f : Int → Int} (h : MapU w b n f) {x : Int} (hx : I x) : U (f x) := h.elim fun D g => (g.2.2 x (I_lit hx)).2
/-- One place of a map is written. -/
def upd (f : Int → Int) (c v : Int) : Int → Int := fun x => if x = c then v else f x
@[simp] theorem upd_same (f : Int → Int) (c v : Int) : upd f c v c = v := if_pos rfl

/-- m[x], in a walk. -/
theorem wpList_lookU (w : World) {ops : Array Oper} {rest : List Oper} {o : Oper} {a : Act} {Q : Exit → Act → World → Prop}
    (hg : o.guard = none) (m x : Operand) (hop : o.op = Op.lookup 203 m x false) (b n : Nat) (f : Int → Int)
    (hm : a.eval m = .map (some b)) (h : MapU w b n f) (key : Int) (hx : a.eval x = .int .i64 key) (hk : I key)
    (hK : wpList Tryz.prog ops Q rest (a.put o.dst (.int .u64 (f key))) w) : wpList Tryz.prog ops Q (o :: rest) a w := by
  obtain ⟨D, h1, h2, h3⟩ := h
  refine wpList_lookup_own_int w hg m x 203 hop 3 27 .u64 keyInt Tryz.underlying203 Tryz.underlying27 (zeroU w) b n D hm h2 _ _ hx (keyOf_int_mk Tryz.underlying3 (I_lit hk)) ?_
  intro c hc _
  rw [(h3 key (I_lit hk)).1] at hc
  injection hc with hc
  injection hc with _ hc
  rw [← hc]; exact hK

/-- m[x] = v, in a walk. -/
theorem wpList_putU (w : World) {ops : Array Oper} {rest : List Oper} {o : Oper} {a : Act} {Q : Exit → Act → World → Prop}
    (hg : o.guard = none) (m x v : Operand) (hop : o.op = Op.mapUpdate 203 m x v) (b n : Nat) (f : Int → Int)
    (hm : a.eval m = .map (some b)) (h : MapU w b n f) (hn : n < maxLen) (key val : Int) (hx : a.eval x = .int .i64 key) (hv : a.eval v = .int .u64 val) (hk : I key) (hu : U val)
    (hK : ∀ w', MapU w' b (n + 1) (upd f key val) → Chg [b] w w' → wpList Tryz.prog ops Q rest (a.put o.dst undef) w') : wpList Tryz.prog ops Q (o :: rest) a w := by
  obtain ⟨D, h1, h2, h3⟩ := h
  refine wpList_mapUpdate_own w hg m x v 203 hop 3 27 keyInt Tryz.underlying203 _ b n D hm h2 hn _ _ _ hx hv (keyOf_int_mk Tryz.underlying3 (I_lit hk)) (.lit (.int .u64 val)) [] (plainElem_int Tryz.underlying27 (U_lit hu)) ?_
  intro w' g1 g2
  have hkl : WideAt.IsKeyLit (.int .i64 key) := keyInt.key (keyOf_int_mk Tryz.underlying3 (I_lit hk))
  refine hK w' ⟨_, h1.put _ _, g1, fun y hy => ?_⟩ ((Chg.refl _ _).grown g2 (by simp))
  by_cases e : y = key
  · subst e
    rw [atKey_put_same h1 hkl]
    exact ⟨by rw [upd_same], by rw [upd_same]; exact hu⟩
  · rw [atKey_put_other (by intro h; injection h with _ h; exact e h)]
    have : upd f key val y = f y := if_neg e
    rw [this]
    exact h3 y hy
end Go.Proofs.YteabcpmpcbjicaaGreat

namespace Go.Proofs.YteabcpmpcbjicaaGreat
set_option linter.unusedVariables false
open Go Go.Proofs Go.RowKit

/-- An order. -/
structure Ord where
  id : Int
  client : Int
  buy : Bool
  price : Int
  qty : Int
deriving DecidableEq

instance : Inhabited Ord := ⟨⟨0, 0, false, 0, 0⟩⟩
abbrev Ord.zero : Ord := ⟨0, 0, false, 0, 0⟩
/-- Its numbers fit. -/
structure Ord.Ok (o : Ord) : Prop where
  id : I o.id
  client : I o.client
  price : U o.price
  qty : U o.qty
/-- Its cells. -/
def oc (o : Ord) : List Value := [.int .i64 o.id, .int .i64 o.client, .bool o.buy, .int .u64 o.price, .int .u64 o.qty]
def ocs : List Ord → List Value
  | [] => []
  | o :: l => oc o ++ ocs l
theorem oc_len (o : Ord) : (oc o).length = 5 := rfl
theorem ocs_len (l : List Ord) : (ocs l).length = l.length * 5 := by
  induction l with
  | nil => rfl
  | cons o l ih => simp [ocs, oc_len, ih]; omega
theorem ocs_append (l m : List Ord) : ocs (l ++ m) = ocs l ++ ocs m := by
  induction l with
  | nil => rfl
  | cons o l ih => simp [ocs, ih]
theorem ocs_snoc (l : List Ord) (o : Ord) : ocs (l ++ [o]) = ocs l ++ oc o := by rw [ocs_append]; simp [ocs]
theorem ocs_get (l : List Ord) (k j : Nat) (hj : j < 5) (hk : k < l.length) : (ocs l)[k * 5 + j]? = (oc (l.getD k Ord.zero))[j]? := by
  induction l generalizing k with
  | nil => simp at hk
  | cons o l ih =>
    cases k with
    | zero => simp only [ocs, Nat.zero_mul, Nat.zero_add]; rw [List.getElem?_append_left (by rw [oc_len]; exact hj)]; rfl
    | succ k =>
      simp only [ocs]
      rw [List.getElem?_append_right (by rw [oc_len]; omega), oc_len, show (k + 1) * 5 + j - 5 = k * 5 + j by omega, ih k (by simpa using hk)]
      rfl
/-- A stored order: five cells, one behind the other. -/
def set5 (c : List Value) (i : Nat) (o : Ord) : List Value :=
  ((((c.set i (.int .i64 o.id)).set (i + 1) (.int .i64 o.client)).set (i + 2) (.bool o.buy)).set (i + 3) (.int .u64 o.price)).set (i + 4) (.int .u64 o.qty)
theorem ocs_set (l : List Ord) (k : Nat) (o : Ord) (hk : k < l.length) : set5 (ocs l) (k * 5) o = ocs (l.set k o) := by
  induction l generalizing k with
  | nil => simp at hk
  | cons x l ih =>
    cases k with
    | zero => simp [ocs, oc, set5]
    | succ k =>
      have := ih k (by simpa using hk)
      rw [List.set_cons_succ]
      show _ = oc x ++ ocs (l.set k o)
      rw [← this]
      simp only [ocs, set5]
      rw [show (k + 1) * 5 = k * 5 + 5 by omega]
      have g : ∀ (c : List Value) (j : Nat) (v : Value), (oc x ++ c).set (j + 5) v = oc x ++ c.set j v := fun c j v => by
        rw [List.set_append_right _ _ (by rw [oc_len]; omega), oc_len, show j + 5 - 5 = j by omega]
      rw [show k * 5 + 5 + 1 = k * 5 + 1 + 5 by omega, show k * 5 + 5 + 2 = k * 5 + 2 + 5 by omega, show k * 5 + 5 + 3 = k * 5 + 3 + 5 by omega, show k * 5 + 5 + 4 = k * 5 + 4 + 5 by omega, g, g, g, g, g]

/-- Five cells of a block, from a place on. -/
structure Oat (w : World) (s i : Nat) (o : Ord) : Prop where
  c0 : w.cell? ⟨s, i, none⟩ = some (.int .i64 o.id)
  c1 : w.cell? ⟨s, i + 1, none⟩ = some (.int .i64 o.client)
  c2 : w.cell? ⟨s, i + 2, none⟩ = some (.bool o.buy)
  c3 : w.cell? ⟨s, i + 3, none⟩ = some (.int .u64 o.price)
  c4 : w.cell? ⟨s, i + 4, none⟩ = some (.int .u64 o.qty)
theorem Oat.same {w w' : World} {s i : Nat} {o : Ord} (h : Oat w s i o) (e : w'.heap[s]? = w.heap[s]?) : Oat w' s i o := by
  have g : ∀ j, w'.cell? ⟨s, j, none⟩ = w.cell? ⟨s, j, none⟩ := fun j => by simp only [World.cell?, e]
  exact ⟨(g _).trans h.c0, (g _).trans h.c1, (g _).trans h.c2, (g _).trans h.c3, (g _).trans h.c4⟩
theorem Oat.lt {w : World} {s i : Nat} {o : Ord} (h : Oat w s i o) : s < w.heap.size := cell_block h.c0
theorem Oat.chg {S : List Nat} {w w' : World} {s i : Nat} {o : Ord} (h : Oat w s i o) (g : Chg S w w') (hn : s ∉ S) : Oat w' s i o := h.same (g.block s h.lt hn)

/-- A row of orders in a block. -/
abbrev Orow (w : World) (s : Nat) (l : List Ord) : Prop := Beg w s 73 (ocs l)
theorem Orow.at {w : World} {s : Nat} {l : List Ord} (h : Orow w s l) {k : Nat} (hk : k < l.length) : Oat w s (k * 5) (l.getD k Ord.zero) := by
  have g : ∀ (j : Nat) (v : Value), j < 5 → (oc (l.getD k Ord.zero))[j]? = some v → w.cell? ⟨s, k * 5 + j, none⟩ = some v := fun j v hj hv => Beg.at h (by rw [ocs_get l k j hj hk]; exact hv)
  exact ⟨g 0 _ (by omega) rfl, g 1 _ (by omega) rfl, g 2 _ (by omega) rfl, g 3 _ (by omega) rfl, g 4 _ (by omega) rfl⟩
/-- The world behind the store of an order. -/
def sto (w : World) (s i : Nat) (o : Ord) : World :=
  ((((w.setCell ⟨s, i, none⟩ (.int .i64 o.id)).setCell ⟨s, i + 1, none⟩ (.int .i64 o.client)).setCell ⟨s, i + 2, none⟩ (.bool o.buy)).setCell ⟨s, i + 3, none⟩ (.int .u64 o.price)).setCell ⟨s, i + 4, none⟩ (.int .u64 o.qty)
theorem Orow.sto {w : World} {s : Nat} {l : List Ord} (h : Orow w s l) {k : Nat} (hk : k < l.length) (o : Ord) : Orow (sto w s (k * 5) o) s (l.set k o) := by
  have hl := ocs_len l
  have := ((((Beg.set h (k * 5) (.int .i64 o.id) (by omega)).set (k * 5 + 1) (.int .i64 o.client) (by simp; omega)).set (k * 5 + 2) (.bool o.buy) (by simp; omega)).set (k * 5 + 3) (.int .u64 o.price) (by simp; omega)).set (k * 5 + 4) (.int .u64 o.qty) (by simp; omega)
  unfold Orow
  rw [← ocs_set l k o hk]
  exact this
theorem sto_chg {S : List Nat} {a w : World} (h : Chg S a w) (s i : Nat) (o : Ord) (hs : s ∈ S ∨ a.heap.size ≤ s) : Chg S a (sto w s i o) :=
  ((((h.setCell _ _ hs).setCell _ _ hs).setCell _ _ hs).setCell _ _ hs).setCell _ _ hs

/-- Who is first: by price, up or down, then by number. -/
def ahead (up : Bool) (a b : Ord) : Bool := if a.price = b.price then decide (a.id < b.id) else (decide (a.price < b.price) == up)
def cmpI (a b : Int) : Int := if a < b then -1 else if b < a then 1 else 0
def ordN (up : Bool) (a b : Ord) : Int := if cmpI a.price b.price = 0 then cmpI a.id b.id else if up = true then cmpI a.price b.price else -cmpI a.price b.price
theorem ahead_t (a b : Ord) : ahead true a b = decide (a.price < b.price ∨ (a.price = b.price ∧ a.id < b.id)) := by
  unfold ahead; split
  · rename_i h; simp [h]
  · rename_i h; by_cases g : a.price < b.price <;> simp [g, h]
theorem ahead_f (a b : Ord) : ahead false a b = decide (b.price < a.price ∨ (a.price = b.price ∧ a.id < b.id)) := by
  unfold ahead; split
  · rename_i h; simp [h]
  · rename_i h
    by_cases g : a.price < b.price
    · simp [g]; omega
    · simp [g, h]; omega
theorem cmpI_cases (a b : Int) : (a < b ∧ cmpI a b = -1) ∨ (a = b ∧ cmpI a b = 0) ∨ (b < a ∧ cmpI a b = 1) := by
  unfold cmpI
  by_cases h : a < b
  · exact .inl ⟨h, if_pos h⟩
  · by_cases g : b < a
    · exact .inr (.inr ⟨g, by rw [if_neg h, if_pos g]⟩)
    · exact .inr (.inl ⟨by omega, by rw [if_neg h, if_neg g]⟩)
theorem ordN_lt (up : Bool) (a b : Ord) : decide (ordN up a b < 0) = ahead up a b := by
  rcases cmpI_cases a.price b.price with ⟨h, e⟩ | ⟨h, e⟩ | ⟨h, e⟩ <;> rcases cmpI_cases a.id b.id with ⟨g, f⟩ | ⟨g, f⟩ | ⟨g, f⟩ <;> cases up <;>
    simp only [ahead_t, ahead_f, ordN, e, f] <;> simp <;> omega
theorem ahead_swo (up : Bool) : Swo (ahead up) := by
  cases up
  · refine ⟨fun a => ?_, fun a b c => ?_, fun a b c => ?_⟩ <;> simp only [ahead_f, decide_eq_true_eq, decide_eq_false_iff_not] <;> omega
  · refine ⟨fun a => ?_, fun a b c => ?_, fun a b c => ?_⟩ <;> simp only [ahead_t, decide_eq_true_eq, decide_eq_false_iff_not] <;> omega
/-- Two of which neither is ahead have one price and one number. -/
theorem ahead_eq {up : Bool} {a b : Ord} (h : ahead up a b = false) (g : ahead up b a = false) : a.price = b.price ∧ a.id = b.id := by
  cases up <;> simp only [ahead_f, ahead_t, decide_eq_false_iff_not] at h g <;> omega
end Go.Proofs.YteabcpmpcbjicaaGreat

namespace Go.Proofs.YteabcpmpcbjicaaGreat
set_option linter.unusedVariables false
open Go Go.Proofs Go.RowKit

/-! A queue, told as its orders in their order: plain. -/
def Srt (up : Bool) (L : List Ord) : Prop := L.Pairwise fun a b => ahead up a b = true
def Ids (L : List Ord) : Prop := (L.map Ord.id).Nodup
def ins (up : Bool) (o : Ord) : List Ord → List Ord
  | [] => [o]
  | y :: L => if ahead up o y = true then o :: y :: L else y :: ins up o L
def sans (k : Int) (L : List Ord) : List Ord := L.filter fun x => x.id != k
def cutQ (n : Int) : List Ord → List Ord
  | [] => []
  | x :: L => if n ≤ x.qty then { x with qty := x.qty - n } :: L else x :: L

theorem ins_perm (up : Bool) (o : Ord) (L : List Ord) : (ins up o L).Perm (o :: L) := by
  induction L with
  | nil => exact List.Perm.refl _
  | cons y L ih =>
    unfold ins; split
    · exact List.Perm.refl _
    · exact (List.Perm.cons y ih).trans (List.Perm.swap _ _ _)
theorem ahead_tr {up : Bool} {a b c : Ord} (h : ahead up a b = true) (g : ahead up b c = true) : ahead up a c = true := (ahead_swo up).tr _ _ _ h g
theorem ins_srt {up : Bool} {o : Ord} {L : List Ord} (h : Srt up L) (hn : ∀ x ∈ L, x.id ≠ o.id) : Srt up (ins up o L) := by
  induction L with
  | nil => exact List.pairwise_singleton _ _
  | cons y L ih =>
    obtain ⟨h1, h2⟩ := List.pairwise_cons.1 h
    unfold ins; split
    · rename_i g
      exact List.pairwise_cons.2 ⟨fun x hx => by
        rcases List.mem_cons.1 hx with h3 | h3
        · exact h3 ▸ g
        · exact ahead_tr g (h1 x h3), h⟩
    · rename_i g
      refine List.pairwise_cons.2 ⟨fun x hx => ?_, ih h2 (fun x hx => hn x (by simp [hx]))⟩
      rcases List.mem_cons.1 ((ins_perm up o L).mem_iff.1 hx) with h3 | h3
      · subst h3
        cases e : ahead up y x
        · exact absurd (ahead_eq e (by simpa using g)).2 (hn y (by simp))
        · rfl
      · exact h1 x h3
theorem ids_perm {L M : List Ord} (h : L.Perm M) (g : Ids L) : Ids M := (h.map _).nodup_iff.1 g
theorem ins_ids {up : Bool} {o : Ord} {L : List Ord} (h : Ids L) (hn : ∀ x ∈ L, x.id ≠ o.id) : Ids (ins up o L) := by
  refine ids_perm (ins_perm up o L).symm ?_
  unfold Ids
  rw [List.map_cons, List.nodup_cons]
  refine ⟨fun hm => ?_, h⟩
  obtain ⟨x, hx, e⟩ := List.mem_map.1 hm
  exact hn x hx e
theorem sans_sub (k : Int) (L : List Ord) : (sans k L).Sublist L := List.filter_sublist
theorem srt_sub {up : Bool} {L M : List Ord} (h : Srt up L) (s : M.Sublist L) : Srt up M := List.Pairwise.sublist s h
theorem ids_sub {L M : List Ord} (h : Ids L) (s : M.Sublist L) : Ids M := List.Pairwise.sublist (s.map _) h
/-- The one of a number taken away. -/
theorem sans_perm {x : Ord} {l L : List Ord} (h : (x :: l).Perm L) (g : Ids L) : l.Perm (sans x.id L) := by
  have g2 : Ids (x :: l) := ids_perm h.symm g
  unfold Ids at g2
  rw [List.map_cons, List.nodup_cons] at g2
  have h2 := h.filter (fun y => y.id != x.id)
  unfold sans
  refine List.Perm.trans (List.Perm.of_eq ?_) h2
  rw [List.filter_cons, if_neg (by simp)]
  symm
  rw [List.filter_eq_self]
  intro y hy
  simp only [bne_iff_ne]
  intro e
  exact g2.1 (List.mem_map.2 ⟨y, hy, e⟩)
theorem sans_none {k : Int} {L : List Ord} (h : ∀ x ∈ L, x.id ≠ k) : sans k L = L := by
  unfold sans
  rw [List.filter_eq_self]
  intro y hy
  simpa using h y hy
/-- The first of a heap is the first of all. -/
theorem heap_head {up : Bool} {l L : List Ord} {x : Ord} (hH : Hp Ord.zero (ahead up) l.length l) (hp : l.Perm (x :: L)) (hs : Srt up (x :: L)) : l.getD 0 Ord.zero = x := by
  have hl : 0 < l.length := by rw [hp.length_eq]; simp
  have hm : l.getD 0 Ord.zero ∈ x :: L := hp.mem_iff.1 (by simp [List.getD, hl])
  rcases List.mem_cons.1 hm with h | h
  · exact h
  · exfalso
    have h1 := (List.pairwise_cons.1 hs).1 _ h
    have hx : x ∈ l := hp.mem_iff.2 (by simp)
    obtain ⟨k, hk, e⟩ := List.getElem_of_mem hx
    have h2 := hH.min (ahead_swo up) k hk
    have e2 : l.getD k Ord.zero = x := by simp [List.getD, hk, e]
    rw [e2, h1] at h2
    cases h2
theorem ahead_qty (up : Bool) (a b : Ord) (n : Int) : ahead up { a with qty := n } b = ahead up a b := rfl
theorem ahead_qty' (up : Bool) (a b : Ord) (n : Int) : ahead up b { a with qty := n } = ahead up b a := rfl
/-- Another quantity of the first one. -/
theorem cut_srt {up : Bool} {x : Ord} {L : List Ord} (n : Int) (h : Srt up (x :: L)) : Srt up ({ x with qty := n } :: L) := by
  obtain ⟨h1, h2⟩ := List.pairwise_cons.1 h
  exact List.pairwise_cons.2 ⟨fun y hy => h1 y hy, h2⟩
theorem cutQ_cons (n : Int) (x : Ord) (L : List Ord) : cutQ n (x :: L) = if n ≤ x.qty then { x with qty := x.qty - n } :: L else x :: L := rfl
theorem cutQ_srt {up : Bool} {L : List Ord} (n : Int) (h : Srt up L) : Srt up (cutQ n L) := by
  cases L with
  | nil => exact h
  | cons x L => rw [cutQ_cons]; split; exact cut_srt _ h; exact h
theorem cutQ_ids {L : List Ord} (n : Int) (h : Ids L) : Ids (cutQ n L) := by
  cases L with
  | nil => exact h
  | cons x L => rw [cutQ_cons]; split; exact h; exact h
theorem set0_hp {up : Bool} {l : List Ord} (n : Int) (h : Hp Ord.zero (ahead up) l.length l) : Hp Ord.zero (ahead up) (l.set 0 { l.getD 0 Ord.zero with qty := n }).length (l.set 0 { l.getD 0 Ord.zero with qty := n }) := by
  intro k k0 kn
  have kn' : k < l.length := by simpa using kn
  have g : ∀ j, 0 < j → (l.set 0 { l.getD 0 Ord.zero with qty := n }).getD j Ord.zero = l.getD j Ord.zero := fun j hj => by
    simp only [List.getD]; rw [List.getElem?_set_ne (by omega)]
  unfold okAt
  rw [g k k0]
  by_cases e : par k = 0
  · have h1 := h k k0 kn'
    unfold okAt at h1
    rw [e] at h1 ⊢
    have e0 : (l.set 0 { l.getD 0 Ord.zero with qty := n }).getD 0 Ord.zero = { l.getD 0 Ord.zero with qty := n } := by
      simp only [List.getD]; rw [List.getElem?_set_self (by omega)]; rfl
    rw [e0]
    exact h1
  · rw [g (par k) (by omega)]
    exact h k k0 kn'
theorem set0_perm {l L : List Ord} {x : Ord} (y : Ord) (hp : l.Perm (x :: L)) (hx : l.getD 0 Ord.zero = x) : (l.set 0 y).Perm (y :: L) := by
  cases l with
  | nil => have := hp.length_eq; simp at this
  | cons a l =>
    have : a = x := hx
    subst this
    rw [List.set_cons_zero]
    exact List.Perm.cons _ ((List.perm_cons a).1 hp)
end Go.Proofs.YteabcpmpcbjicaaGreat
