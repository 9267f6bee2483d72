import Derived.Test.YtofcphfgpnobnaaBase
namespace Go.Proofs.Ytofcphfgpnobnaa
set_option linter.unusedVariables false
open Go Go.Proofs Go.RowKit

theorem heap_new (w : World) (o : Obj) : (w.alloc o).heap[w.heap.size]? = some o := (Go.MapKept.heap_alloc w o).1
theorem add_none (b off k : Nat) : (Addr.mk b off none).add k = ⟨b, off + k, none⟩ := by
  unfold Addr.add; split
  · subst_vars; rfl
  · rfl
theorem cell_block {w : World} {a : Addr} {v : Value} (h : w.cell? a = some v) : a.block < w.heap.size := by
  unfold World.cell? at h
  split at h
  · rename_i h2; exact (Array.getElem?_eq_some_iff.1 h2).1
  · simp at h
theorem ret_bool {a b : Bool} (h : a = b) : Ending.returned (.bool a) = .returned (.bool b) := by rw [h]
theorem vint {k : IntKind} {a b : Int} (h : a = b) : Value.int k a = .int k b := by rw [h]

/-- Block b holds just these cells, of type T; it may be written. -/
def Blk (w : World) (b : Nat) (T : TypeId) (c : List Value) : Prop := w.heap[b]? = some (.cells c.toArray T (0, 0))

theorem Blk.lt {w : World} {b : Nat} {T : TypeId} {c : List Value} (h : Blk w b T c) : b < w.heap.size := (Array.getElem?_eq_some_iff.1 h).1
theorem Blk.cell {w : World} {b : Nat} {T : TypeId} {c : List Value} (h : Blk w b T c) (i : Nat) : w.cell? ⟨b, i, none⟩ = c[i]? := by
  unfold Blk at h; simp [World.cell?, h]
theorem Blk.at {w : World} {b : Nat} {T : TypeId} {c : List Value} (h : Blk w b T c) {i : Nat} {v : Value} (hv : c[i]? = some v) : w.cell? ⟨b, i, none⟩ = some v := (h.cell i).trans hv
theorem Blk.free {w : World} {b : Nat} {T : TypeId} {c : List Value} (h : Blk w b T c) (i : Nat) : w.frozen? ⟨b, i, none⟩ = false := by
  unfold Blk at h; simp [World.frozen?, h]
theorem Blk.same {w w' : World} {b : Nat} {T : TypeId} {c : List Value} (h : Blk w b T c) (e : w'.heap[b]? = w.heap[b]?) : Blk w' b T c := e.trans h
theorem Blk.new (w : World) (c : List Value) (T : TypeId) : Blk (w.alloc (.cells c.toArray T)) w.heap.size T c := heap_new _ _
theorem Blk.set {w : World} {b : Nat} {T : TypeId} {c : List Value} (h : Blk w b T c) (i : Nat) (v : Value) : Blk (w.setCell ⟨b, i, none⟩ v) b T (c.set i v) := by
  unfold Blk at h ⊢
  simp only [World.setCell, Array.getElem?_modify, h]
  simp

/-- Nothing of what was there has turned, but for blocks of S. -/
structure Chg (S : List Nat) (w w' : World) : Prop where
  os : w'.os = w.os
  tape : w'.tape = w.tape
  output : w'.output = w.output
  size : w.heap.size ≤ w'.heap.size
  block : ∀ k, k < w.heap.size → k ∉ S → w'.heap[k]? = w.heap[k]?

theorem Chg.refl (S : List Nat) (w : World) : Chg S w w := ⟨rfl, rfl, rfl, Nat.le_refl _, fun _ _ _ => rfl⟩
theorem Chg.trans {S : List Nat} {a b c : World} (h : Chg S a b) (k : Chg S b c) : Chg S a c :=
  ⟨k.os.trans h.os, k.tape.trans h.tape, k.output.trans h.output, Nat.le_trans h.size k.size, fun i hi hn => (k.block i (Nat.lt_of_lt_of_le hi h.size) hn).trans (h.block i hi hn)⟩
/-- What turns later may be old blocks of S, or blocks that are new. -/
theorem Chg.trans' {S R : List Nat} {a b c : World} (h : Chg S a b) (k : Chg R b c) (hR : ∀ x ∈ R, x ∈ S ∨ a.heap.size ≤ x) : Chg S a c :=
  ⟨k.os.trans h.os, k.tape.trans h.tape, k.output.trans h.output, Nat.le_trans h.size k.size, fun i hi hn => (k.block i (Nat.lt_of_lt_of_le hi h.size) (fun hm => by rcases hR i hm with h1 | h1; exact hn h1; omega)).trans (h.block i hi hn)⟩
theorem Chg.mono {S R : List Nat} {a b : World} (h : Chg S a b) (hs : ∀ x ∈ S, x ∈ R) : Chg R a b := ⟨h.os, h.tape, h.output, h.size, fun k hk hn => h.block k hk fun hm => hn (hs k hm)⟩
theorem Chg.drew {S : List Nat} {a w : World} (h : Chg S a w) : Chg S a w.drew := ⟨h.os, h.tape, h.output, h.size, h.block⟩
theorem Chg.drewN {S : List Nat} {a w : World} (h : Chg S a w) (n : Nat) : Chg S a (w.drewN n) := ⟨h.os, h.tape, h.output, h.size, h.block⟩
theorem Chg.alloc {S : List Nat} {a w : World} (h : Chg S a w) (o : Obj) : Chg S a (w.alloc o) :=
  ⟨h.os, h.tape, h.output, Nat.le_trans h.size (by simp), fun k hk hn => (Below.heap_alloc _ _ _ (Nat.lt_of_lt_of_le hk h.size)).trans (h.block k hk hn)⟩
theorem Chg.setCell {S : List Nat} {a w : World} (h : Chg S a w) (p : Addr) (u : Value) (hp : p.block ∈ S ∨ a.heap.size ≤ p.block) : Chg S a (w.setCell p u) :=
  ⟨h.os, h.tape, h.output, by simpa [World.setCell] using h.size, fun k hk hn => (Below.heap_setCell _ _ _ _ (fun e => by subst e; rcases hp with h1 | h1; exact hn h1; omega)).trans (h.block k hk hn)⟩
theorem Chg.grown {S : List Nat} {a w w' : World} {row : Option Nat} (h : Chg S a w) (hg : w.grownBy w' row) (hr : ∀ k, row = some k → k ∈ S ∨ a.heap.size ≤ k) : Chg S a w' :=
  ⟨hg.os.trans h.os, hg.tape.trans h.tape, hg.output.trans h.output, Nat.le_trans h.size hg.size, fun k hk hn => (hg.block k (Nat.lt_of_lt_of_le hk h.size) (fun e => by rcases hr k e.symm with h1 | h1; exact hn h1; omega)).trans (h.block k hk hn)⟩
theorem Chg.below {w w' : World} (h : Chg [] w w') : Below w.heap.size w w' := ⟨h.os, h.tape, h.output, h.size, fun k hk => h.block k hk (by simp)⟩
theorem Chg.of_below {w w' : World} (h : Below w.heap.size w w') : Chg [] w w' := ⟨h.os, h.tape, h.output, h.size, fun k hk _ => h.block k hk⟩
theorem Chg.cell {S : List Nat} {w w' : World} (h : Chg S w w') {p : Addr} {v : Value} (hp : w.cell? p = some v) (hn : p.block ∉ S) : w'.cell? p = some v :=
  (World.cell?_of_block (w := w) (h.block p.block (cell_block hp) hn)).trans hp
theorem Blk.chg {S : List Nat} {w w' : World} {b : Nat} {T : TypeId} {c : List Value} (h : Blk w b T c) (g : Chg S w w') (hn : b ∉ S) : Blk w' b T c := h.same (g.block b h.lt hn)
theorem Blk.alloc {w : World} {b : Nat} {T : TypeId} {c : List Value} (h : Blk w b T c) (o : Obj) : Blk (w.alloc o) b T c := h.same (Below.heap_alloc _ _ _ h.lt)
theorem Blk.put {w : World} {b : Nat} {T : TypeId} {c : List Value} (h : Blk w b T c) (p : Addr) (u : Value) (hn : b ≠ p.block) : Blk (w.setCell p u) b T c := h.same (Below.heap_setCell _ _ _ _ hn)
theorem Blk.drew {w : World} {b : Nat} {T : TypeId} {c : List Value} (h : Blk w b T c) : Blk w.drew b T c := h

/-- Block b begins with these cells. -/
def Beg (w : World) (b : Nat) (T : TypeId) (c : List Value) : Prop := ∃ sp, Blk w b T (c ++ sp)
theorem Beg.lt {w : World} {b : Nat} {T : TypeId} {c : List Value} (h : Beg w b T c) : b < w.heap.size := h.elim fun _ g => g.lt
theorem Beg.at {w : World} {b : Nat} {T : TypeId} {c : List Value} (h : Beg w b T c) {i : Nat} {v : Value} (hv : c[i]? = some v) : w.cell? ⟨b, i, none⟩ = some v := by
  obtain ⟨sp, g⟩ := h
  exact g.at (by rw [List.getElem?_append_left (List.getElem?_eq_some_iff.1 hv).1]; exact hv)
theorem Beg.free {w : World} {b : Nat} {T : TypeId} {c : List Value} (h : Beg w b T c) (i : Nat) : w.frozen? ⟨b, i, none⟩ = false := h.elim fun _ g => g.free i
theorem Beg.same {w w' : World} {b : Nat} {T : TypeId} {c : List Value} (h : Beg w b T c) (e : w'.heap[b]? = w.heap[b]?) : Beg w' b T c := h.elim fun sp g => ⟨sp, g.same e⟩
theorem Beg.set {w : World} {b : Nat} {T : TypeId} {c : List Value} (h : Beg w b T c) (i : Nat) (v : Value) (hi : i < c.length) : Beg (w.setCell ⟨b, i, none⟩ v) b T (c.set i v) := by
  obtain ⟨sp, g⟩ := h
  exact ⟨sp, by have := g.set i v; rwa [List.set_append_left _ _ hi] at this⟩
theorem Beg.chg {S : List Nat} {w w' : World} {b : Nat} {T : TypeId} {c : List Value} (h : Beg w b T c) (g : Chg S w w') (hn : b ∉ S) : Beg w' b T c := h.same (g.block b h.lt hn)
theorem Beg.alloc {w : World} {b : Nat} {T : TypeId} {c : List Value} (h : Beg w b T c) (o : Obj) : Beg (w.alloc o) b T c := h.same (Below.heap_alloc _ _ _ h.lt)
theorem Beg.put {w : World} {b : Nat} {T : TypeId} {c : List Value} (h : Beg w b T c) (p : Addr) (u : Value) (hn : b ≠ p.block) : Beg (w.setCell p u) b T c := h.same (Below.heap_setCell _ _ _ _ hn)
theorem Blk.beg {w : World} {b : Nat} {T : TypeId} {c : List Value} (h : Blk w b T c) : Beg w b T c := ⟨[], by rw [List.append_nil]; exact h⟩
/-- A row that is owned: its block, its capacity. -/
theorem own_beg {w : World} {base : Nat} {T : TypeId} {size n : Nat} {v : Value} {xs : List Value} (h : w.ownsRow base T size v n xs) (hv : v ≠ .slice none 0 0) : ∃ g cap, v = .slice (some ⟨g, 0, none⟩) n cap ∧ base ≤ g ∧ n ≤ cap ∧ cap ≤ maxLen ∧ Beg w g T xs ∧ xs.length = n * size := by
  rcases h.2 with ⟨h1, _⟩ | ⟨g, cap, cur, hv, hg, hh, hn, hc, hs, ht⟩
  · exact absurd h1 hv
  · refine ⟨g, cap, hv, hg, hn, hc, ⟨cur.toList.drop (n * size), ?_⟩, h.1⟩
    unfold Blk
    rw [hh, ← ht, List.take_append_drop]

/-- A row that is owned, all of it in use: its block. -/
theorem own_blk {w : World} {base : Nat} {T : TypeId} {size g n : Nat} {xs : List Value} (h : w.ownsRow base T size (.slice (some ⟨g, 0, none⟩) n n) n xs) : Blk w g T xs ∧ base ≤ g := by
  rcases h.2 with ⟨h1, _⟩ | ⟨g', cap, cur, hv, hg, hh, hn, hc, hs, ht⟩
  · cases h1
  · injection hv with e1 e2 e3
    injection e1 with e1
    injection e1 with e1
    subst e1; subst e3
    refine ⟨?_, hg⟩
    unfold Blk
    rw [hh, ← ht, List.take_of_length_le (by simp [hs])]

theorem one_new (w : World) (v : Value) (T : TypeId) (j : Nat) (u : Value) (h : [v][j]? = some u) : (w.alloc (.cells #[v] T)).cell? ((Addr.mk w.heap.size 0 none).add j) = some u := by
  have hj : j = 0 := by
    rcases Nat.lt_or_ge j 1 with h1 | h1
    · omega
    · rw [List.getElem?_eq_none (by simpa using h1)] at h; simp at h
  subst hj
  simp at h
  subst h
  simp only [add_none, World.cell?, heap_new]
  simp
theorem last_cell (w : World) (c : Array Value) (T : TypeId) {n j : Nat} {v : Value} (hn : n = w.heap.size) (h : c[j]? = some v) : (w.alloc (.cells c T)).cell? ⟨n, j, none⟩ = some v := by
  subst hn
  simp only [World.cell?, heap_new]
  simpa using h
theorem one_at (w : World) (v : Value) (T : TypeId) {n : Nat} (hn : n = w.heap.size) (j : Nat) (u : Value) (h : [v][j]? = some u) : (w.alloc (.cells #[v] T)).cell? ((Addr.mk n 0 none).add j) = some u := by
  subst hn; exact one_new w v T j u h
theorem own_base {w : World} {base n : Nat} {T : TypeId} {sz : Nat} {v : Value} {xs : List Value} (h : w.ownsRow base T sz v n xs) : ∀ k, v.ownBlock = some k → base ≤ k := by
  intro k hk
  rcases h.2 with ⟨rfl, _⟩ | ⟨g, c, cur, rfl, hg, _⟩
  · simp [Value.ownBlock] at hk
  · simp [Value.ownBlock] at hk; omega
theorem own_slice {w : World} {base n : Nat} {T : TypeId} {sz : Nat} {v : Value} {xs : List Value} (h : w.ownsRow base T sz v n xs) : ∃ a c, v = .slice a n c := by
  rcases h.2 with ⟨rfl, h0⟩ | ⟨g, c, cur, rfl, _⟩
  · exact ⟨none, 0, by rw [h0]⟩
  · exact ⟨_, _, rfl⟩
/-- A row of numbers that is owned, as a row. -/
theorem row64_owned {w : World} {base n : Nat} {T : TypeId} {a : Option Addr} {cap : Nat} {l : List Int} (h : w.ownsRow base T 1 (.slice a n cap) n (l.map (Value.int .u64))) : Row64 w a l := by
  obtain ⟨h1, h2⟩ := h
  rcases h2 with ⟨h2, h3⟩ | ⟨g, c, cur, hv, hg, hh, hn, hc, hs, ht⟩
  · subst h3; left; simpa using h1
  · right
    injection hv with e1 e2 e3
    refine ⟨g, 0, e1, fun j hj => ?_⟩
    simp only [World.cell?, hh, Nat.zero_add]
    have hjn : j < n * 1 := by simp at h1; omega
    have e : (cur.toList.take (n * 1))[j]? = (l.map (Value.int .u64))[j]? := by rw [ht]
    rw [List.getElem?_take, if_pos hjn] at e
    simp [hj] at e
    simp [hj, List.getD, e]
theorem row64_below {w w' : World} {s : Option Addr} {l : List Int} (h : Row64 w s l) (hb : Below w.heap.size w w') : Row64 w' s l := by
  rcases h with rfl | ⟨b, off, rfl, hc⟩
  · exact .inl rfl
  · refine .inr ⟨b, off, rfl, fun j hj => ?_⟩
    have h0 := hc j hj
    rw [← h0]
    exact hb.cell (p := ⟨b, off + j, none⟩) (cell_block h0)
theorem row64_cell {w : World} {s : Option Addr} {l : List Int} (h : Row64 w s l) {j : Nat} (hj : j < l.length) : ∃ b off, s = some ⟨b, off, none⟩ ∧ w.cell? ⟨b, off + j, none⟩ = some (.int .u64 (l.getD j 0)) := by
  rcases h with rfl | ⟨b, off, rfl, hc⟩
  · simp at hj
  · exact ⟨b, off, rfl, hc j hj⟩
theorem shr_U {a : Int} (h : U a) (n : Int) (hn : 1 ≤ n) : U (a / n) := by
  have := Int.ediv_le_self n h.1
  have := h.2
  exact ⟨Int.ediv_nonneg h.1 (by omega), by omega⟩
/-- The lower places of a number. -/
theorem low_i64 (x : Int) (k : Nat) (hk : k ≤ 62) : ∃ f : Nat, bits BinOp.and .i64 x ((2 ^ k - 1 : Nat) : Int) = f ∧ f < 2 ^ k := by
  have h := and_mask_i64 x k hk
  have hpos : 0 < (2 ^ k : Nat) := Nat.pow_pos (by omega)
  have h1 := Int.emod_nonneg x (b := ((2 ^ k : Nat) : Int)) (by omega)
  have h2 := Int.emod_lt_of_pos x (b := ((2 ^ k : Nat) : Int)) (by omega)
  exact ⟨(x % ((2 ^ k : Nat) : Int)).toNat, by omega, by omega⟩
theorem low_u64 (x : Int) (k : Nat) (hk : k ≤ 62) : ∃ f : Nat, bits BinOp.and .u64 x ((2 ^ k - 1 : Nat) : Int) = f ∧ f < 2 ^ k := by
  have h := and_mask_u64 x k hk
  have hpos : 0 < (2 ^ k : Nat) := Nat.pow_pos (by omega)
  have h1 := Int.emod_nonneg x (b := ((2 ^ k : Nat) : Int)) (by omega)
  have h2 := Int.emod_lt_of_pos x (b := ((2 ^ k : Nat) : Int)) (by omega)
  exact ⟨(x % ((2 ^ k : Nat) : Int)).toNat, by omega, by omega⟩
theorem and1_i64 (x : Int) : ∃ f : Nat, bits BinOp.and .i64 x 1 = f ∧ f < 2 := low_i64 x 1 (by omega)
theorem and1_u64 (x : Int) : ∃ f : Nat, bits BinOp.and .u64 x 1 = f ∧ f < 2 := low_u64 x 1 (by omega)
theorem and3_i64 (x : Int) : ∃ f : Nat, bits BinOp.and .i64 x 3 = f ∧ f < 4 := low_i64 x 2 (by omega)
theorem and3_u64 (x : Int) : ∃ f : Nat, bits BinOp.and .u64 x 3 = f ∧ f < 4 := low_u64 x 2 (by omega)
theorem and7_i64 (x : Int) : ∃ f : Nat, bits BinOp.and .i64 x 7 = f ∧ f < 8 := low_i64 x 3 (by omega)
theorem and7_u64 (x : Int) : ∃ f : Nat, bits BinOp.and .u64 x 7 = f ∧ f < 8 := low_u64 x 3 (by omega)
theorem and15_i64 (x : Int) : ∃ f : Nat, bits BinOp.and .i64 x 15 = f ∧ f < 16 := low_i64 x 4 (by omega)
theorem and15_u64 (x : Int) : ∃ f : Nat, bits BinOp.and .u64 x 15 = f ∧ f < 16 := low_u64 x 4 (by omega)
theorem and31_i64 (x : Int) : ∃ f : Nat, bits BinOp.and .i64 x 31 = f ∧ f < 32 := low_i64 x 5 (by omega)
theorem and31_u64 (x : Int) : ∃ f : Nat, bits BinOp.and .u64 x 31 = f ∧ f < 32 := low_u64 x 5 (by omega)
theorem and63_i64 (x : Int) : ∃ f : Nat, bits BinOp.and .i64 x 63 = f ∧ f < 64 := low_i64 x 6 (by omega)
theorem and63_u64 (x : Int) : ∃ f : Nat, bits BinOp.and .u64 x 63 = f ∧ f < 64 := low_u64 x 6 (by omega)
theorem and255_i64 (x : Int) : ∃ f : Nat, bits BinOp.and .i64 x 255 = f ∧ f < 256 := low_i64 x 8 (by omega)
theorem and255_u64 (x : Int) : ∃ f : Nat, bits BinOp.and .u64 x 255 = f ∧ f < 256 := low_u64 x 8 (by omega)
def isum : List Int → Int
  | [] => 0
  | x :: l => x + isum l
theorem isum_append (l m : List Int) : isum (l ++ m) = isum l + isum m := by
  induction l with
  | nil => simp [isum]
  | cons x l ih => simp [isum, ih, Int.add_assoc]
theorem isum_reverse (l : List Int) : isum l.reverse = isum l := by
  induction l with
  | nil => rfl
  | cons x l ih => simp [isum, isum_append, ih, Int.add_comm]
theorem isum_nonneg (l : List Int) (h : ∀ x ∈ l, 0 ≤ x) : 0 ≤ isum l := by
  induction l with
  | nil => simp [isum]
  | cons x l ih => have := h x (by simp); have := ih fun y hy => h y (by simp [hy]); simp [isum]; omega
/-- A sum is the plain sum, where no part of it is too much. -/
theorem sumFrom_eq (l : List Int) : ∀ s, s < 18446744073709551616 → (∀ x ∈ l, 0 ≤ x) → sumFrom s l = if s + isum l < 18446744073709551616 then some (s + isum l) else none := by
  induction l with
  | nil => intro s hs _; simp [sumFrom, isum, hs]
  | cons x l ih =>
    intro s hs h
    have hx := h x (by simp)
    have hl : 0 ≤ isum l := isum_nonneg _ fun y hy => h y (by simp [hy])
    have e : isum (x :: l) = x + isum l := rfl
    have e2 : s + x + isum l = s + isum (x :: l) := by omega
    by_cases g : s + x < 18446744073709551616
    · have e1 : sumFrom s (x :: l) = sumFrom (s + x) l := if_pos g
      rw [e1, ih _ g fun y hy => h y (by simp [hy]), e2]
    · have e1 : sumFrom s (x :: l) = none := if_neg g
      rw [if_neg (by omega), e1]
theorem sum_facts (l : List Int) (h : ∀ x ∈ l, U x) : cSumN l = (if isum l < 18446744073709551616 then isum l else 0) ∧ cSumB l = decide (isum l < 18446744073709551616) := by
  have e := sumFrom_eq l 0 (by omega) fun x hx => (h x hx).1
  rw [Int.zero_add] at e
  unfold cSumN cSumB
  rw [e]
  by_cases g : isum l < 18446744073709551616 <;> simp [g]
end Go.Proofs.Ytofcphfgpnobnaa
