
import Derived.Test.YteabcpmpcbjicaaGreatChk
import Derived.Test.YteabcpmpcbjicaaGreatMemA
import Derived.WalkSpells
namespace Go.Proofs.YteabcpmpcbjicaaGreat
set_option linter.unusedVariables false
open Go Go.Proofs Go.RowKit

/-! What the accounts come to: n clients, two numbers each, in one row. -/
def aHas (n : Nat) (c : Int) : Bool := decide (0 ≤ c ∧ c < n)
def aAsset (a : Int) : Bool := decide (0 ≤ a ∧ a < 2)
def aAt (c a : Int) : Nat := c.toNat * 2 + a.toNat
def aGet (xs : List Int) (c a : Int) : Int := xs.getD (aAt c a) 0
def aErr (n : Nat) (c a : Int) : Int := if aHas n c = true then (if aAsset a = true then 0 else 3) else 2
def aFree (n : Nat) (xs : List Int) (c a : Int) : Int := if aErr n c a = 0 then aGet xs c a else 0
def aPutE (n : Nat) (xs : List Int) (c a v : Int) : Int := if aErr n c a = 0 then (if cAddB (aGet xs c a) v = true then 0 else 5) else aErr n c a
def aPut (n : Nat) (xs : List Int) (c a v : Int) : List Int := if aPutE n xs c a v = 0 then xs.set (aAt c a) (cAddN (aGet xs c a) v) else xs
def aTakeE (n : Nat) (xs : List Int) (c a v : Int) : Int := if aErr n c a = 0 then (if cSubB (aGet xs c a) v = true then 0 else 4) else aErr n c a
def aTake (n : Nat) (xs : List Int) (c a v : Int) : List Int := if aTakeE n xs c a v = 0 then xs.set (aAt c a) (cSubN (aGet xs c a) v) else xs

/-- A row of numbers of 64 bits, two for each of n clients. -/
structure AOk (n : Nat) (xs : List Int) : Prop where
  len : xs.length = n * 2
  most : n ≤ 1000
  all : ∀ x ∈ xs, U x

/-- Accounts in memory: the struct's block b, the row's block s. -/
structure Acc (w : World) (b s n : Nat) (xs : List Int) : Prop where
  ok : AOk n xs
  ne : b ≠ s
  head : ∃ cap, n ≤ cap ∧ cap ≤ maxLen ∧ Blk w b 202 [.slice (some ⟨s, 0, none⟩) n cap]
  row : Beg w s 139 (xs.map (Value.int .u64))

theorem AOk.get {n : Nat} {xs : List Int} (h : AOk n xs) (c a : Int) : U (aGet xs c a) := by
  unfold aGet
  rw [List.getD]
  cases e : xs[aAt c a]? with
  | none => exact ⟨by simp, by simp⟩
  | some v => exact h.all _ (List.mem_of_getElem? e)
theorem AOk.set {n : Nat} {xs : List Int} (h : AOk n xs) (i : Nat) {v : Int} (hv : U v) : AOk n (xs.set i v) :=
  ⟨by simp [h.len], h.most, fun x hx => by rcases List.mem_or_eq_of_mem_set hx with h1 | h1; exact h.all _ h1; exact h1 ▸ hv⟩
theorem AOk.put {n : Nat} {xs : List Int} (h : AOk n xs) (c a : Int) {v : Int} (hv : U v) : AOk n (aPut n xs c a v) := by
  unfold aPut; split
  · exact h.set _ (cAdd_U (h.get c a) hv)
  · exact h
theorem AOk.take {n : Nat} {xs : List Int} (h : AOk n xs) (c a : Int) {v : Int} (hv : U v) : AOk n (aTake n xs c a v) := by
  unfold aTake; split
  · exact h.set _ (cSub_U (h.get c a) hv)
  · exact h
theorem aErr_zero {n : Nat} {c a : Int} (h : aErr n c a = 0) : aHas n c = true ∧ aAsset a = true := by
  unfold aErr at h; split at h
  · split at h
    · exact ⟨by assumption, by assumption⟩
    · simp at h
  · simp at h
theorem aHas_nat {n : Nat} {c : Int} (h : aHas n c = true) : ∃ k : Nat, c = k ∧ k < n := by
  unfold aHas at h; simp at h; exact ⟨c.toNat, by omega, by omega⟩
theorem aAsset_nat {a : Int} (h : aAsset a = true) : ∃ k : Nat, a = k ∧ k < 2 := by
  unfold aAsset at h; simp at h; exact ⟨a.toNat, by omega, by omega⟩
theorem Acc.chg {w w' : World} {b s n : Nat} {xs : List Int} {S : List Nat} (h : Acc w b s n xs) (g : Chg S w w') (hb : b ∉ S) (hs : s ∉ S) : Acc w' b s n xs := ⟨h.ok, h.ne, h.head.elim fun cap h1 => ⟨cap, h1.1, h1.2.1, h1.2.2.chg g hb⟩, h.row.chg g hs⟩
theorem Acc.alloc {w : World} {b s n : Nat} {xs : List Int} (h : Acc w b s n xs) (o : Obj) : Acc (w.alloc o) b s n xs := ⟨h.ok, h.ne, h.head.elim fun cap h1 => ⟨cap, h1.1, h1.2.1, h1.2.2.alloc o⟩, h.row.alloc o⟩
theorem Acc.drew {w : World} {b s n : Nat} {xs : List Int} (h : Acc w b s n xs) : Acc w.drew b s n xs := ⟨h.ok, h.ne, h.head, h.row⟩
theorem Acc.drewN {w : World} {b s n : Nat} {xs : List Int} (h : Acc w b s n xs) (m : Nat) : Acc (w.drewN m) b s n xs := ⟨h.ok, h.ne, h.head, h.row⟩
/-- The cell of a client's asset. -/
theorem Acc.cell {w : World} {b s n : Nat} {xs : List Int} (h : Acc w b s n xs) {k j : Nat} (hk : k < n) (hj : j < 2) : w.cell? ⟨s, k * 2 + j, none⟩ = some (.int .u64 (aGet xs k j)) := by
  refine h.row.at ?_
  have := h.ok.len
  have hl : k * 2 + j < xs.length := by omega
  unfold aGet aAt
  simp [hl, List.getD]
theorem Acc.stored {w : World} {b s n : Nat} {xs : List Int} (h : Acc w b s n xs) {k j : Nat} (hk : k < n) (hj : j < 2) {v : Int} (hv : U v) : Acc (w.setCell ⟨s, k * 2 + j, none⟩ (.int .u64 v)) b s n (xs.set (aAt k j) v) :=
  ⟨h.ok.set _ hv, h.ne, h.head.elim fun cap h1 => ⟨cap, h1.1, h1.2.1, h1.2.2.put _ _ h.ne⟩, by have := h.row.set (k * 2 + j) (.int .u64 v) (by have := h.ok.len; simp; omega); unfold aAt; rw [List.map_set]; exact this⟩

/-- (*Accounts).Has. -/
theorem has_any {w : World} {b s n : Nat} {xs : List Int} (h : Acc w b s n xs) (c : Int) :
    Calls Tryz.prog 85 #[.pointer (some ⟨b, 0, none⟩), .int .i64 c] w fun e w' => e = .returned (.bool (aHas n c)) ∧ w = w' := by
  obtain ⟨cap, _, _, hb0⟩ := h.head
  have h0 := hb0.at (i := 0) rfl
  clear hb0
  by_cases h1 : 0 ≤ c
  · by_cases h2 : c < n
    · have E : Hid (aHas n c = true) := by show _ = _; unfold aHas; simp; omega
      go_enter Tryz.func85, Tryz.ntmps85
      go_wp2
      go_ret
      exact ⟨ret_bool (by rw [E.out]), rfl⟩
    · have E : Hid (aHas n c = false) := by show _ = _; unfold aHas; simp; omega
      go_enter Tryz.func85, Tryz.ntmps85
      go_wp2
      go_ret
      exact ⟨ret_bool (by rw [E.out]), rfl⟩
  · have E : Hid (aHas n c = false) := by show _ = _; unfold aHas; simp; omega
    go_enter Tryz.func85, Tryz.ntmps85
    go_wp2
    go_ret
    exact ⟨ret_bool (by rw [E.out]), rfl⟩

/-- Asset. -/
theorem asset_any (a : Int) (w : World) :
    Calls Tryz.prog 99 #[.int .i64 a] w fun e w' => e = .returned (.bool (aAsset a)) ∧ w = w' := by
  by_cases h1 : 0 ≤ a
  · by_cases h2 : a < 2
    · have E : Hid (aAsset a = true) := by show _ = _; unfold aAsset; simp; omega
      go_enter Tryz.func99, Tryz.ntmps99
      go_wp2
      go_ret
      exact ⟨ret_bool (by rw [E.out]), rfl⟩
    · have E : Hid (aAsset a = false) := by show _ = _; unfold aAsset; simp; omega
      go_enter Tryz.func99, Tryz.ntmps99
      go_wp2
      go_ret
      exact ⟨ret_bool (by rw [E.out]), rfl⟩
  · have E : Hid (aAsset a = false) := by show _ = _; unfold aAsset; simp; omega
    go_enter Tryz.func99, Tryz.ntmps99
    go_wp2
    go_ret
    exact ⟨ret_bool (by rw [E.out]), rfl⟩

/-- (*Accounts).wrong. -/
theorem wrong_any {w : World} {b s n : Nat} {xs : List Int} (h : Acc w b s n xs) (c a : Int) :
    Calls Tryz.prog 124 #[.pointer (some ⟨b, 0, none⟩), .int .i64 c, .int .i64 a] w fun e w' => e = .returned (.int .i64 (aErr n c a)) ∧ w = w' := by
  have HE : Hid (aErr n c a = if aHas n c = true then (if aAsset a = true then 0 else 3) else 2) := rfl
  cases h1 : aHas n c
  · go_enter Tryz.func124, Tryz.ntmps124
    go_wp2_with fail
    refine (has_any h c).mono ?_
    rintro e w' ⟨rfl, rfl⟩
    go_wp2_with fail
    go_ret
    exact ⟨by rw [HE.out, h1]; rfl, rfl⟩
  · cases h2 : aAsset a
    · go_enter Tryz.func124, Tryz.ntmps124
      go_wp2_with fail
      refine (has_any h c).mono ?_
      rintro e w' ⟨rfl, rfl⟩
      go_wp2_with fail
      refine (asset_any a _).mono ?_
      rintro e w' ⟨rfl, rfl⟩
      go_wp2_with fail
      go_ret
      exact ⟨by rw [HE.out, h1, h2]; rfl, rfl⟩
    · go_enter Tryz.func124, Tryz.ntmps124
      go_wp2_with fail
      refine (has_any h c).mono ?_
      rintro e w' ⟨rfl, rfl⟩
      go_wp2_with fail
      refine (asset_any a _).mono ?_
      rintro e w' ⟨rfl, rfl⟩
      go_wp2_with fail
      go_ret
      exact ⟨by rw [HE.out, h1, h2]; rfl, rfl⟩

/-- (*Accounts).Free. -/
theorem free_any {w : World} {b s n : Nat} {xs : List Int} (h : Acc w b s n xs) (c a : Int) :
    Calls Tryz.prog 94 #[.pointer (some ⟨b, 0, none⟩), .int .i64 c, .int .i64 a] w fun e w' => e = .returned (.int .u64 (aFree n xs c a)) ∧ w = w' := by
  obtain ⟨cap, _, _, hb0⟩ := h.head
  have h0 := hb0.at (i := 0) rfl
  clear hb0
  have HE : Hid (aErr n c a = if aHas n c = true then (if aAsset a = true then 0 else 3) else 2) := rfl
  have HF : Hid (aFree n xs c a = if aErr n c a = 0 then aGet xs c a else 0) := rfl
  cases h1 : aHas n c
  · go_enter Tryz.func94, Tryz.ntmps94
    go_wp2_with fail
    refine (has_any h c).mono ?_
    rintro e w' ⟨rfl, rfl⟩
    go_wp2_with fail
    go_ret
    exact ⟨by rw [HF.out, HE.out, h1]; rfl, rfl⟩
  · cases h2 : aAsset a
    · go_enter Tryz.func94, Tryz.ntmps94
      go_wp2_with fail
      refine (has_any h c).mono ?_
      rintro e w' ⟨rfl, rfl⟩
      go_wp2_with fail
      refine (asset_any a _).mono ?_
      rintro e w' ⟨rfl, rfl⟩
      go_wp2_with fail
      go_ret
      exact ⟨by rw [HF.out, HE.out, h1, h2]; rfl, rfl⟩
    · obtain ⟨k, rfl, hk⟩ := aHas_nat h1
      obtain ⟨j, rfl, hj⟩ := aAsset_nat h2
      have hc := h.cell hk hj
      go_enter Tryz.func94, Tryz.ntmps94
      go_wp2_with fail
      refine (has_any h _).mono ?_
      rintro e w' ⟨rfl, rfl⟩
      go_wp2_with fail
      refine (asset_any _ _).mono ?_
      rintro e w' ⟨rfl, rfl⟩
      go_wp2_with fail
      go_ret
      exact ⟨by rw [HF.out, HE.out, h1, h2]; rfl, rfl⟩

/-- (*Accounts).Put. -/
theorem put_any {w : World} {b s n : Nat} {xs : List Int} (h : Acc w b s n xs) (c a v : Int) (hv : U v) :
    Calls Tryz.prog 73 #[.pointer (some ⟨b, 0, none⟩), .int .i64 c, .int .i64 a, .int .u64 v] w fun e w' => e = .returned (.int .i64 (aPutE n xs c a v)) ∧ Acc w' b s n (aPut n xs c a v) ∧ Chg [s] w w' := by
  obtain ⟨cap, _, _, hb0⟩ := h.head
  have h0 := hb0.at (i := 0) rfl
  clear hb0
  have HE : Hid (aPutE n xs c a v = if aErr n c a = 0 then (if cAddB (aGet xs c a) v = true then 0 else 5) else aErr n c a) := rfl
  have HP : Hid (aPut n xs c a v = if aPutE n xs c a v = 0 then xs.set (aAt c a) (cAddN (aGet xs c a) v) else xs) := rfl
  by_cases h1 : aErr n c a = 0
  · obtain ⟨g1, g2⟩ := aErr_zero h1
    obtain ⟨k, rfl, hk⟩ := aHas_nat g1
    obtain ⟨j, rfl, hj⟩ := aAsset_nat g2
    clear g1 g2
    have hc := h.cell hk hj
    have hf := h.row.free (k * 2 + j)
    have hg := h.ok.get k j
    cases h2 : cAddB (aGet xs k j) v
    · have H1 := Lib.hid h1
      clear h1
      go_enter Tryz.func73, Tryz.ntmps73
      go_wp2_with fail
      refine (wrong_any h _ _).mono ?_
      rw [H1.out]
      rintro e w' ⟨rfl, rfl⟩
      go_wp2_with fail
      refine (add_any _ _ _ hg hv).mono ?_
      rintro e w' ⟨rfl, rfl⟩
      go_wp2_with fail
      go_ret
      have he : aPutE n xs k j v = 5 := by rw [HE.out, if_pos H1.out, h2]; rfl
      exact ⟨ret_int he.symm, by rw [HP.out, he, if_neg (by decide)]; exact h, Chg.refl _ _⟩
    · have H1 := Lib.hid h1
      clear h1
      go_enter Tryz.func73, Tryz.ntmps73
      go_wp2_with fail
      refine (wrong_any h _ _).mono ?_
      rw [H1.out]
      rintro e w' ⟨rfl, rfl⟩
      go_wp2_with fail
      refine (add_any _ _ _ hg hv).mono ?_
      rintro e w' ⟨rfl, rfl⟩
      go_wp2_with fail
      go_ret
      have he : aPutE n xs k j v = 0 := by rw [HE.out, if_pos H1.out, h2]; rfl
      exact ⟨ret_int he.symm, by rw [HP.out, if_pos he]; exact h.stored hk hj (cAdd_U hg hv), (Chg.refl _ _).setCell _ _ (by simp)⟩
  · have he : aPutE n xs c a v = aErr n c a := by rw [HE.out, if_neg h1]
    have hne : (aErr n c a != 0) = true := by simpa using h1
    have H1 := Lib.hid h1
    have HE' := Lib.hid he
    clear h1 he
    go_enter Tryz.func73, Tryz.ntmps73
    go_wp2_with fail
    refine (wrong_any h _ _).mono ?_
    rintro e w' ⟨rfl, rfl⟩
    go_wp2_with fail
    go_ret
    exact ⟨ret_int HE'.out.symm, by rw [HP.out, HE'.out, if_neg H1.out]; exact h, Chg.refl _ _⟩

/-- (*Accounts).Take. -/
theorem take_any {w : World} {b s n : Nat} {xs : List Int} (h : Acc w b s n xs) (c a v : Int) (hv : U v) :
    Calls Tryz.prog 126 #[.pointer (some ⟨b, 0, none⟩), .int .i64 c, .int .i64 a, .int .u64 v] w fun e w' => e = .returned (.int .i64 (aTakeE n xs c a v)) ∧ Acc w' b s n (aTake n xs c a v) ∧ Chg [s] w w' := by
  obtain ⟨cap, _, _, hb0⟩ := h.head
  have h0 := hb0.at (i := 0) rfl
  clear hb0
  have HE : Hid (aTakeE n xs c a v = if aErr n c a = 0 then (if cSubB (aGet xs c a) v = true then 0 else 4) else aErr n c a) := rfl
  have HP : Hid (aTake n xs c a v = if aTakeE n xs c a v = 0 then xs.set (aAt c a) (cSubN (aGet xs c a) v) else xs) := rfl
  by_cases h1 : aErr n c a = 0
  · obtain ⟨g1, g2⟩ := aErr_zero h1
    obtain ⟨k, rfl, hk⟩ := aHas_nat g1
    obtain ⟨j, rfl, hj⟩ := aAsset_nat g2
    clear g1 g2
    have hc := h.cell hk hj
    have hf := h.row.free (k * 2 + j)
    have hg := h.ok.get k j
    cases h2 : cSubB (aGet xs k j) v
    · have H1 := Lib.hid h1
      clear h1
      go_enter Tryz.func126, Tryz.ntmps126
      go_wp2_with fail
      refine (wrong_any h _ _).mono ?_
      rw [H1.out]
      rintro e w' ⟨rfl, rfl⟩
      go_wp2_with fail
      refine (sub_any _ _ _ hg hv).mono ?_
      rintro e w' ⟨rfl, rfl⟩
      go_wp2_with fail
      go_ret
      have he : aTakeE n xs k j v = 4 := by rw [HE.out, if_pos H1.out, h2]; rfl
      exact ⟨ret_int he.symm, by rw [HP.out, he, if_neg (by decide)]; exact h, Chg.refl _ _⟩
    · have H1 := Lib.hid h1
      clear h1
      go_enter Tryz.func126, Tryz.ntmps126
      go_wp2_with fail
      refine (wrong_any h _ _).mono ?_
      rw [H1.out]
      rintro e w' ⟨rfl, rfl⟩
      go_wp2_with fail
      refine (sub_any _ _ _ hg hv).mono ?_
      rintro e w' ⟨rfl, rfl⟩
      go_wp2_with fail
      go_ret
      have he : aTakeE n xs k j v = 0 := by rw [HE.out, if_pos H1.out, h2]; rfl
      exact ⟨ret_int he.symm, by rw [HP.out, if_pos he]; exact h.stored hk hj (cSub_U hg hv), (Chg.refl _ _).setCell _ _ (by simp)⟩
  · have he : aTakeE n xs c a v = aErr n c a := by rw [HE.out, if_neg h1]
    have hne : (aErr n c a != 0) = true := by simpa using h1
    have H1 := Lib.hid h1
    have HE' := Lib.hid he
    clear h1 he
    go_enter Tryz.func126, Tryz.ntmps126
    go_wp2_with fail
    refine (wrong_any h _ _).mono ?_
    rintro e w' ⟨rfl, rfl⟩
    go_wp2_with fail
    go_ret
    exact ⟨ret_int HE'.out.symm, by rw [HP.out, HE'.out, if_neg H1.out]; exact h, Chg.refl _ _⟩
end Go.Proofs.YteabcpmpcbjicaaGreat

namespace Go.Proofs.YteabcpmpcbjicaaGreat
set_option linter.unusedVariables false
open Go Go.Proofs Go.RowKit

theorem info_pair : (Tryz.prog.info? 139).map (fun i => (i.zero, i.size, i.bytes)) = some (some (.agg #[.int .u64 0, .int .u64 0]), 2, 16) := by kernel_rfl
theorem info_u64 : (Tryz.prog.info? 27).map (fun i => (i.zero, i.size, i.bytes)) = some (some (.int .u64 0), 1, 8) := by kernel_rfl

def zeros (n : Nat) : List Int := List.replicate n 0
/-- How many clients there are. -/
def aN (c : Int) : Nat := if c ≤ 0 then 0 else if c < 1000 then c.toNat else 1000

theorem zeros_ok (n : Nat) (h : n ≤ 1000) : AOk n (zeros (n * 2)) :=
  ⟨by simp [zeros], h, fun x hx => by rw [List.eq_of_mem_replicate hx]; simp [U]⟩
theorem made_pair (n : Nat) : (madeCells (Value.agg #[.int .u64 0, .int .u64 0]).cells (n * 2)).toList = (zeros (n * 2)).map (Value.int .u64) := by
  apply List.ext_getElem
  · simp [madeCells, zeros]
  · intro i h1 h2
    simp [madeCells, zeros, Value.cells]
    have : i % 2 = 0 ∨ i % 2 = 1 := by omega
    rcases this with h | h <;> simp [h]

theorem new_make {w : World} {c : Int} {n : Nat} (hn : aN c = n) (hd : (c < 0 ∧ n = 0) ∨ (c = 0 ∧ n = 0) ∨ (∃ k : Nat, c = k ∧ n = k ∧ 0 < k ∧ k < 1000) ∨ (c = 1000 ∧ n = 1000) ∨ (1000 < c ∧ n = 1000)) :
    Calls Tryz.prog 70 #[.int .i64 c] w fun e w' => ∃ b s, e = .returned (.pointer (some ⟨b, 0, none⟩)) ∧ Acc w' b s n (zeros (n * 2)) ∧ Chg [] w w' ∧ w.heap.size ≤ s ∧ w.heap.size ≤ b := by
  obtain ⟨i0, hi, hz0, hz1, hz2⟩ := info_parts info_pair
  have HN := Lib.hid hn
  clear hn
  have : n ≤ 1000 := by omega
  have hlast : ∀ (w' : World), w'.ownsRow w.heap.size 139 2 (.slice (some ⟨w.heap.size, 0, none⟩) n n) n (madeCells (Value.agg #[.int .u64 0, .int .u64 0]).cells (n * 2)).toList → w.grownBy w' none →
      Acc (w'.alloc (.cells #[.slice (some ⟨w.heap.size, 0, none⟩) n n] 202)) w'.heap.size w.heap.size n (zeros (n * 2)) ∧ Chg [] w (w'.alloc (.cells #[.slice (some ⟨w.heap.size, 0, none⟩) n n] 202)) ∧ w.heap.size < w'.heap.size := fun w' h1 h2 => by
    have hb := (own_blk h1).1
    have hlt := hb.lt
    rw [made_pair] at hb
    exact ⟨⟨zeros_ok _ this, by omega, ⟨n, Nat.le_refl _, by unfold maxLen; omega, Blk.new w' [.slice (some ⟨w.heap.size, 0, none⟩) n n] _⟩, (hb.alloc _).beg⟩, ((Chg.refl [] w).grown h2 (by simp)).alloc _, hlt⟩
  have HL := Lib.hid hlast
  clear hlast
  rcases hd with ⟨h1, rfl⟩ | ⟨rfl, rfl⟩ | ⟨k, rfl, rfl, h1, h2⟩ | ⟨rfl, rfl⟩ | ⟨h1, rfl⟩
  · go_enter Tryz.func70, Tryz.ntmps70
    go_wp2_with (at_make; refine wpList_make_full _ rfl (.tmp 5) (.tmp 5) 155 rfl w.heap.size 139 i0 (.agg #[.int .u64 0, .int .u64 0]) 2 Tryz.underlying155 hi hz0 hz1 .i64 .i64 _ _ 0 rfl rfl ?c1 ?c2 ?c3 ?c4 ?c5 ?_)
    case c1 => omega
    case c2 => omega
    case c3 => rw [hz2]; omega
    case c4 => unfold maxLen; omega
    case c5 => exact Nat.le_refl _
    intro w' g1 g2
    obtain ⟨h3, h4, h5⟩ := HL.out w' g1 g2
    clear g1 g2
    go_wp2_with fail
    go_ret
    exact ⟨_, _, rfl, h3, h4, Nat.le_refl _, Nat.le_of_lt h5⟩
  · go_enter Tryz.func70, Tryz.ntmps70
    go_wp2_with (at_make; refine wpList_make_full _ rfl (.tmp 5) (.tmp 5) 155 rfl w.heap.size 139 i0 (.agg #[.int .u64 0, .int .u64 0]) 2 Tryz.underlying155 hi hz0 hz1 .i64 .i64 _ _ 0 rfl rfl ?c1 ?c2 ?c3 ?c4 ?c5 ?_)
    case c1 => omega
    case c2 => omega
    case c3 => rw [hz2]; omega
    case c4 => unfold maxLen; omega
    case c5 => exact Nat.le_refl _
    intro w' g1 g2
    obtain ⟨h3, h4, h5⟩ := HL.out w' g1 g2
    clear g1 g2
    go_wp2_with fail
    go_ret
    exact ⟨_, _, rfl, h3, h4, Nat.le_refl _, Nat.le_of_lt h5⟩
  · go_enter Tryz.func70, Tryz.ntmps70
    go_wp2_with (at_make; refine wpList_make_full _ rfl (.tmp 5) (.tmp 5) 155 rfl w.heap.size 139 i0 (.agg #[.int .u64 0, .int .u64 0]) 2 Tryz.underlying155 hi hz0 hz1 .i64 .i64 _ _ n rfl rfl ?c1 ?c2 ?c3 ?c4 ?c5 ?_)
    case c1 => omega
    case c2 => omega
    case c3 => rw [hz2]; omega
    case c4 => unfold maxLen; omega
    case c5 => exact Nat.le_refl _
    intro w' g1 g2
    obtain ⟨h3, h4, h5⟩ := HL.out w' g1 g2
    clear g1 g2
    go_wp2_with fail
    go_ret
    exact ⟨_, _, rfl, h3, h4, Nat.le_refl _, Nat.le_of_lt h5⟩
  · go_enter Tryz.func70, Tryz.ntmps70
    go_wp2_with (at_make; refine wpList_make_full _ rfl (.tmp 5) (.tmp 5) 155 rfl w.heap.size 139 i0 (.agg #[.int .u64 0, .int .u64 0]) 2 Tryz.underlying155 hi hz0 hz1 .i64 .i64 _ _ 1000 rfl rfl ?c1 ?c2 ?c3 ?c4 ?c5 ?_)
    case c1 => omega
    case c2 => omega
    case c3 => rw [hz2]; omega
    case c4 => unfold maxLen; omega
    case c5 => exact Nat.le_refl _
    intro w' g1 g2
    obtain ⟨h3, h4, h5⟩ := HL.out w' g1 g2
    clear g1 g2
    go_wp2_with fail
    go_ret
    exact ⟨_, _, rfl, h3, h4, Nat.le_refl _, Nat.le_of_lt h5⟩
  · go_enter Tryz.func70, Tryz.ntmps70
    go_wp2_with (at_make; refine wpList_make_full _ rfl (.tmp 5) (.tmp 5) 155 rfl w.heap.size 139 i0 (.agg #[.int .u64 0, .int .u64 0]) 2 Tryz.underlying155 hi hz0 hz1 .i64 .i64 _ _ 1000 rfl rfl ?c1 ?c2 ?c3 ?c4 ?c5 ?_)
    case c1 => omega
    case c2 => omega
    case c3 => rw [hz2]; omega
    case c4 => unfold maxLen; omega
    case c5 => exact Nat.le_refl _
    intro w' g1 g2
    obtain ⟨h3, h4, h5⟩ := HL.out w' g1 g2
    clear g1 g2
    go_wp2_with fail
    go_ret
    exact ⟨_, _, rfl, h3, h4, Nat.le_refl _, Nat.le_of_lt h5⟩

/-- New. -/
theorem new_any (c : Int) (w : World) :
    Calls Tryz.prog 70 #[.int .i64 c] w fun e w' => ∃ b s, e = .returned (.pointer (some ⟨b, 0, none⟩)) ∧ Acc w' b s (aN c) (zeros (aN c * 2)) ∧ Chg [] w w' ∧ w.heap.size ≤ s ∧ w.heap.size ≤ b := by
  refine new_make rfl ?_
  unfold aN
  by_cases h1 : c < 0
  · left; rw [if_pos (by omega)]; exact ⟨h1, rfl⟩
  by_cases h2 : c = 0
  · right; left; rw [if_pos (by omega)]; exact ⟨h2, rfl⟩
  by_cases h3 : c < 1000
  · right; right; left; rw [if_neg (by omega), if_pos h3]; exact ⟨c.toNat, by omega, rfl, by omega, by omega⟩
  by_cases h4 : c = 1000
  · right; right; right; left; rw [if_neg (by omega), if_neg h3]; exact ⟨h4, rfl⟩
  · right; right; right; right; rw [if_neg (by omega), if_neg h3]; exact ⟨by omega, rfl⟩
end Go.Proofs.YteabcpmpcbjicaaGreat

namespace Go.Proofs.YteabcpmpcbjicaaGreat
set_option linter.unusedVariables false
open Go Go.Proofs Go.RowKit

/-- What all clients have of an asset. -/
def aCol (n : Nat) (xs : List Int) (a : Int) : List Int := (List.range n).map fun (i : Nat) => aGet xs (i : Int) a
def aSumN (n : Nat) (xs : List Int) (a : Int) : Int := if aAsset a = true then cSumN (aCol n xs a) else 0
def aSumB (n : Nat) (xs : List Int) (a : Int) : Bool := aAsset a && cSumB (aCol n xs a)

def colVals (xs : List Int) (a : Int) (k : Nat) : List Value := (aCol k xs a).map (Value.int .u64)
theorem colVals_snoc (xs : List Int) (a : Int) (k : Nat) : colVals xs a (k + 1) = colVals xs a k ++ [.int .u64 (aGet xs k a)] := by
  simp [colVals, aCol, List.range_succ]
theorem aCol_U {n : Nat} {xs : List Int} (h : AOk n xs) (m : Nat) (a : Int) : ∀ x ∈ aCol m xs a, U x := by
  intro x hx
  obtain ⟨i, _, rfl⟩ := List.mem_map.1 hx
  exact h.get _ _

end Go.Proofs.YteabcpmpcbjicaaGreat

namespace Go.Proofs.YteabcpmpcbjicaaGreat
set_option linter.unusedVariables false
open Go Go.Proofs Go.RowKit

theorem own_empty (w : World) (T : TypeId) (sz : Nat) {base : Nat} (h : base ≤ w.heap.size) : (w.alloc (.cells #[] T)).ownsRow base T sz (.slice (some ⟨w.heap.size, 0, none⟩) 0 0) 0 [] :=
  ⟨by simp, .inr ⟨w.heap.size, 0, #[], rfl, h, heap_new _ _, by omega, by unfold maxLen; omega, by simp, by simp⟩⟩
theorem ret_slice {a b : Option Addr} {n m c d : Nat} (h : a = b) (g : n = m) (k : c = d) : Ending.returned (.slice a n c) = .returned (.slice b m d) := by rw [h, g, k]

theorem run_slice_nil {P : Program} {t e : TypeId} (ht : P.underlying t = some (.slice e)) (w : World) (a : Addr) (n c : Nat) :
    (binOp .eql t (.slice (some a) n c) (.slice none 0 0)).run P w = .ok (.bool false) w := by
  have h : ∀ d : Nat, (Op.equalIn (d + 1) t (.slice (some a) n c) (.slice none 0 0)).run P w = .ok false w := fun d => by
    simp [Op.equalIn, run_underlying ht]
  simp only [binOp]
  simp [Op.equal, Op.maxDepth, h 9999]

end Go.Proofs.YteabcpmpcbjicaaGreat

namespace Go.Proofs.YteabcpmpcbjicaaGreat
set_option linter.unusedVariables false
open Go Go.Proofs Go.RowKit

theorem put_is {w : World} {b s n : Nat} {xs : List Int} (h : Acc w b s n xs) (c a v e0 : Int) (ys : List Int) (hv : U v) (h1 : aPutE n xs c a v = e0) (h2 : aPut n xs c a v = ys) :
    Calls Tryz.prog 73 #[.pointer (some ⟨b, 0, none⟩), .int .i64 c, .int .i64 a, .int .u64 v] w fun e w' => e = .returned (.int .i64 e0) ∧ Acc w' b s n ys ∧ Chg [s] w w' := by
  subst h1; subst h2; exact put_any h c a v hv
theorem take_is {w : World} {b s n : Nat} {xs : List Int} (h : Acc w b s n xs) (c a v e0 : Int) (ys : List Int) (hv : U v) (h1 : aTakeE n xs c a v = e0) (h2 : aTake n xs c a v = ys) :
    Calls Tryz.prog 126 #[.pointer (some ⟨b, 0, none⟩), .int .i64 c, .int .i64 a, .int .u64 v] w fun e w' => e = .returned (.int .i64 e0) ∧ Acc w' b s n ys ∧ Chg [s] w w' := by
  subst h1; subst h2; exact take_any h c a v hv
theorem free_is {w : World} {b s n : Nat} {xs : List Int} (h : Acc w b s n xs) (c a r : Int) (h1 : aFree n xs c a = r) :
    Calls Tryz.prog 94 #[.pointer (some ⟨b, 0, none⟩), .int .i64 c, .int .i64 a] w fun e w' => e = .returned (.int .u64 r) ∧ w = w' := by
  subst h1; exact free_any h c a
theorem new_is (c : Int) (n : Nat) (xs : List Int) (w : World) (h1 : aN c = n) (h2 : zeros (n * 2) = xs) :
    Calls Tryz.prog 70 #[.int .i64 c] w fun e w' => ∃ b s, e = .returned (.pointer (some ⟨b, 0, none⟩)) ∧ Acc w' b s n xs ∧ Chg [] w w' ∧ w.heap.size ≤ s ∧ w.heap.size ≤ b := by
  subst h1; subst h2; exact new_any c w
theorem Acc.lt {w : World} {b s n : Nat} {xs : List Int} (h : Acc w b s n xs) : b < w.heap.size ∧ s < w.heap.size := ⟨h.head.elim fun c g => g.2.2.lt, h.row.lt⟩

end Go.Proofs.YteabcpmpcbjicaaGreat
