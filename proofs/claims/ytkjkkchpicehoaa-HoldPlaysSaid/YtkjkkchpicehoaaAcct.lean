import Derived.Test.YtkjkkchpicehoaaMem
namespace Go.Proofs.Ytkjkkchpicehoaa
set_option linter.unusedVariables false
open Go Go.Proofs Go.RowKit

/-! What the accounts come to: n clients, two numbers each, in one row. -/
def aHas (n : Nat) (c : Int) : Bool := decide (0 ≤ c ∧ c < n)
def aAsset (a : Int) : Bool := decide (0 ≤ a ∧ a < 2)
def aAt (c a : Int) : Nat := c.toNat * 2 + a.toNat
def aGet (xs : List Int) (c a : Int) : Int := xs.getD (aAt c a) 0
def aErr (n : Nat) (c a : Int) : Int := if aHas n c = true then (if aAsset a = true then 0 else 3) else 2
def aFree (n : Nat) (xs : List Int) (c a : Int) : Int := if aErr n c a = 0 then aGet xs c a else 0
def aPutE (n : Nat) (xs : List Int) (c a v : Int) : Int := if aErr n c a = 0 then (if cAddB (aGet xs c a) v = true then 0 else 5) else aErr n c a
def aPut (n : Nat) (xs : List Int) (c a v : Int) : List Int := if aPutE n xs c a v = 0 then xs.set (aAt c a) (cAddN (aGet xs c a) v) else xs
def aTakeE (n : Nat) (xs : List Int) (c a v : Int) : Int := if aErr n c a = 0 then (if cSubB (aGet xs c a) v = true then 0 else 4) else aErr n c a
def aTake (n : Nat) (xs : List Int) (c a v : Int) : List Int := if aTakeE n xs c a v = 0 then xs.set (aAt c a) (cSubN (aGet xs c a) v) else xs

/-- A row of numbers of 64 bits, two for each of n clients. -/
structure AOk (n : Nat) (xs : List Int) : Prop where
  len : xs.length = n * 2
  most : n ≤ 1000
  all : ∀ x ∈ xs, U x

/-- Accounts in memory: the struct's block b, the row's block s. -/
structure Acc (w : World) (b s n : Nat) (xs : List Int) : Prop where
  ok : AOk n xs
  ne : b ≠ s
  head : ∃ cap, n ≤ cap ∧ cap ≤ maxLen ∧ Blk w b 73 [.slice (some ⟨s, 0, none⟩) n cap]
  row : Beg w s 75 (xs.map (Value.int .u64))

theorem AOk.get {n : Nat} {xs : List Int} (h : AOk n xs) (c a : Int) : U (aGet xs c a) := by
  unfold aGet
  rw [List.getD]
  cases e : xs[aAt c a]? with
  | none => exact ⟨by simp, by simp⟩
  | some v => exact h.all _ (List.mem_of_getElem? e)
theorem AOk.set {n : Nat} {xs : List Int} (h : AOk n xs) (i : Nat) {v : Int} (hv : U v) : AOk n (xs.set i v) :=
  ⟨by simp [h.len], h.most, fun x hx => by rcases List.mem_or_eq_of_mem_set hx with h1 | h1; exact h.all _ h1; exact h1 ▸ hv⟩
theorem AOk.put {n : Nat} {xs : List Int} (h : AOk n xs) (c a : Int) {v : Int} (hv : U v) : AOk n (aPut n xs c a v) := by
  unfold aPut; split
  · exact h.set _ (cAdd_U (h.get c a) hv)
  · exact h
theorem AOk.take {n : Nat} {xs : List Int} (h : AOk n xs) (c a : Int) {v : Int} (hv : U v) : AOk n (aTake n xs c a v) := by
  unfold aTake; split
  · exact h.set _ (cSub_U (h.get c a) hv)
  · exact h
theorem aErr_zero {n : Nat} {c a : Int} (h : aErr n c a = 0) : aHas n c = true ∧ aAsset a = true := by
  unfold aErr at h; split at h
  · split at h
    · exact ⟨by assumption, by assumption⟩
    · simp at h
  · simp at h
theorem aHas_nat {n : Nat} {c : Int} (h : aHas n c = true) : ∃ k : Nat, c = k ∧ k < n := by
  unfold aHas at h; simp at h; exact ⟨c.toNat, by omega, by omega⟩
theorem aAsset_nat {a : Int} (h : aAsset a = true) : ∃ k : Nat, a = k ∧ k < 2 := by
  unfold aAsset at h; simp at h; exact ⟨a.toNat, by omega, by omega⟩
theorem Acc.chg {w w' : World} {b s n : Nat} {xs : List Int} {S : List Nat} (h : Acc w b s n xs) (g : Chg S w w') (hb : b ∉ S) (hs : s ∉ S) : Acc w' b s n xs := ⟨h.ok, h.ne, h.head.elim fun cap h1 => ⟨cap, h1.1, h1.2.1, h1.2.2.chg g hb⟩, h.row.chg g hs⟩
theorem Acc.alloc {w : World} {b s n : Nat} {xs : List Int} (h : Acc w b s n xs) (o : Obj) : Acc (w.alloc o) b s n xs := ⟨h.ok, h.ne, h.head.elim fun cap h1 => ⟨cap, h1.1, h1.2.1, h1.2.2.alloc o⟩, h.row.alloc o⟩
theorem Acc.drew {w : World} {b s n : Nat} {xs : List Int} (h : Acc w b s n xs) : Acc w.drew b s n xs := ⟨h.ok, h.ne, h.head, h.row⟩
theorem Acc.drewN {w : World} {b s n : Nat} {xs : List Int} (h : Acc w b s n xs) (m : Nat) : Acc (w.drewN m) b s n xs := ⟨h.ok, h.ne, h.head, h.row⟩
/-- The cell of a client's asset. -/
theorem Acc.cell {w : World} {b s n : Nat} {xs : List Int} (h : Acc w b s n xs) {k j : Nat} (hk : k < n) (hj : j < 2) : w.cell? ⟨s, k * 2 + j, none⟩ = some (.int .u64 (aGet xs k j)) := by
  refine h.row.at ?_
  have := h.ok.len
  have hl : k * 2 + j < xs.length := by omega
  unfold aGet aAt
  simp [hl, List.getD]
theorem Acc.stored {w : World} {b s n : Nat} {xs : List Int} (h : Acc w b s n xs) {k j : Nat} (hk : k < n) (hj : j < 2) {v : Int} (hv : U v) : Acc (w.setCell ⟨s, k * 2 + j, none⟩ (.int .u64 v)) b s n (xs.set (aAt k j) v) :=
  ⟨h.ok.set _ hv, h.ne, h.head.elim fun cap h1 => ⟨cap, h1.1, h1.2.1, h1.2.2.put _ _ h.ne⟩, by have := h.row.set (k * 2 + j) (.int .u64 v) (by have := h.ok.len; simp; omega); unfold aAt; rw [List.map_set]; exact this⟩

/-- (*Accounts).Has. -/
theorem has_any {w : World} {b s n : Nat} {xs : List Int} (h : Acc w b s n xs) (c : Int) :
    Calls Try.prog 52 #[.pointer (some ⟨b, 0, none⟩), .int .i64 c] w fun e w' => e = .returned (.bool (aHas n c)) ∧ w = w' := by
  obtain ⟨cap, _, _, hb0⟩ := h.head
  have h0 := hb0.at (i := 0) rfl
  clear hb0
  by_cases h1 : 0 ≤ c
  · by_cases h2 : c < n
    · have E : Hid (aHas n c = true) := by show _ = _; unfold aHas; simp; omega
      go_enter Try.func52, Try.ntmps52
      go_wp2
      go_ret
      exact ⟨ret_bool (by rw [E.out]), rfl⟩
    · have E : Hid (aHas n c = false) := by show _ = _; unfold aHas; simp; omega
      go_enter Try.func52, Try.ntmps52
      go_wp2
      go_ret
      exact ⟨ret_bool (by rw [E.out]), rfl⟩
  · have E : Hid (aHas n c = false) := by show _ = _; unfold aHas; simp; omega
    go_enter Try.func52, Try.ntmps52
    go_wp2
    go_ret
    exact ⟨ret_bool (by rw [E.out]), rfl⟩

/-- Asset. -/
theorem asset_any (a : Int) (w : World) :
    Calls Try.prog 51 #[.int .i64 a] w fun e w' => e = .returned (.bool (aAsset a)) ∧ w = w' := by
  by_cases h1 : 0 ≤ a
  · by_cases h2 : a < 2
    · have E : Hid (aAsset a = true) := by show _ = _; unfold aAsset; simp; omega
      go_enter Try.func51, Try.ntmps51
      go_wp2
      go_ret
      exact ⟨ret_bool (by rw [E.out]), rfl⟩
    · have E : Hid (aAsset a = false) := by show _ = _; unfold aAsset; simp; omega
      go_enter Try.func51, Try.ntmps51
      go_wp2
      go_ret
      exact ⟨ret_bool (by rw [E.out]), rfl⟩
  · have E : Hid (aAsset a = false) := by show _ = _; unfold aAsset; simp; omega
    go_enter Try.func51, Try.ntmps51
    go_wp2
    go_ret
    exact ⟨ret_bool (by rw [E.out]), rfl⟩

/-- (*Accounts).wrong. -/
theorem wrong_any {w : World} {b s n : Nat} {xs : List Int} (h : Acc w b s n xs) (c a : Int) :
    Calls Try.prog 50 #[.pointer (some ⟨b, 0, none⟩), .int .i64 c, .int .i64 a] w fun e w' => e = .returned (.int .i64 (aErr n c a)) ∧ w = w' := by
  have HE : Hid (aErr n c a = if aHas n c = true then (if aAsset a = true then 0 else 3) else 2) := rfl
  cases h1 : aHas n c
  · go_enter Try.func50, Try.ntmps50
    go_wp2_with fail
    refine (has_any h c).mono ?_
    rintro e w' ⟨rfl, rfl⟩
    go_wp2_with fail
    go_ret
    exact ⟨by rw [HE.out, h1]; rfl, rfl⟩
  · cases h2 : aAsset a
    · go_enter Try.func50, Try.ntmps50
      go_wp2_with fail
      refine (has_any h c).mono ?_
      rintro e w' ⟨rfl, rfl⟩
      go_wp2_with fail
      refine (asset_any a _).mono ?_
      rintro e w' ⟨rfl, rfl⟩
      go_wp2_with fail
      go_ret
      exact ⟨by rw [HE.out, h1, h2]; rfl, rfl⟩
    · go_enter Try.func50, Try.ntmps50
      go_wp2_with fail
      refine (has_any h c).mono ?_
      rintro e w' ⟨rfl, rfl⟩
      go_wp2_with fail
      refine (asset_any a _).mono ?_
      rintro e w' ⟨rfl, rfl⟩
      go_wp2_with fail
      go_ret
      exact ⟨by rw [HE.out, h1, h2]; rfl, rfl⟩

/-- (*Accounts).Free. -/
theorem free_any {w : World} {b s n : Nat} {xs : List Int} (h : Acc w b s n xs) (c a : Int) :
    Calls Try.prog 29 #[.pointer (some ⟨b, 0, none⟩), .int .i64 c, .int .i64 a] w fun e w' => e = .returned (.int .u64 (aFree n xs c a)) ∧ w = w' := by
  obtain ⟨cap, _, _, hb0⟩ := h.head
  have h0 := hb0.at (i := 0) rfl
  clear hb0
  have HE : Hid (aErr n c a = if aHas n c = true then (if aAsset a = true then 0 else 3) else 2) := rfl
  have HF : Hid (aFree n xs c a = if aErr n c a = 0 then aGet xs c a else 0) := rfl
  cases h1 : aHas n c
  · go_enter Try.func29, Try.ntmps29
    go_wp2_with fail
    refine (has_any h c).mono ?_
    rintro e w' ⟨rfl, rfl⟩
    go_wp2_with fail
    go_ret
    exact ⟨by rw [HF.out, HE.out, h1]; rfl, rfl⟩
  · cases h2 : aAsset a
    · go_enter Try.func29, Try.ntmps29
      go_wp2_with fail
      refine (has_any h c).mono ?_
      rintro e w' ⟨rfl, rfl⟩
      go_wp2_with fail
      refine (asset_any a _).mono ?_
      rintro e w' ⟨rfl, rfl⟩
      go_wp2_with fail
      go_ret
      exact ⟨by rw [HF.out, HE.out, h1, h2]; rfl, rfl⟩
    · obtain ⟨k, rfl, hk⟩ := aHas_nat h1
      obtain ⟨j, rfl, hj⟩ := aAsset_nat h2
      have hc := h.cell hk hj
      go_enter Try.func29, Try.ntmps29
      go_wp2_with fail
      refine (has_any h _).mono ?_
      rintro e w' ⟨rfl, rfl⟩
      go_wp2_with fail
      refine (asset_any _ _).mono ?_
      rintro e w' ⟨rfl, rfl⟩
      go_wp2_with fail
      go_ret
      exact ⟨by rw [HF.out, HE.out, h1, h2]; rfl, rfl⟩

/-- (*Accounts).Put. -/
theorem put_any {w : World} {b s n : Nat} {xs : List Int} (h : Acc w b s n xs) (c a v : Int) (hv : U v) :
    Calls Try.prog 25 #[.pointer (some ⟨b, 0, none⟩), .int .i64 c, .int .i64 a, .int .u64 v] w fun e w' => e = .returned (.int .i64 (aPutE n xs c a v)) ∧ Acc w' b s n (aPut n xs c a v) ∧ Chg [s] w w' := by
  obtain ⟨cap, _, _, hb0⟩ := h.head
  have h0 := hb0.at (i := 0) rfl
  clear hb0
  have HE : Hid (aPutE n xs c a v = if aErr n c a = 0 then (if cAddB (aGet xs c a) v = true then 0 else 5) else aErr n c a) := rfl
  have HP : Hid (aPut n xs c a v = if aPutE n xs c a v = 0 then xs.set (aAt c a) (cAddN (aGet xs c a) v) else xs) := rfl
  by_cases h1 : aErr n c a = 0
  · obtain ⟨g1, g2⟩ := aErr_zero h1
    obtain ⟨k, rfl, hk⟩ := aHas_nat g1
    obtain ⟨j, rfl, hj⟩ := aAsset_nat g2
    clear g1 g2
    have hc := h.cell hk hj
    have hf := h.row.free (k * 2 + j)
    have hg := h.ok.get k j
    cases h2 : cAddB (aGet xs k j) v
    · have H1 := Lib.hid h1
      clear h1
      go_enter Try.func25, Try.ntmps25
      go_wp2_with fail
      refine (wrong_any h _ _).mono ?_
      rw [H1.out]
      rintro e w' ⟨rfl, rfl⟩
      go_wp2_with fail
      refine (add_any _ _ _ hg hv).mono ?_
      rintro e w' ⟨rfl, rfl⟩
      go_wp2_with fail
      go_ret
      have he : aPutE n xs k j v = 5 := by rw [HE.out, if_pos H1.out, h2]; rfl
      exact ⟨ret_int he.symm, by rw [HP.out, he, if_neg (by decide)]; exact h, Chg.refl _ _⟩
    · have H1 := Lib.hid h1
      clear h1
      go_enter Try.func25, Try.ntmps25
      go_wp2_with fail
      refine (wrong_any h _ _).mono ?_
      rw [H1.out]
      rintro e w' ⟨rfl, rfl⟩
      go_wp2_with fail
      refine (add_any _ _ _ hg hv).mono ?_
      rintro e w' ⟨rfl, rfl⟩
      go_wp2_with fail
      go_ret
      have he : aPutE n xs k j v = 0 := by rw [HE.out, if_pos H1.out, h2]; rfl
      exact ⟨ret_int he.symm, by rw [HP.out, if_pos he]; exact h.stored hk hj (cAdd_U hg hv), (Chg.refl _ _).setCell _ _ (by simp)⟩
  · have he : aPutE n xs c a v = aErr n c a := by rw [HE.out, if_neg h1]
    have hne : (aErr n c a != 0) = true := by simpa using h1
    have H1 := Lib.hid h1
    have HE' := Lib.hid he
    clear h1 he
    go_enter Try.func25, Try.ntmps25
    go_wp2_with fail
    refine (wrong_any h _ _).mono ?_
    rintro e w' ⟨rfl, rfl⟩
    go_wp2_with fail
    go_ret
    exact ⟨ret_int HE'.out.symm, by rw [HP.out, HE'.out, if_neg H1.out]; exact h, Chg.refl _ _⟩

/-- (*Accounts).Take. -/
theorem take_any {w : World} {b s n : Nat} {xs : List Int} (h : Acc w b s n xs) (c a v : Int) (hv : U v) :
    Calls Try.prog 26 #[.pointer (some ⟨b, 0, none⟩), .int .i64 c, .int .i64 a, .int .u64 v] w fun e w' => e = .returned (.int .i64 (aTakeE n xs c a v)) ∧ Acc w' b s n (aTake n xs c a v) ∧ Chg [s] w w' := by
  obtain ⟨cap, _, _, hb0⟩ := h.head
  have h0 := hb0.at (i := 0) rfl
  clear hb0
  have HE : Hid (aTakeE n xs c a v = if aErr n c a = 0 then (if cSubB (aGet xs c a) v = true then 0 else 4) else aErr n c a) := rfl
  have HP : Hid (aTake n xs c a v = if aTakeE n xs c a v = 0 then xs.set (aAt c a) (cSubN (aGet xs c a) v) else xs) := rfl
  by_cases h1 : aErr n c a = 0
  · obtain ⟨g1, g2⟩ := aErr_zero h1
    obtain ⟨k, rfl, hk⟩ := aHas_nat g1
    obtain ⟨j, rfl, hj⟩ := aAsset_nat g2
    clear g1 g2
    have hc := h.cell hk hj
    have hf := h.row.free (k * 2 + j)
    have hg := h.ok.get k j
    cases h2 : cSubB (aGet xs k j) v
    · have H1 := Lib.hid h1
      clear h1
      go_enter Try.func26, Try.ntmps26
      go_wp2_with fail
      refine (wrong_any h _ _).mono ?_
      rw [H1.out]
      rintro e w' ⟨rfl, rfl⟩
      go_wp2_with fail
      refine (sub_any _ _ _ hg hv).mono ?_
      rintro e w' ⟨rfl, rfl⟩
      go_wp2_with fail
      go_ret
      have he : aTakeE n xs k j v = 4 := by rw [HE.out, if_pos H1.out, h2]; rfl
      exact ⟨ret_int he.symm, by rw [HP.out, he, if_neg (by decide)]; exact h, Chg.refl _ _⟩
    · have H1 := Lib.hid h1
      clear h1
      go_enter Try.func26, Try.ntmps26
      go_wp2_with fail
      refine (wrong_any h _ _).mono ?_
      rw [H1.out]
      rintro e w' ⟨rfl, rfl⟩
      go_wp2_with fail
      refine (sub_any _ _ _ hg hv).mono ?_
      rintro e w' ⟨rfl, rfl⟩
      go_wp2_with fail
      go_ret
      have he : aTakeE n xs k j v = 0 := by rw [HE.out, if_pos H1.out, h2]; rfl
      exact ⟨ret_int he.symm, by rw [HP.out, if_pos he]; exact h.stored hk hj (cSub_U hg hv), (Chg.refl _ _).setCell _ _ (by simp)⟩
  · have he : aTakeE n xs c a v = aErr n c a := by rw [HE.out, if_neg h1]
    have hne : (aErr n c a != 0) = true := by simpa using h1
    have H1 := Lib.hid h1
    have HE' := Lib.hid he
    clear h1 he
    go_enter Try.func26, Try.ntmps26
    go_wp2_with fail
    refine (wrong_any h _ _).mono ?_
    rintro e w' ⟨rfl, rfl⟩
    go_wp2_with fail
    go_ret
    exact ⟨ret_int HE'.out.symm, by rw [HP.out, HE'.out, if_neg H1.out]; exact h, Chg.refl _ _⟩
end Go.Proofs.Ytkjkkchpicehoaa
