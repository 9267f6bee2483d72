import Derived.Test.YtkjkkchpicehoaaAcct3
import Derived.Test.YtkjkkchpicehoaaRef1
namespace Go.Proofs.Ytkjkkchpicehoaa
set_option linter.unusedVariables false
open Go Go.Proofs Go.RowKit

/-- Accounts in memory: the struct's block b, the row's block s. -/
structure RAcc (w : World) (b s n : Nat) (xs : List Int) : Prop where
  ok : AOk n xs
  ne : b ≠ s
  head : ∃ cap, n ≤ cap ∧ cap ≤ maxLen ∧ Blk w b 78 [.slice (some ⟨s, 0, none⟩) n cap]
  row : Beg w s 75 (xs.map (Value.int .u64))

theorem RAcc.chg {w w' : World} {b s n : Nat} {xs : List Int} {S : List Nat} (h : RAcc w b s n xs) (g : Chg S w w') (hb : b ∉ S) (hs : s ∉ S) : RAcc w' b s n xs := ⟨h.ok, h.ne, h.head.elim fun cap h1 => ⟨cap, h1.1, h1.2.1, h1.2.2.chg g hb⟩, h.row.chg g hs⟩
theorem RAcc.alloc {w : World} {b s n : Nat} {xs : List Int} (h : RAcc w b s n xs) (o : Obj) : RAcc (w.alloc o) b s n xs := ⟨h.ok, h.ne, h.head.elim fun cap h1 => ⟨cap, h1.1, h1.2.1, h1.2.2.alloc o⟩, h.row.alloc o⟩
theorem RAcc.drew {w : World} {b s n : Nat} {xs : List Int} (h : RAcc w b s n xs) : RAcc w.drew b s n xs := ⟨h.ok, h.ne, h.head, h.row⟩
theorem RAcc.drewN {w : World} {b s n : Nat} {xs : List Int} (h : RAcc w b s n xs) (m : Nat) : RAcc (w.drewN m) b s n xs := ⟨h.ok, h.ne, h.head, h.row⟩
/-- The cell of a client's asset. -/
theorem RAcc.cell {w : World} {b s n : Nat} {xs : List Int} (h : RAcc w b s n xs) {k j : Nat} (hk : k < n) (hj : j < 2) : w.cell? ⟨s, k * 2 + j, none⟩ = some (.int .u64 (aGet xs k j)) := by
  refine h.row.at ?_
  have := h.ok.len
  have hl : k * 2 + j < xs.length := by omega
  unfold aGet aAt
  simp [hl, List.getD]
theorem RAcc.stored {w : World} {b s n : Nat} {xs : List Int} (h : RAcc w b s n xs) {k j : Nat} (hk : k < n) (hj : j < 2) {v : Int} (hv : U v) : RAcc (w.setCell ⟨s, k * 2 + j, none⟩ (.int .u64 v)) b s n (xs.set (aAt k j) v) :=
  ⟨h.ok.set _ hv, h.ne, h.head.elim fun cap h1 => ⟨cap, h1.1, h1.2.1, h1.2.2.put _ _ h.ne⟩, by have := h.row.set (k * 2 + j) (.int .u64 v) (by have := h.ok.len; simp; omega); unfold aAt; rw [List.map_set]; exact this⟩

/-- (*Accounts).is. -/
theorem ris_any {w : World} {b s n : Nat} {xs : List Int} (h : RAcc w b s n xs) (c a : Int) :
    Calls Try.prog 54 #[.pointer (some ⟨b, 0, none⟩), .int .i64 c, .int .i64 a] w fun e w' => e = .returned (.int .i64 (aErr n c a)) ∧ w = w' := by
  obtain ⟨cap, _, _, hb0⟩ := h.head
  have h0 := hb0.at (i := 0) rfl
  clear hb0
  have hn := h.ok.most
  have HE : Hid (aErr n c a = if aHas n c = true then (if aAsset a = true then 0 else 3) else 2) := rfl
  by_cases h1 : c < 0
  · have HF : Hid (aHas n c = false) := by show _ = _; unfold aHas; simp; omega
    go_enter Try.func54, Try.ntmps54
    go_wp2
    go_ret
    exact ⟨ret_int (by rw [HE.out, HF.out]; rfl), rfl⟩
  have d1 : decide (c < 0) = false := by simpa using h1
  by_cases h2 : (n : Int) ≤ c
  · have HF : Hid (aHas n c = false) := by show _ = _; unfold aHas; simp; omega
    go_enter Try.func54, Try.ntmps54
    go_wp2
    go_ret
    exact ⟨ret_int (by rw [HE.out, HF.out]; rfl), rfl⟩
  have HF : Hid (aHas n c = true) := by show _ = _; unfold aHas; simp; omega
  by_cases h3 : a < 0
  · have HG : Hid (aAsset a = false) := by show _ = _; unfold aAsset; simp; omega
    go_enter Try.func54, Try.ntmps54
    go_wp2
    go_ret
    exact ⟨ret_int (by rw [HE.out, HF.out, HG.out]; rfl), rfl⟩
  have d3 : decide (a < 0) = false := by simpa using h3
  by_cases h4 : 1 < a
  · have HG : Hid (aAsset a = false) := by show _ = _; unfold aAsset; simp; omega
    go_enter Try.func54, Try.ntmps54
    go_wp2
    go_ret
    exact ⟨ret_int (by rw [HE.out, HF.out, HG.out]; rfl), rfl⟩
  · have HG : Hid (aAsset a = true) := by show _ = _; unfold aAsset; simp; omega
    go_enter Try.func54, Try.ntmps54
    go_wp2
    go_ret
    exact ⟨ret_int (by rw [HE.out, HF.out, HG.out]; rfl), rfl⟩

/-- (*Accounts).Free. -/
theorem rfree_any {w : World} {b s n : Nat} {xs : List Int} (h : RAcc w b s n xs) (c a : Int) :
    Calls Try.prog 35 #[.pointer (some ⟨b, 0, none⟩), .int .i64 c, .int .i64 a] w fun e w' => e = .returned (.int .u64 (aFree n xs c a)) ∧ w = w' := by
  obtain ⟨cap, _, _, hb0⟩ := h.head
  have h0 := hb0.at (i := 0) rfl
  clear hb0
  have HF : Hid (aFree n xs c a = if aErr n c a = 0 then aGet xs c a else 0) := rfl
  by_cases h1 : aErr n c a = 0
  · obtain ⟨g1, g2⟩ := aErr_zero h1
    obtain ⟨k, rfl, hk⟩ := aHas_nat g1
    obtain ⟨j, rfl, hj⟩ := aAsset_nat g2
    clear g1 g2
    have hc := h.cell hk hj
    have H1 := Lib.hid h1
    clear h1
    go_enter Try.func35, Try.ntmps35
    go_wp2_with fail
    refine (ris_any h _ _).mono ?_
    rw [H1.out]
    rintro e w' ⟨rfl, rfl⟩
    go_wp2_with fail
    go_ret
    exact ⟨ret_int (by rw [HF.out, if_pos H1.out]), rfl⟩
  · have hne : (aErr n c a != 0) = true := by simpa using h1
    have H1 := Lib.hid h1
    clear h1
    go_enter Try.func35, Try.ntmps35
    go_wp2_with fail
    refine (ris_any h _ _).mono ?_
    rintro e w' ⟨rfl, rfl⟩
    go_wp2_with fail
    go_ret
    exact ⟨ret_int (by rw [HF.out, if_neg H1.out]), rfl⟩
/-- (*Accounts).Put. -/
theorem rput_any {w : World} {b s n : Nat} {xs : List Int} (h : RAcc w b s n xs) (c a v : Int) (hv : U v) :
    Calls Try.prog 32 #[.pointer (some ⟨b, 0, none⟩), .int .i64 c, .int .i64 a, .int .u64 v] w fun e w' => e = .returned (.int .i64 (aPutE n xs c a v)) ∧ RAcc w' b s n (aPut n xs c a v) ∧ Chg [s] w w' := by
  obtain ⟨cap, _, _, hb0⟩ := h.head
  have h0 := hb0.at (i := 0) rfl
  clear hb0
  have HE : Hid (aPutE n xs c a v = if aErr n c a = 0 then (if cAddB (aGet xs c a) v = true then 0 else 5) else aErr n c a) := rfl
  have HP : Hid (aPut n xs c a v = if aPutE n xs c a v = 0 then xs.set (aAt c a) (cAddN (aGet xs c a) v) else xs) := rfl
  by_cases h1 : aErr n c a = 0
  · obtain ⟨g1, g2⟩ := aErr_zero h1
    obtain ⟨k, rfl, hk⟩ := aHas_nat g1
    obtain ⟨j, rfl, hj⟩ := aAsset_nat g2
    clear g1 g2
    have hc := h.cell hk hj
    have hf := h.row.free (k * 2 + j)
    have hg := h.ok.get k j
    cases h2 : cAddB (aGet xs k j) v
    · have H1 := Lib.hid h1
      clear h1
      go_enter Try.func32, Try.ntmps32
      go_wp2_with fail
      refine (ris_any h _ _).mono ?_
      rw [H1.out]
      rintro e w' ⟨rfl, rfl⟩
      go_wp2_with fail
      refine (radd_any _ _ _ hg hv).mono ?_
      rintro e w' ⟨rfl, rfl⟩
      go_wp2_with fail
      go_ret
      have he : aPutE n xs k j v = 5 := by rw [HE.out, if_pos H1.out, h2]; rfl
      exact ⟨ret_int he.symm, by rw [HP.out, he, if_neg (by decide)]; exact h, Chg.refl _ _⟩
    · have H1 := Lib.hid h1
      clear h1
      go_enter Try.func32, Try.ntmps32
      go_wp2_with fail
      refine (ris_any h _ _).mono ?_
      rw [H1.out]
      rintro e w' ⟨rfl, rfl⟩
      go_wp2_with fail
      refine (radd_any _ _ _ hg hv).mono ?_
      rintro e w' ⟨rfl, rfl⟩
      go_wp2_with fail
      go_ret
      have he : aPutE n xs k j v = 0 := by rw [HE.out, if_pos H1.out, h2]; rfl
      exact ⟨ret_int he.symm, by rw [HP.out, if_pos he]; exact h.stored hk hj (cAdd_U hg hv), (Chg.refl _ _).setCell _ _ (by simp)⟩
  · have he : aPutE n xs c a v = aErr n c a := by rw [HE.out, if_neg h1]
    have hne : (aErr n c a != 0) = true := by simpa using h1
    have H1 := Lib.hid h1
    have HE' := Lib.hid he
    clear h1 he
    go_enter Try.func32, Try.ntmps32
    go_wp2_with fail
    refine (ris_any h _ _).mono ?_
    rintro e w' ⟨rfl, rfl⟩
    go_wp2_with fail
    go_ret
    exact ⟨ret_int HE'.out.symm, by rw [HP.out, HE'.out, if_neg H1.out]; exact h, Chg.refl _ _⟩

/-- (*Accounts).Take. -/
theorem rtake_any {w : World} {b s n : Nat} {xs : List Int} (h : RAcc w b s n xs) (c a v : Int) (hv : U v) :
    Calls Try.prog 33 #[.pointer (some ⟨b, 0, none⟩), .int .i64 c, .int .i64 a, .int .u64 v] w fun e w' => e = .returned (.int .i64 (aTakeE n xs c a v)) ∧ RAcc w' b s n (aTake n xs c a v) ∧ Chg [s] w w' := by
  obtain ⟨cap, _, _, hb0⟩ := h.head
  have h0 := hb0.at (i := 0) rfl
  clear hb0
  have HE : Hid (aTakeE n xs c a v = if aErr n c a = 0 then (if cSubB (aGet xs c a) v = true then 0 else 4) else aErr n c a) := rfl
  have HP : Hid (aTake n xs c a v = if aTakeE n xs c a v = 0 then xs.set (aAt c a) (cSubN (aGet xs c a) v) else xs) := rfl
  by_cases h1 : aErr n c a = 0
  · obtain ⟨g1, g2⟩ := aErr_zero h1
    obtain ⟨k, rfl, hk⟩ := aHas_nat g1
    obtain ⟨j, rfl, hj⟩ := aAsset_nat g2
    clear g1 g2
    have hc := h.cell hk hj
    have hf := h.row.free (k * 2 + j)
    have hg := h.ok.get k j
    cases h2 : cSubB (aGet xs k j) v
    · have H1 := Lib.hid h1
      clear h1
      go_enter Try.func33, Try.ntmps33
      go_wp2_with fail
      refine (ris_any h _ _).mono ?_
      rw [H1.out]
      rintro e w' ⟨rfl, rfl⟩
      go_wp2_with fail
      refine (rsub_any _ _ _ hg hv).mono ?_
      rintro e w' ⟨rfl, rfl⟩
      go_wp2_with fail
      go_ret
      have he : aTakeE n xs k j v = 4 := by rw [HE.out, if_pos H1.out, h2]; rfl
      exact ⟨ret_int he.symm, by rw [HP.out, he, if_neg (by decide)]; exact h, Chg.refl _ _⟩
    · have H1 := Lib.hid h1
      clear h1
      go_enter Try.func33, Try.ntmps33
      go_wp2_with fail
      refine (ris_any h _ _).mono ?_
      rw [H1.out]
      rintro e w' ⟨rfl, rfl⟩
      go_wp2_with fail
      refine (rsub_any _ _ _ hg hv).mono ?_
      rintro e w' ⟨rfl, rfl⟩
      go_wp2_with fail
      go_ret
      have he : aTakeE n xs k j v = 0 := by rw [HE.out, if_pos H1.out, h2]; rfl
      exact ⟨ret_int he.symm, by rw [HP.out, if_pos he]; exact h.stored hk hj (cSub_U hg hv), (Chg.refl _ _).setCell _ _ (by simp)⟩
  · have he : aTakeE n xs c a v = aErr n c a := by rw [HE.out, if_neg h1]
    have hne : (aErr n c a != 0) = true := by simpa using h1
    have H1 := Lib.hid h1
    have HE' := Lib.hid he
    clear h1 he
    go_enter Try.func33, Try.ntmps33
    go_wp2_with fail
    refine (ris_any h _ _).mono ?_
    rintro e w' ⟨rfl, rfl⟩
    go_wp2_with fail
    go_ret
    exact ⟨ret_int HE'.out.symm, by rw [HP.out, HE'.out, if_neg H1.out]; exact h, Chg.refl _ _⟩
theorem rnew_make {w : World} {c : Int} {n : Nat} (hn : aN c = n) (hd : (c < 0 ∧ n = 0) ∨ (c = 0 ∧ n = 0) ∨ (∃ k : Nat, c = k ∧ n = k ∧ 0 < k ∧ k < 1000) ∨ (c = 1000 ∧ n = 1000) ∨ (1000 < c ∧ n = 1000)) :
    Calls Try.prog 31 #[.int .i64 c] w fun e w' => ∃ b s, e = .returned (.pointer (some ⟨b, 0, none⟩)) ∧ RAcc w' b s n (zeros (n * 2)) ∧ Chg [] w w' ∧ w.heap.size ≤ s ∧ w.heap.size ≤ b := by
  obtain ⟨i0, hi, hz0, hz1, hz2⟩ := info_parts info_pair
  have HN := Lib.hid hn
  clear hn
  have : n ≤ 1000 := by omega
  have hlast : ∀ (w' : World), w'.ownsRow w.heap.size 75 2 (.slice (some ⟨w.heap.size, 0, none⟩) n n) n (madeCells (Value.agg #[.int .u64 0, .int .u64 0]).cells (n * 2)).toList → w.grownBy w' none →
      RAcc (w'.alloc (.cells #[.slice (some ⟨w.heap.size, 0, none⟩) n n] 78)) w'.heap.size w.heap.size n (zeros (n * 2)) ∧ Chg [] w (w'.alloc (.cells #[.slice (some ⟨w.heap.size, 0, none⟩) n n] 78)) ∧ w.heap.size < w'.heap.size := fun w' h1 h2 => by
    have hb := (own_blk h1).1
    have hlt := hb.lt
    rw [made_pair] at hb
    exact ⟨⟨zeros_ok _ this, by omega, ⟨n, Nat.le_refl _, by unfold maxLen; omega, Blk.new w' [.slice (some ⟨w.heap.size, 0, none⟩) n n] _⟩, (hb.alloc _).beg⟩, ((Chg.refl [] w).grown h2 (by simp)).alloc _, hlt⟩
  have HL := Lib.hid hlast
  clear hlast
  rcases hd with ⟨h1, rfl⟩ | ⟨rfl, rfl⟩ | ⟨k, rfl, rfl, h1, h2⟩ | ⟨rfl, rfl⟩ | ⟨h1, rfl⟩
  · go_enter Try.func31, Try.ntmps31
    go_wp2_with (at_make; refine wpList_make_full _ rfl (.tmp 5) (.tmp 5) 71 rfl w.heap.size 75 i0 (.agg #[.int .u64 0, .int .u64 0]) 2 Try.underlying71 hi hz0 hz1 .i64 .i64 _ _ 0 rfl rfl ?c1 ?c2 ?c3 ?c4 ?c5 ?_)
    case c1 => omega
    case c2 => omega
    case c3 => rw [hz2]; omega
    case c4 => unfold maxLen; omega
    case c5 => exact Nat.le_refl _
    intro w' g1 g2
    obtain ⟨h3, h4, h5⟩ := HL.out w' g1 g2
    clear g1 g2
    go_wp2_with fail
    go_ret
    exact ⟨_, _, rfl, h3, h4, Nat.le_refl _, Nat.le_of_lt h5⟩
  · go_enter Try.func31, Try.ntmps31
    go_wp2_with (at_make; refine wpList_make_full _ rfl (.tmp 5) (.tmp 5) 71 rfl w.heap.size 75 i0 (.agg #[.int .u64 0, .int .u64 0]) 2 Try.underlying71 hi hz0 hz1 .i64 .i64 _ _ 0 rfl rfl ?c1 ?c2 ?c3 ?c4 ?c5 ?_)
    case c1 => omega
    case c2 => omega
    case c3 => rw [hz2]; omega
    case c4 => unfold maxLen; omega
    case c5 => exact Nat.le_refl _
    intro w' g1 g2
    obtain ⟨h3, h4, h5⟩ := HL.out w' g1 g2
    clear g1 g2
    go_wp2_with fail
    go_ret
    exact ⟨_, _, rfl, h3, h4, Nat.le_refl _, Nat.le_of_lt h5⟩
  · go_enter Try.func31, Try.ntmps31
    go_wp2_with (at_make; refine wpList_make_full _ rfl (.tmp 5) (.tmp 5) 71 rfl w.heap.size 75 i0 (.agg #[.int .u64 0, .int .u64 0]) 2 Try.underlying71 hi hz0 hz1 .i64 .i64 _ _ n rfl rfl ?c1 ?c2 ?c3 ?c4 ?c5 ?_)
    case c1 => omega
    case c2 => omega
    case c3 => rw [hz2]; omega
    case c4 => unfold maxLen; omega
    case c5 => exact Nat.le_refl _
    intro w' g1 g2
    obtain ⟨h3, h4, h5⟩ := HL.out w' g1 g2
    clear g1 g2
    go_wp2_with fail
    go_ret
    exact ⟨_, _, rfl, h3, h4, Nat.le_refl _, Nat.le_of_lt h5⟩
  · go_enter Try.func31, Try.ntmps31
    go_wp2_with (at_make; refine wpList_make_full _ rfl (.tmp 5) (.tmp 5) 71 rfl w.heap.size 75 i0 (.agg #[.int .u64 0, .int .u64 0]) 2 Try.underlying71 hi hz0 hz1 .i64 .i64 _ _ 1000 rfl rfl ?c1 ?c2 ?c3 ?c4 ?c5 ?_)
    case c1 => omega
    case c2 => omega
    case c3 => rw [hz2]; omega
    case c4 => unfold maxLen; omega
    case c5 => exact Nat.le_refl _
    intro w' g1 g2
    obtain ⟨h3, h4, h5⟩ := HL.out w' g1 g2
    clear g1 g2
    go_wp2_with fail
    go_ret
    exact ⟨_, _, rfl, h3, h4, Nat.le_refl _, Nat.le_of_lt h5⟩
  · go_enter Try.func31, Try.ntmps31
    go_wp2_with (at_make; refine wpList_make_full _ rfl (.tmp 5) (.tmp 5) 71 rfl w.heap.size 75 i0 (.agg #[.int .u64 0, .int .u64 0]) 2 Try.underlying71 hi hz0 hz1 .i64 .i64 _ _ 1000 rfl rfl ?c1 ?c2 ?c3 ?c4 ?c5 ?_)
    case c1 => omega
    case c2 => omega
    case c3 => rw [hz2]; omega
    case c4 => unfold maxLen; omega
    case c5 => exact Nat.le_refl _
    intro w' g1 g2
    obtain ⟨h3, h4, h5⟩ := HL.out w' g1 g2
    clear g1 g2
    go_wp2_with fail
    go_ret
    exact ⟨_, _, rfl, h3, h4, Nat.le_refl _, Nat.le_of_lt h5⟩

/-- New. -/
theorem rnew_any (c : Int) (w : World) :
    Calls Try.prog 31 #[.int .i64 c] w fun e w' => ∃ b s, e = .returned (.pointer (some ⟨b, 0, none⟩)) ∧ RAcc w' b s (aN c) (zeros (aN c * 2)) ∧ Chg [] w w' ∧ w.heap.size ≤ s ∧ w.heap.size ≤ b := by
  refine rnew_make rfl ?_
  unfold aN
  by_cases h1 : c < 0
  · left; rw [if_pos (by omega)]; exact ⟨h1, rfl⟩
  by_cases h2 : c = 0
  · right; left; rw [if_pos (by omega)]; exact ⟨h2, rfl⟩
  by_cases h3 : c < 1000
  · right; right; left; rw [if_neg (by omega), if_pos h3]; exact ⟨c.toNat, by omega, rfl, by omega, by omega⟩
  by_cases h4 : c = 1000
  · right; right; right; left; rw [if_neg (by omega), if_neg h3]; exact ⟨h4, rfl⟩
  · right; right; right; right; rw [if_neg (by omega), if_neg h3]; exact ⟨by omega, rfl⟩
set_option maxHeartbeats 1000000 in
theorem rsumA_yes {w : World} {b s n : Nat} {xs : List Int} (h : RAcc w b s n xs) (a : Int) (ha : a = 0 ∨ a = 1) :
    Calls Try.prog 34 #[.pointer (some ⟨b, 0, none⟩), .int .i64 a] w fun e w' => e = .returned (.tuple #[.int .u64 (cSumN (aCol n xs a)), .bool (cSumB (aCol n xs a))]) ∧ Chg [] w w' := by
  obtain ⟨i0, hi, hz0, hz1, hz2⟩ := info_parts info_u64
  obtain ⟨cap, _, _, hb0⟩ := h.head
  have h0 := hb0.at (i := 0) rfl
  clear hb0
  have hA : Hid (aAsset a = true) := by show _ = _; unfold aAsset; simp; omega
  have hn := h.ok.most
  rcases ha with rfl | rfl
  · skip
    go_enter Try.func34, Try.ntmps34
    go_wp2_with fail
    go_loopw [6, 7] (fun v i wr => ∃ k : Nat, k ≤ n ∧ i = .int .i64 k ∧ Chg [] w wr ∧ wr.ownsRow w.heap.size 22 1 v k (colVals xs 0 k)) (fun _ i _ => n - (intOf i).toNat)
    case atStart => exact ⟨0, by omega, rfl, Chg.refl _ _, by simp [colVals, aCol], .inl ⟨rfl, rfl⟩⟩
    case round =>
      obtain ⟨k, hk, rfl, hc, hown⟩ := hrel
      have hr := h.chg hc (by simp) (by simp)
      have h0' := hc.cell h0 (by simp)
      by_cases hlt : k < n
      · have c0 : wr.cell? ⟨s, k * 2, none⟩ = some (.int .u64 (aGet xs k 0)) := hr.cell hlt (show 0 < 2 by omega)
        have c1 : wr.cell? ⟨s, k * 2 + 1, none⟩ = some (.int .u64 (aGet xs k 1)) := hr.cell hlt (show 1 < 2 by omega)
        go_wp2_with (at_builtin; refine wpList_append_own _ rfl (.tmp 23) (.tmp 33) 29 rfl w.heap.size 22 i0 (.int .u64 0) 1 8 Try.underlying29 hi hz0 hz1 hz2 rfl (by decide) _ _ _ rfl (hown.alloc _) ⟨wr.heap.size, 0, none⟩ 1 1 [.int .u64 (aGet xs k 0)] rfl rfl ?c1 ?c2 ?c3 ?c4 ?c5 ?_)
        case c1 => exact fun j u h => one_at _ _ _ rfl j u h
        case c2 => simp [Value.oneCell']
        case c3 => unfold maxLen; omega
        case c4 => omega
        case c5 => have := hc.size; simp; omega
        intro v' w1 hown1 hg1 _
        have hc1 : Chg [] w w1 := (hc.alloc _).grown hg1 (fun k hk => .inr (own_base hown k hk))
        rw [← colVals_snoc] at hown1
        clear hg1 c0 c1 hown hr
        have h0'' := hc1.cell h0 (by simp)
        clear hc
        go_wp2_with fail
        go_roundw
        case rel => exact ⟨k + 1, by omega, by go_num, hc1, hown1⟩
        case measure => simp [intOf]; omega
      · obtain rfl : k = n := by omega
        obtain ⟨a', c', rfl⟩ := own_slice hown
        have hrow : Row64 wr a' (aCol k xs 0) := row64_owned hown
        clear hown
        go_wp2_with fail
        refine (rsum_any _ _ _ (aCol k xs 0) _ (by simp [aCol]) (aCol_U h.ok k 0) (by simp [aCol]; omega) hrow).mono ?_
        rintro e w' ⟨rfl, rfl⟩
        go_wp2_with fail
        go_ret2
        exact ⟨rfl, hc⟩
  · skip
    go_enter Try.func34, Try.ntmps34
    go_wp2_with fail
    go_loopw [6, 7] (fun v i wr => ∃ k : Nat, k ≤ n ∧ i = .int .i64 k ∧ Chg [] w wr ∧ wr.ownsRow w.heap.size 22 1 v k (colVals xs 1 k)) (fun _ i _ => n - (intOf i).toNat)
    case atStart => exact ⟨0, by omega, rfl, Chg.refl _ _, by simp [colVals, aCol], .inl ⟨rfl, rfl⟩⟩
    case round =>
      obtain ⟨k, hk, rfl, hc, hown⟩ := hrel
      have hr := h.chg hc (by simp) (by simp)
      have h0' := hc.cell h0 (by simp)
      by_cases hlt : k < n
      · have c0 : wr.cell? ⟨s, k * 2, none⟩ = some (.int .u64 (aGet xs k 0)) := hr.cell hlt (show 0 < 2 by omega)
        have c1 : wr.cell? ⟨s, k * 2 + 1, none⟩ = some (.int .u64 (aGet xs k 1)) := hr.cell hlt (show 1 < 2 by omega)
        go_wp2_with (at_builtin; refine wpList_append_own _ rfl (.tmp 23) (.tmp 33) 29 rfl w.heap.size 22 i0 (.int .u64 0) 1 8 Try.underlying29 hi hz0 hz1 hz2 rfl (by decide) _ _ _ rfl (hown.alloc _) ⟨wr.heap.size, 0, none⟩ 1 1 [.int .u64 (aGet xs k 1)] rfl rfl ?c1 ?c2 ?c3 ?c4 ?c5 ?_)
        case c1 => exact fun j u h => one_at _ _ _ rfl j u h
        case c2 => simp [Value.oneCell']
        case c3 => unfold maxLen; omega
        case c4 => omega
        case c5 => have := hc.size; simp; omega
        intro v' w1 hown1 hg1 _
        have hc1 : Chg [] w w1 := (hc.alloc _).grown hg1 (fun k hk => .inr (own_base hown k hk))
        rw [← colVals_snoc] at hown1
        clear hg1 c0 c1 hown hr
        have h0'' := hc1.cell h0 (by simp)
        clear hc
        go_wp2_with fail
        go_roundw
        case rel => exact ⟨k + 1, by omega, by go_num, hc1, hown1⟩
        case measure => simp [intOf]; omega
      · obtain rfl : k = n := by omega
        obtain ⟨a', c', rfl⟩ := own_slice hown
        have hrow : Row64 wr a' (aCol k xs 1) := row64_owned hown
        clear hown
        go_wp2_with fail
        refine (rsum_any _ _ _ (aCol k xs 1) _ (by simp [aCol]) (aCol_U h.ok k 1) (by simp [aCol]; omega) hrow).mono ?_
        rintro e w' ⟨rfl, rfl⟩
        go_wp2_with fail
        go_ret2
        exact ⟨rfl, hc⟩

/-- (*Accounts).Sum. -/
theorem rsumA_any {w : World} {b s n : Nat} {xs : List Int} (h : RAcc w b s n xs) (a : Int) :
    Calls Try.prog 34 #[.pointer (some ⟨b, 0, none⟩), .int .i64 a] w fun e w' => e = .returned (.tuple #[.int .u64 (aSumN n xs a), .bool (aSumB n xs a)]) ∧ Chg [] w w' := by
  cases ha : aAsset a
  · have HN : Hid (aSumN n xs a = 0) := by show _ = _; unfold aSumN; rw [ha]; rfl
    have HB : Hid (aSumB n xs a = false) := by show _ = _; unfold aSumB; rw [ha]; rfl
    by_cases h3 : a < 0
    · clear ha
      go_enter Try.func34, Try.ntmps34
      go_wp2_with fail
      go_ret2
      exact ⟨ret_tup HN.out.symm HB.out.symm, Chg.refl _ _⟩
    · have d3 : decide (a < 0) = false := by simpa using h3
      have h4 : 1 < a := by unfold aAsset at ha; simp at ha; omega
      clear ha
      go_enter Try.func34, Try.ntmps34
      go_wp2_with fail
      go_ret2
      exact ⟨ret_tup HN.out.symm HB.out.symm, Chg.refl _ _⟩
  · obtain ⟨k, rfl, hk⟩ := aAsset_nat ha
    have e1 : aSumN n xs k = cSumN (aCol n xs k) := by unfold aSumN; rw [if_pos ha]
    have e2 : aSumB n xs k = cSumB (aCol n xs k) := by unfold aSumB; rw [ha]; rfl
    rw [e1, e2]
    exact rsumA_yes h k (by omega)
end Go.Proofs.Ytkjkkchpicehoaa
