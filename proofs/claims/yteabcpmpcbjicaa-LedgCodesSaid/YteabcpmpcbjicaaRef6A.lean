
import Derived.Test.YteabcpmpcbjicaaAcctA
import Derived.Test.YteabcpmpcbjicaaRef1
namespace Go.Proofs.Yteabcpmpcbjicaa
set_option linter.unusedVariables false
open Go Go.Proofs Go.RowKit

/-- Accounts in memory: the struct's block b, the row's block s. -/
structure RAcc (w : World) (b s n : Nat) (xs : List Int) : Prop where
  ok : AOk n xs
  ne : b ≠ s
  head : ∃ cap, n ≤ cap ∧ cap ≤ maxLen ∧ Blk w b 166 [.slice (some ⟨s, 0, none⟩) n cap]
  row : Beg w s 61 (xs.map (Value.int .u64))

theorem RAcc.chg {w w' : World} {b s n : Nat} {xs : List Int} {S : List Nat} (h : RAcc w b s n xs) (g : Chg S w w') (hb : b ∉ S) (hs : s ∉ S) : RAcc w' b s n xs := ⟨h.ok, h.ne, h.head.elim fun cap h1 => ⟨cap, h1.1, h1.2.1, h1.2.2.chg g hb⟩, h.row.chg g hs⟩
theorem RAcc.alloc {w : World} {b s n : Nat} {xs : List Int} (h : RAcc w b s n xs) (o : Obj) : RAcc (w.alloc o) b s n xs := ⟨h.ok, h.ne, h.head.elim fun cap h1 => ⟨cap, h1.1, h1.2.1, h1.2.2.alloc o⟩, h.row.alloc o⟩
theorem RAcc.drew {w : World} {b s n : Nat} {xs : List Int} (h : RAcc w b s n xs) : RAcc w.drew b s n xs := ⟨h.ok, h.ne, h.head, h.row⟩
theorem RAcc.drewN {w : World} {b s n : Nat} {xs : List Int} (h : RAcc w b s n xs) (m : Nat) : RAcc (w.drewN m) b s n xs := ⟨h.ok, h.ne, h.head, h.row⟩
/-- The cell of a client's asset. -/
theorem RAcc.cell {w : World} {b s n : Nat} {xs : List Int} (h : RAcc w b s n xs) {k j : Nat} (hk : k < n) (hj : j < 2) : w.cell? ⟨s, k * 2 + j, none⟩ = some (.int .u64 (aGet xs k j)) := by
  refine h.row.at ?_
  have := h.ok.len
  have hl : k * 2 + j < xs.length := by omega
  unfold aGet aAt
  simp [hl, List.getD]
theorem RAcc.stored {w : World} {b s n : Nat} {xs : List Int} (h : RAcc w b s n xs) {k j : Nat} (hk : k < n) (hj : j < 2) {v : Int} (hv : U v) : RAcc (w.setCell ⟨s, k * 2 + j, none⟩ (.int .u64 v)) b s n (xs.set (aAt k j) v) :=
  ⟨h.ok.set _ hv, h.ne, h.head.elim fun cap h1 => ⟨cap, h1.1, h1.2.1, h1.2.2.put _ _ h.ne⟩, by have := h.row.set (k * 2 + j) (.int .u64 v) (by have := h.ok.len; simp; omega); unfold aAt; rw [List.map_set]; exact this⟩

/-- (*Accounts).is. -/
theorem ris_any {w : World} {b s n : Nat} {xs : List Int} (h : RAcc w b s n xs) (c a : Int) :
    Calls Try.prog 95 #[.pointer (some ⟨b, 0, none⟩), .int .i64 c, .int .i64 a] w fun e w' => e = .returned (.int .i64 (aErr n c a)) ∧ w = w' := by
  obtain ⟨cap, _, _, hb0⟩ := h.head
  have h0 := hb0.at (i := 0) rfl
  clear hb0
  have hn := h.ok.most
  have HE : Hid (aErr n c a = if aHas n c = true then (if aAsset a = true then 0 else 3) else 2) := rfl
  by_cases h1 : c < 0
  · have HF : Hid (aHas n c = false) := by show _ = _; unfold aHas; simp; omega
    go_enter Try.func95, Try.ntmps95
    go_wp2
    go_ret
    exact ⟨ret_int (by rw [HE.out, HF.out]; rfl), rfl⟩
  have d1 : decide (c < 0) = false := by simpa using h1
  by_cases h2 : (n : Int) ≤ c
  · have HF : Hid (aHas n c = false) := by show _ = _; unfold aHas; simp; omega
    go_enter Try.func95, Try.ntmps95
    go_wp2
    go_ret
    exact ⟨ret_int (by rw [HE.out, HF.out]; rfl), rfl⟩
  have HF : Hid (aHas n c = true) := by show _ = _; unfold aHas; simp; omega
  by_cases h3 : a < 0
  · have HG : Hid (aAsset a = false) := by show _ = _; unfold aAsset; simp; omega
    go_enter Try.func95, Try.ntmps95
    go_wp2
    go_ret
    exact ⟨ret_int (by rw [HE.out, HF.out, HG.out]; rfl), rfl⟩
  have d3 : decide (a < 0) = false := by simpa using h3
  by_cases h4 : 1 < a
  · have HG : Hid (aAsset a = false) := by show _ = _; unfold aAsset; simp; omega
    go_enter Try.func95, Try.ntmps95
    go_wp2
    go_ret
    exact ⟨ret_int (by rw [HE.out, HF.out, HG.out]; rfl), rfl⟩
  · have HG : Hid (aAsset a = true) := by show _ = _; unfold aAsset; simp; omega
    go_enter Try.func95, Try.ntmps95
    go_wp2
    go_ret
    exact ⟨ret_int (by rw [HE.out, HF.out, HG.out]; rfl), rfl⟩

/-- (*Accounts).Free. -/
theorem rfree_any {w : World} {b s n : Nat} {xs : List Int} (h : RAcc w b s n xs) (c a : Int) :
    Calls Try.prog 49 #[.pointer (some ⟨b, 0, none⟩), .int .i64 c, .int .i64 a] w fun e w' => e = .returned (.int .u64 (aFree n xs c a)) ∧ w = w' := by
  obtain ⟨cap, _, _, hb0⟩ := h.head
  have h0 := hb0.at (i := 0) rfl
  clear hb0
  have HF : Hid (aFree n xs c a = if aErr n c a = 0 then aGet xs c a else 0) := rfl
  by_cases h1 : aErr n c a = 0
  · obtain ⟨g1, g2⟩ := aErr_zero h1
    obtain ⟨k, rfl, hk⟩ := aHas_nat g1
    obtain ⟨j, rfl, hj⟩ := aAsset_nat g2
    clear g1 g2
    have hc := h.cell hk hj
    have H1 := Lib.hid h1
    clear h1
    go_enter Try.func49, Try.ntmps49
    go_wp2_with fail
    refine (ris_any h _ _).mono ?_
    rw [H1.out]
    rintro e w' ⟨rfl, rfl⟩
    go_wp2_with fail
    go_ret
    exact ⟨ret_int (by rw [HF.out, if_pos H1.out]), rfl⟩
  · have hne : (aErr n c a != 0) = true := by simpa using h1
    have H1 := Lib.hid h1
    clear h1
    go_enter Try.func49, Try.ntmps49
    go_wp2_with fail
    refine (ris_any h _ _).mono ?_
    rintro e w' ⟨rfl, rfl⟩
    go_wp2_with fail
    go_ret
    exact ⟨ret_int (by rw [HF.out, if_neg H1.out]), rfl⟩
/-- (*Accounts).Put. -/
theorem rput_any {w : World} {b s n : Nat} {xs : List Int} (h : RAcc w b s n xs) (c a v : Int) (hv : U v) :
    Calls Try.prog 44 #[.pointer (some ⟨b, 0, none⟩), .int .i64 c, .int .i64 a, .int .u64 v] w fun e w' => e = .returned (.int .i64 (aPutE n xs c a v)) ∧ RAcc w' b s n (aPut n xs c a v) ∧ Chg [s] w w' := by
  obtain ⟨cap, _, _, hb0⟩ := h.head
  have h0 := hb0.at (i := 0) rfl
  clear hb0
  have HE : Hid (aPutE n xs c a v = if aErr n c a = 0 then (if cAddB (aGet xs c a) v = true then 0 else 5) else aErr n c a) := rfl
  have HP : Hid (aPut n xs c a v = if aPutE n xs c a v = 0 then xs.set (aAt c a) (cAddN (aGet xs c a) v) else xs) := rfl
  by_cases h1 : aErr n c a = 0
  · obtain ⟨g1, g2⟩ := aErr_zero h1
    obtain ⟨k, rfl, hk⟩ := aHas_nat g1
    obtain ⟨j, rfl, hj⟩ := aAsset_nat g2
    clear g1 g2
    have hc := h.cell hk hj
    have hf := h.row.free (k * 2 + j)
    have hg := h.ok.get k j
    cases h2 : cAddB (aGet xs k j) v
    · have H1 := Lib.hid h1
      clear h1
      go_enter Try.func44, Try.ntmps44
      go_wp2_with fail
      refine (ris_any h _ _).mono ?_
      rw [H1.out]
      rintro e w' ⟨rfl, rfl⟩
      go_wp2_with fail
      refine (radd_any _ _ _ hg hv).mono ?_
      rintro e w' ⟨rfl, rfl⟩
      go_wp2_with fail
      go_ret
      have he : aPutE n xs k j v = 5 := by rw [HE.out, if_pos H1.out, h2]; rfl
      exact ⟨ret_int he.symm, by rw [HP.out, he, if_neg (by decide)]; exact h, Chg.refl _ _⟩
    · have H1 := Lib.hid h1
      clear h1
      go_enter Try.func44, Try.ntmps44
      go_wp2_with fail
      refine (ris_any h _ _).mono ?_
      rw [H1.out]
      rintro e w' ⟨rfl, rfl⟩
      go_wp2_with fail
      refine (radd_any _ _ _ hg hv).mono ?_
      rintro e w' ⟨rfl, rfl⟩
      go_wp2_with fail
      go_ret
      have he : aPutE n xs k j v = 0 := by rw [HE.out, if_pos H1.out, h2]; rfl
      exact ⟨ret_int he.symm, by rw [HP.out, if_pos he]; exact h.stored hk hj (cAdd_U hg hv), (Chg.refl _ _).setCell _ _ (by simp)⟩
  · have he : aPutE n xs c a v = aErr n c a := by rw [HE.out, if_neg h1]
    have hne : (aErr n c a != 0) = true := by simpa using h1
    have H1 := Lib.hid h1
    have HE' := Lib.hid he
    clear h1 he
    go_enter Try.func44, Try.ntmps44
    go_wp2_with fail
    refine (ris_any h _ _).mono ?_
    rintro e w' ⟨rfl, rfl⟩
    go_wp2_with fail
    go_ret
    exact ⟨ret_int HE'.out.symm, by rw [HP.out, HE'.out, if_neg H1.out]; exact h, Chg.refl _ _⟩

/-- (*Accounts).Take. -/
theorem rtake_any {w : World} {b s n : Nat} {xs : List Int} (h : RAcc w b s n xs) (c a v : Int) (hv : U v) :
    Calls Try.prog 101 #[.pointer (some ⟨b, 0, none⟩), .int .i64 c, .int .i64 a, .int .u64 v] w fun e w' => e = .returned (.int .i64 (aTakeE n xs c a v)) ∧ RAcc w' b s n (aTake n xs c a v) ∧ Chg [s] w w' := by
  obtain ⟨cap, _, _, hb0⟩ := h.head
  have h0 := hb0.at (i := 0) rfl
  clear hb0
  have HE : Hid (aTakeE n xs c a v = if aErr n c a = 0 then (if cSubB (aGet xs c a) v = true then 0 else 4) else aErr n c a) := rfl
  have HP : Hid (aTake n xs c a v = if aTakeE n xs c a v = 0 then xs.set (aAt c a) (cSubN (aGet xs c a) v) else xs) := rfl
  by_cases h1 : aErr n c a = 0
  · obtain ⟨g1, g2⟩ := aErr_zero h1
    obtain ⟨k, rfl, hk⟩ := aHas_nat g1
    obtain ⟨j, rfl, hj⟩ := aAsset_nat g2
    clear g1 g2
    have hc := h.cell hk hj
    have hf := h.row.free (k * 2 + j)
    have hg := h.ok.get k j
    cases h2 : cSubB (aGet xs k j) v
    · have H1 := Lib.hid h1
      clear h1
      go_enter Try.func101, Try.ntmps101
      go_wp2_with fail
      refine (ris_any h _ _).mono ?_
      rw [H1.out]
      rintro e w' ⟨rfl, rfl⟩
      go_wp2_with fail
      refine (rsub_any _ _ _ hg hv).mono ?_
      rintro e w' ⟨rfl, rfl⟩
      go_wp2_with fail
      go_ret
      have he : aTakeE n xs k j v = 4 := by rw [HE.out, if_pos H1.out, h2]; rfl
      exact ⟨ret_int he.symm, by rw [HP.out, he, if_neg (by decide)]; exact h, Chg.refl _ _⟩
    · have H1 := Lib.hid h1
      clear h1
      go_enter Try.func101, Try.ntmps101
      go_wp2_with fail
      refine (ris_any h _ _).mono ?_
      rw [H1.out]
      rintro e w' ⟨rfl, rfl⟩
      go_wp2_with fail
      refine (rsub_any _ _ _ hg hv).mono ?_
      rintro e w' ⟨rfl, rfl⟩
      go_wp2_with fail
      go_ret
      have he : aTakeE n xs k j v = 0 := by rw [HE.out, if_pos H1.out, h2]; rfl
      exact ⟨ret_int he.symm, by rw [HP.out, if_pos he]; exact h.stored hk hj (cSub_U hg hv), (Chg.refl _ _).setCell _ _ (by simp)⟩
  · have he : aTakeE n xs c a v = aErr n c a := by rw [HE.out, if_neg h1]
    have hne : (aErr n c a != 0) = true := by simpa using h1
    have H1 := Lib.hid h1
    have HE' := Lib.hid he
    clear h1 he
    go_enter Try.func101, Try.ntmps101
    go_wp2_with fail
    refine (ris_any h _ _).mono ?_
    rintro e w' ⟨rfl, rfl⟩
    go_wp2_with fail
    go_ret
    exact ⟨ret_int HE'.out.symm, by rw [HP.out, HE'.out, if_neg H1.out]; exact h, Chg.refl _ _⟩
theorem rnew_make {w : World} {c : Int} {n : Nat} (hn : aN c = n) (hd : (c < 0 ∧ n = 0) ∨ (c = 0 ∧ n = 0) ∨ (∃ k : Nat, c = k ∧ n = k ∧ 0 < k ∧ k < 1000) ∨ (c = 1000 ∧ n = 1000) ∨ (1000 < c ∧ n = 1000)) :
    Calls Try.prog 43 #[.int .i64 c] w fun e w' => ∃ b s, e = .returned (.pointer (some ⟨b, 0, none⟩)) ∧ RAcc w' b s n (zeros (n * 2)) ∧ Chg [] w w' ∧ w.heap.size ≤ s ∧ w.heap.size ≤ b := by
  obtain ⟨i0, hi, hz0, hz1, hz2⟩ := info_parts info_pair
  have HN := Lib.hid hn
  clear hn
  have : n ≤ 1000 := by omega
  have hlast : ∀ (w' : World), w'.ownsRow w.heap.size 61 2 (.slice (some ⟨w.heap.size, 0, none⟩) n n) n (madeCells (Value.agg #[.int .u64 0, .int .u64 0]).cells (n * 2)).toList → w.grownBy w' none →
      RAcc (w'.alloc (.cells #[.slice (some ⟨w.heap.size, 0, none⟩) n n] 166)) w'.heap.size w.heap.size n (zeros (n * 2)) ∧ Chg [] w (w'.alloc (.cells #[.slice (some ⟨w.heap.size, 0, none⟩) n n] 166)) ∧ w.heap.size < w'.heap.size := fun w' h1 h2 => by
    have hb := (own_blk h1).1
    have hlt := hb.lt
    rw [made_pair] at hb
    exact ⟨⟨zeros_ok _ this, by omega, ⟨n, Nat.le_refl _, by unfold maxLen; omega, Blk.new w' [.slice (some ⟨w.heap.size, 0, none⟩) n n] _⟩, (hb.alloc _).beg⟩, ((Chg.refl [] w).grown h2 (by simp)).alloc _, hlt⟩
  have HL := Lib.hid hlast
  clear hlast
  rcases hd with ⟨h1, rfl⟩ | ⟨rfl, rfl⟩ | ⟨k, rfl, rfl, h1, h2⟩ | ⟨rfl, rfl⟩ | ⟨h1, rfl⟩
  · go_enter Try.func43, Try.ntmps43
    go_wp2_with (at_make; refine wpList_make_full _ rfl (.tmp 5) (.tmp 5) 145 rfl w.heap.size 61 i0 (.agg #[.int .u64 0, .int .u64 0]) 2 Try.underlying145 hi hz0 hz1 .i64 .i64 _ _ 0 rfl rfl ?c1 ?c2 ?c3 ?c4 ?c5 ?_)
    case c1 => omega
    case c2 => omega
    case c3 => rw [hz2]; omega
    case c4 => unfold maxLen; omega
    case c5 => exact Nat.le_refl _
    intro w' g1 g2
    obtain ⟨h3, h4, h5⟩ := HL.out w' g1 g2
    clear g1 g2
    go_wp2_with fail
    go_ret
    exact ⟨_, _, rfl, h3, h4, Nat.le_refl _, Nat.le_of_lt h5⟩
  · go_enter Try.func43, Try.ntmps43
    go_wp2_with (at_make; refine wpList_make_full _ rfl (.tmp 5) (.tmp 5) 145 rfl w.heap.size 61 i0 (.agg #[.int .u64 0, .int .u64 0]) 2 Try.underlying145 hi hz0 hz1 .i64 .i64 _ _ 0 rfl rfl ?c1 ?c2 ?c3 ?c4 ?c5 ?_)
    case c1 => omega
    case c2 => omega
    case c3 => rw [hz2]; omega
    case c4 => unfold maxLen; omega
    case c5 => exact Nat.le_refl _
    intro w' g1 g2
    obtain ⟨h3, h4, h5⟩ := HL.out w' g1 g2
    clear g1 g2
    go_wp2_with fail
    go_ret
    exact ⟨_, _, rfl, h3, h4, Nat.le_refl _, Nat.le_of_lt h5⟩
  · go_enter Try.func43, Try.ntmps43
    go_wp2_with (at_make; refine wpList_make_full _ rfl (.tmp 5) (.tmp 5) 145 rfl w.heap.size 61 i0 (.agg #[.int .u64 0, .int .u64 0]) 2 Try.underlying145 hi hz0 hz1 .i64 .i64 _ _ n rfl rfl ?c1 ?c2 ?c3 ?c4 ?c5 ?_)
    case c1 => omega
    case c2 => omega
    case c3 => rw [hz2]; omega
    case c4 => unfold maxLen; omega
    case c5 => exact Nat.le_refl _
    intro w' g1 g2
    obtain ⟨h3, h4, h5⟩ := HL.out w' g1 g2
    clear g1 g2
    go_wp2_with fail
    go_ret
    exact ⟨_, _, rfl, h3, h4, Nat.le_refl _, Nat.le_of_lt h5⟩
  · go_enter Try.func43, Try.ntmps43
    go_wp2_with (at_make; refine wpList_make_full _ rfl (.tmp 5) (.tmp 5) 145 rfl w.heap.size 61 i0 (.agg #[.int .u64 0, .int .u64 0]) 2 Try.underlying145 hi hz0 hz1 .i64 .i64 _ _ 1000 rfl rfl ?c1 ?c2 ?c3 ?c4 ?c5 ?_)
    case c1 => omega
    case c2 => omega
    case c3 => rw [hz2]; omega
    case c4 => unfold maxLen; omega
    case c5 => exact Nat.le_refl _
    intro w' g1 g2
    obtain ⟨h3, h4, h5⟩ := HL.out w' g1 g2
    clear g1 g2
    go_wp2_with fail
    go_ret
    exact ⟨_, _, rfl, h3, h4, Nat.le_refl _, Nat.le_of_lt h5⟩
  · go_enter Try.func43, Try.ntmps43
    go_wp2_with (at_make; refine wpList_make_full _ rfl (.tmp 5) (.tmp 5) 145 rfl w.heap.size 61 i0 (.agg #[.int .u64 0, .int .u64 0]) 2 Try.underlying145 hi hz0 hz1 .i64 .i64 _ _ 1000 rfl rfl ?c1 ?c2 ?c3 ?c4 ?c5 ?_)
    case c1 => omega
    case c2 => omega
    case c3 => rw [hz2]; omega
    case c4 => unfold maxLen; omega
    case c5 => exact Nat.le_refl _
    intro w' g1 g2
    obtain ⟨h3, h4, h5⟩ := HL.out w' g1 g2
    clear g1 g2
    go_wp2_with fail
    go_ret
    exact ⟨_, _, rfl, h3, h4, Nat.le_refl _, Nat.le_of_lt h5⟩

/-- New. -/
theorem rnew_any (c : Int) (w : World) :
    Calls Try.prog 43 #[.int .i64 c] w fun e w' => ∃ b s, e = .returned (.pointer (some ⟨b, 0, none⟩)) ∧ RAcc w' b s (aN c) (zeros (aN c * 2)) ∧ Chg [] w w' ∧ w.heap.size ≤ s ∧ w.heap.size ≤ b := by
  refine rnew_make rfl ?_
  unfold aN
  by_cases h1 : c < 0
  · left; rw [if_pos (by omega)]; exact ⟨h1, rfl⟩
  by_cases h2 : c = 0
  · right; left; rw [if_pos (by omega)]; exact ⟨h2, rfl⟩
  by_cases h3 : c < 1000
  · right; right; left; rw [if_neg (by omega), if_pos h3]; exact ⟨c.toNat, by omega, rfl, by omega, by omega⟩
  by_cases h4 : c = 1000
  · right; right; right; left; rw [if_neg (by omega), if_neg h3]; exact ⟨h4, rfl⟩
  · right; right; right; right; rw [if_neg (by omega), if_neg h3]; exact ⟨by omega, rfl⟩
end Go.Proofs.Yteabcpmpcbjicaa
