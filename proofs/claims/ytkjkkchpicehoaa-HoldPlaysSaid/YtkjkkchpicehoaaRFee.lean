import Derived.Test.YtkjkkchpicehoaaRef6A
import Derived.Test.YtkjkkchpicehoaaAcct5
import Derived.Test.YtkjkkchpicehoaaHold
namespace Go.Proofs.Ytkjkkchpicehoaa
set_option linter.unusedVariables false
open Go Go.Proofs Go.RowKit Go.Maps

/-- What a row of numbers holds of a client. -/
def fOf (n : Nat) (hs : List Int) : Int → Int := fun c => if 0 ≤ c ∧ c < n then hs.getD c.toNat 0 else 0
theorem fOf_set {n : Nat} {hs : List Int} (hl : hs.length = n) {k : Nat} (hk : k < n) (v : Int) : fOf n (hs.set k v) = upd (fOf n hs) k v := by
  funext x
  simp only [fOf, upd]
  by_cases e : x = k
  · subst e
    rw [if_pos ⟨by omega, by omega⟩, if_pos rfl]
    simp [List.getD, hl, hk]
  · rw [if_neg e]
    by_cases h : 0 ≤ x ∧ x < n
    · rw [if_pos h, if_pos h]
      have : k ≠ x.toNat := by omega
      simp [List.getD, this]
    · rw [if_neg h, if_neg h]
theorem fOf_at {n : Nat} {hs : List Int} {k : Nat} (hk : k < n) : fOf n hs k = hs.getD k 0 := by unfold fOf; rw [if_pos ⟨by omega, by omega⟩]; simp
theorem upd_self (f : Int → Int) (c v : Int) (h : f c = v) : upd f c v = f := by
  funext x; unfold upd; split
  · subst_vars; rfl
  · rfl

/-- The reference's fees in memory: the struct's block fb, the row's block hb, its accounts. -/
structure RFee (w : World) (fb hb b s n : Nat) (xs : List Int) (hs : List Int) (got : Int) : Prop where
  acc : RAcc w b s n xs
  hd : Blk w fb 66 [.pointer (some ⟨b, 0, none⟩), .slice (some ⟨hb, 0, none⟩) n n, .int .u64 got]
  row : Beg w hb 22 (hs.map (Value.int .u64))
  len : hs.length = n
  all : ∀ x ∈ hs, U x
  ne : fb ≠ b ∧ fb ≠ s ∧ fb ≠ hb ∧ hb ≠ b ∧ hb ≠ s
  ug : U got

theorem RFee.chg {w w' : World} {fb hb b s n : Nat} {xs hs : List Int} {got : Int} {S : List Nat} (h : RFee w fb hb b s n xs hs got) (g : Chg S w w') (h1 : fb ∉ S) (h2 : hb ∉ S) (h3 : b ∉ S) (h4 : s ∉ S) : RFee w' fb hb b s n xs hs got :=
  ⟨h.acc.chg g h3 h4, h.hd.chg g h1, h.row.chg g h2, h.len, h.all, h.ne, h.ug⟩
theorem RFee.drewN {w : World} {fb hb b s n : Nat} {xs hs : List Int} {got : Int} (h : RFee w fb hb b s n xs hs got) (k : Nat) : RFee (w.drewN k) fb hb b s n xs hs got := ⟨h.acc.drewN k, h.hd, h.row, h.len, h.all, h.ne, h.ug⟩
theorem RFee.f_U {w : World} {fb hb b s n : Nat} {xs hs : List Int} {got : Int} (h : RFee w fb hb b s n xs hs got) (c : Int) : U (fOf n hs c) := by
  unfold fOf; split
  · rw [List.getD]
    cases e : hs[c.toNat]? with
    | none => exact ⟨by simp, by simp⟩
    | some v => exact h.all _ (List.mem_of_getElem? e)
  · simp [U]
theorem RFee.cell {w : World} {fb hb b s n : Nat} {xs hs : List Int} {got : Int} (h : RFee w fb hb b s n xs hs got) {k : Nat} (hk : k < n) : w.cell? ⟨hb, k, none⟩ = some (.int .u64 (fOf n hs k)) := by
  refine h.row.at ?_
  have := h.len
  rw [fOf_at hk]
  simp [List.getD, this, hk]
theorem mem_set {hs : List Int} {k : Nat} {v : Int} (h : ∀ x ∈ hs, U x) (hv : U v) : ∀ x ∈ hs.set k v, U x := fun x hx => by
  rcases List.mem_or_eq_of_mem_set hx with h1 | h1
  · exact h _ h1
  · exact h1 ▸ hv
theorem fOf_nat {n : Nat} {hs : List Int} {c : Int} (h : fOf n hs c ≠ 0) : ∃ k : Nat, c = k ∧ k < n := by
  unfold fOf at h; split at h
  · exact ⟨c.toNat, by omega, by omega⟩
  · exact absurd rfl h

/-- Of. -/
theorem rof_any {w : World} {fb hb b s n : Nat} {xs hs : List Int} {got : Int} (h : RFee w fb hb b s n xs hs got) (c : Int) :
    Calls Try.prog 47 #[.pointer (some ⟨fb, 0, none⟩), .int .i64 c] w fun e w' => e = .returned (.int .u64 (fOf n hs c)) ∧ w = w' := by
  have h1 := h.hd.at (i := 1) rfl
  have hn := h.acc.ok.most
  by_cases g1 : c < 0
  · have HF : Hid (fOf n hs c = 0) := by show _ = _; unfold fOf; rw [if_neg (by omega)]
    go_enter Try.func47, Try.ntmps47
    go_wp2
    go_ret
    exact ⟨ret_int HF.out.symm, rfl⟩
  have d1 : decide (c < 0) = false := by simpa using g1
  by_cases g2 : (n : Int) ≤ c
  · have HF : Hid (fOf n hs c = 0) := by show _ = _; unfold fOf; rw [if_neg (by omega)]
    go_enter Try.func47, Try.ntmps47
    go_wp2
    go_ret
    exact ⟨ret_int HF.out.symm, rfl⟩
  · obtain ⟨k, rfl⟩ : ∃ k : Nat, c = k := ⟨c.toNat, by omega⟩
    have hc := h.cell (k := k) (by omega)
    go_enter Try.func47, Try.ntmps47
    go_wp2
    go_ret
    exact ⟨rfl, rfl⟩

theorem made_u64 (n : Nat) : (madeCells (Value.int .u64 0).cells (n * 1)).toList = (zeros n).map (Value.int .u64) := by
  apply List.ext_getElem
  · simp [madeCells, zeros]
  · intro i h1 h2
    simp [madeCells, zeros, Value.cells, Nat.mod_one]
/-- NewFees. -/
theorem rfeeNew_any {w : World} {b s n : Nat} {xs : List Int} (h : RAcc w b s n xs) :
    Calls Try.prog 43 #[.pointer (some ⟨b, 0, none⟩)] w fun e w' => ∃ fb hb, e = .returned (.pointer (some ⟨fb, 0, none⟩)) ∧ RFee w' fb hb b s n xs (zeros n) 0 ∧ Chg [] w w' ∧ w.heap.size ≤ fb ∧ w.heap.size ≤ hb := by
  obtain ⟨i0, hi, hz0, hz1, hz2⟩ := info_parts info_u64
  obtain ⟨cap, _, _, hb0⟩ := h.head
  have h0 := hb0.at (i := 0) rfl
  have hlb := hb0.lt
  have hls := h.row.lt
  clear hb0
  have hn := h.ok.most
  have hlast : ∀ (w' : World), w'.ownsRow w.heap.size 22 1 (.slice (some ⟨w.heap.size, 0, none⟩) n n) n (madeCells #[Value.int .u64 0] n).toList → w.grownBy w' none →
      RFee (w'.alloc (.cells #[.pointer (some ⟨b, 0, none⟩), .slice (some ⟨w.heap.size, 0, none⟩) n n, .int .u64 0] 66)) w'.heap.size w.heap.size b s n xs (zeros n) 0 ∧ Chg [] w (w'.alloc (.cells #[.pointer (some ⟨b, 0, none⟩), .slice (some ⟨w.heap.size, 0, none⟩) n n, .int .u64 0] 66)) ∧ w.heap.size < w'.heap.size := fun w' g1 g2 => by
    have hb := (own_blk g1).1
    have hlt := hb.lt
    have hm := made_u64 n
    rw [Nat.mul_one] at hm
    rw [show (#[Value.int .u64 0] : Array Value) = (Value.int .u64 0).cells from rfl, hm] at hb
    have hc : Chg [] w w' := (Chg.refl [] w).grown g2 (by simp)
    exact ⟨⟨(h.chg hc (by simp) (by simp)).alloc _, Blk.new w' [.pointer (some ⟨b, 0, none⟩), .slice (some ⟨w.heap.size, 0, none⟩) n n, .int .u64 0] _, (hb.alloc _).beg, by simp [zeros], fun x hx => by rw [List.eq_of_mem_replicate hx]; simp [U], ⟨by omega, by omega, by omega, by omega, by omega⟩, by simp [U]⟩, hc.alloc _, hlt⟩
  have HL := Lib.hid hlast
  clear hlast
  go_enter Try.func43, Try.ntmps43
  go_wp2_with (at_make; refine wpList_make_full _ rfl (.tmp 8) (.tmp 8) 29 rfl w.heap.size 22 i0 (.int .u64 0) 1 Try.underlying29 hi hz0 hz1 .i64 .i64 _ _ n rfl rfl rfl rfl ?c3 ?c4 ?c5 ?_)
  case c3 => rw [hz2]; omega
  case c4 => unfold maxLen; omega
  case c5 => exact Nat.le_refl _
  intro w' g1 g2
  obtain ⟨h3, h4, h5⟩ := HL.out w' g1 g2
  clear g1 g2
  go_wp2_with fail
  go_ret
  exact ⟨_, _, rfl, h3, h4, Nat.le_of_lt h5, Nat.le_refl _⟩

set_option maxHeartbeats 2000000 in
/-- Forfeit. -/
theorem rforfeit_any {w : World} {fb hb b s n : Nat} {xs hs : List Int} {got : Int} (h : RFee w fb hb b s n xs hs got) (c : Int) :
    Calls Try.prog 45 #[.pointer (some ⟨fb, 0, none⟩), .int .i64 c] w fun e w' => ∃ hs', e = .returned (.int .u64 (fV (fOf n hs) got c)) ∧ RFee w' fb hb b s n xs hs' (fGot (fOf n hs) got c) ∧ fOf n hs' = fF (fOf n hs) got c ∧ Chg [fb, hb, s] w w' := by
  have k1 := h.hd.at (i := 1) rfl
  have k2 := h.hd.at (i := 2) rfl
  have fr := h.hd.free 2
  obtain ⟨d1, d2, d3, d4, d5⟩ := h.ne
  have uf := h.f_U c
  by_cases h0 : fOf n hs c = 0
  · have b1 : cAddB got (fOf n hs c) = true := by have := h.ug.2; rw [h0]; unfold cAddB; simp; omega
    have R : Hid (fV (fOf n hs) got c = 0) := by show _ = _; unfold fV; rw [if_pos b1, h0]
    have G : Hid (fGot (fOf n hs) got c = got) := by have := h.ug.2; show _ = _; unfold fGot; rw [if_pos b1, h0]; unfold cAddN; rw [if_pos (by omega)]; omega
    have FF : Hid (fF (fOf n hs) got c = fOf n hs) := by show _ = _; unfold fF; rw [if_pos b1]; exact upd_self _ _ _ h0
    have H0 := Lib.hid h0
    clear h0 b1
    go_enter Try.func45, Try.ntmps45
    go_wp2_with fail
    refine (rof_any h c).mono ?_
    rw [H0.out]
    rintro e w' ⟨rfl, rfl⟩
    go_wp2_with fail
    refine (radd_any got 0 _ h.ug (by simp [U])).mono ?_
    rintro e w' ⟨rfl, rfl⟩
    go_wp2_with fail
    go_ret
    exact ⟨hs, ret_int R.out.symm, by rw [G.out]; exact h, FF.out.symm, Chg.refl _ _⟩
  · obtain ⟨k, rfl, hk⟩ := fOf_nat h0
    have hne : (fOf n hs k == 0) = false := by simpa using h0
    cases hb1 : cAddB got (fOf n hs k)
    · have R : Hid (fV (fOf n hs) got k = 0) := by show _ = _; unfold fV; rw [hb1]; rfl
      have G : Hid (fGot (fOf n hs) got k = got) := by show _ = _; unfold fGot; rw [hb1]; rfl
      have FF : Hid (fF (fOf n hs) got k = fOf n hs) := by show _ = _; unfold fF; rw [hb1]; rfl
      clear h0
      go_enter Try.func45, Try.ntmps45
      go_wp2_with fail
      refine (rof_any h k).mono ?_
      rintro e w' ⟨rfl, rfl⟩
      go_wp2_with fail
      refine (radd_any got _ _ h.ug uf).mono ?_
      rintro e w' ⟨rfl, rfl⟩
      go_wp2_with fail
      go_ret
      exact ⟨hs, ret_int R.out.symm, by rw [G.out]; exact h, FF.out.symm, Chg.refl _ _⟩
    · have R : Hid (fV (fOf n hs) got k = fOf n hs k) := by show _ = _; unfold fV; rw [if_pos hb1]
      have G : Hid (fGot (fOf n hs) got k = cAddN got (fOf n hs k)) := by show _ = _; unfold fGot; rw [if_pos hb1]
      have FF : Hid (fF (fOf n hs) got k = fOf n (hs.set k 0)) := by show _ = _; unfold fF; rw [if_pos hb1, fOf_set h.len hk]
      clear h0
      have hst := h.hd.set 2 (.int .u64 (cAddN got (fOf n hs k)))
      have hrow := h.row.put ⟨fb, 2, none⟩ (.int .u64 (cAddN got (fOf n hs k))) (by simp; omega)
      have hcell := h.cell hk
      have hc2 : (w.setCell ⟨fb, 2, none⟩ (.int .u64 (cAddN got (fOf n hs k)))).cell? ⟨hb, k, none⟩ = some (.int .u64 (fOf n hs k)) := hrow.at (by have := h.len; rw [fOf_at hk]; simp [List.getD, this, hk])
      have hfz := hrow.free k
      have hkn : (k : Int) < n := by omega
      go_enter Try.func45, Try.ntmps45
      go_wp2_with fail
      refine (rof_any h k).mono ?_
      rintro e w' ⟨rfl, rfl⟩
      go_wp2_with fail
      refine (radd_any got _ _ h.ug uf).mono ?_
      rintro e w' ⟨rfl, rfl⟩
      go_wp2_with fail
      go_ret
      have hc : Chg [fb, hb, s] w (w.setCell ⟨fb, 2, none⟩ (.int .u64 (cAddN got (fOf n hs k)))) := (Chg.refl _ _).setCell _ _ (by simp)
      refine ⟨hs.set k 0, ret_int R.out.symm, ?_, FF.out.symm, hc.setCell _ _ (by simp)⟩
      rw [G.out]
      refine ⟨?_, (hst.put _ _ (by simp; omega)), ?_, by simp [h.len], mem_set h.all (by simp [U]), ⟨d1, d2, d3, d4, d5⟩, cAdd_U h.ug uf⟩
      · exact (h.acc.chg ((Chg.refl [fb] w).setCell ⟨fb, 2, none⟩ _ (by simp)) (by simp; omega) (by simp; omega)).chg ((Chg.refl [hb] _).setCell ⟨hb, k, none⟩ _ (by simp)) (by simp; omega) (by simp; omega)
      · have := hrow.set k (.int .u64 0) (by simp [h.len, hk])
        rw [List.map_set]; exact this
end Go.Proofs.Ytkjkkchpicehoaa
