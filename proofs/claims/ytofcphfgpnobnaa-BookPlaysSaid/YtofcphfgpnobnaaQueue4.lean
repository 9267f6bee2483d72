import Derived.Test.YtofcphfgpnobnaaQueue3
namespace Go.Proofs.Ytofcphfgpnobnaa
set_option linter.unusedVariables false
open Go Go.Proofs Go.RowKit
attribute [local go_sem ↓] Go.wp_at_zero Go.wp_at_succ

/-- The literal in find. -/
theorem findLit {w : World} {g : Nat} {k : Int} (hg : w.cell? ⟨g, 0, none⟩ = some (.int .i64 k)) (o : Ord) :
    Calls Try.prog 61 #[ov o, .pointer (some ⟨g, 0, none⟩)] w fun e w' => e = .returned (.bool (decide (o.id = k))) ∧ Chg [] w w' := by
  have hlt := cell_block hg
  go_enter Try.func61, Try.ntmps61
  go_wp2_with fail
  go_ret
  exact ⟨ret_bool (by by_cases h : o.id = k <;> simp [h]), (Chg.refl [] w).alloc _⟩

def FoundAt (l : List Ord) (k r : Int) : Prop := (∃ j, j < l.length ∧ (l.getD j Ord.zero).id = k ∧ r = ((j : Nat) : Int)) ∨ ((∀ x ∈ l, x.id ≠ k) ∧ r = -1)

set_option maxRecDepth 100000 in
set_option maxHeartbeats 1000000 in
/-- slices.IndexFunc by find's literal. -/
theorem indexFunc {w : World} {s g cap : Nat} {k : Int} {a : Option Addr} {l : List Ord} (hg : w.cell? ⟨g, 0, none⟩ = some (.int .i64 k)) (hl : l.length ≤ 9223372036854775807) (ha : l = [] ∨ (a = some ⟨s, 0, none⟩ ∧ Orow w s l)) :
    Calls Try.prog 60 #[.slice a l.length cap, .func (.func 61) #[] #[.pointer (some ⟨g, 0, none⟩)]] w fun e w' => ∃ r, e = .returned (.int .i64 r) ∧ FoundAt l k r ∧ Chg [] w w' := by
  rcases ha with rfl | ⟨rfl, hr⟩
  · go_enter Try.func60, Try.ntmps60
    go_wp2_with fail
    go_loop [8] (fun i => i = .int .i64 0) (fun _ => 0)
    case atStart => rfl
    case round =>
      subst hrel
      go_wp2_with fail
      go_ret
      exact ⟨-1, rfl, .inr ⟨by simp, rfl⟩, Chg.refl _ _⟩
  · have HR := Lib.hid hr
    clear hr
    go_enter Try.func60, Try.ntmps60
    go_wp2_with fail
    go_loopw [8] (fun i wr => ∃ j : Nat, j ≤ l.length ∧ i = .int .i64 j ∧ Chg [] w wr ∧ Hid (∀ x ∈ l.take j, x.id ≠ k)) (fun i _ => l.length - (intOf i).toNat)
    case atStart => exact ⟨0, by omega, rfl, Chg.refl _ _, by simp [Hid]⟩
    case round =>
      obtain ⟨j, hj, rfl, hc, hn⟩ := hrel
      by_cases hlt : j < l.length
      · obtain ⟨c0, c1, c2, c3, c4⟩ := Orow.at (Beg.chg HR.out hc (by simp)) hlt
        have hg2 := hc.cell hg (by simp)
        obtain ⟨x, hx⟩ : ∃ x, l.getD j Ord.zero = x := ⟨_, rfl⟩
        rw [hx] at c0 c1 c2 c3 c4
        have HX := Lib.hid hx
        clear hx
        by_cases he : x.id = k
        · have hd : decide (x.id = k) = true := by simpa using he
          have HE := Lib.hid he
          have HD := Lib.hid hd
          clear he hd
          go_wp2_with fail
          refine (findLit hg2 x).mono ?_
          rw [HD.out]
          rintro e w2 ⟨rfl, c⟩
          go_wp2_with fail
          go_ret
          exact ⟨_, rfl, .inl ⟨j, hlt, by rw [HX.out]; exact HE.out, rfl⟩, hc.trans c⟩
        · have hd : decide (x.id = k) = false := by simpa using he
          have HE := Lib.hid he
          have HD := Lib.hid hd
          clear he hd
          have hn2 : Hid (∀ y ∈ l.take (j + 1), y.id ≠ k) := by
            intro y hy
            rw [List.take_succ_eq_append_getElem hlt] at hy
            rcases List.mem_append.1 hy with h | h
            · exact hn.out y h
            · simp at h
              subst h
              have : l.getD j Ord.zero = l[j] := by simp [List.getD, hlt]
              rw [← this, HX.out]; exact HE.out
          go_wp2_with fail
          refine (findLit hg2 x).mono ?_
          rw [HD.out]
          rintro e w2 ⟨rfl, c⟩
          have hc2 := hc.trans c
          clear hc c c0 c1 c2 c3 c4 hg2 hn
          go_wp2_with fail
          go_roundw
          case rel => exact ⟨j + 1, by omega, by go_num, hc2, hn2⟩
          case measure => simp [intOf]; omega
      · have hn3 : Hid (∀ x ∈ l, x.id ≠ k) := by
          have := hn.out
          rwa [List.take_of_length_le (by omega)] at this
        go_wp2_with fail
        go_ret
        exact ⟨-1, rfl, .inr ⟨hn3.out, rfl⟩, hc⟩

set_option maxRecDepth 100000 in
/-- (*Queue).find. -/
theorem qFindAt {w : World} {b s : Nat} {up : Bool} {l : List Ord} (hr : Row w b s up l) (k : Int) :
    Calls Try.prog 47 #[.pointer (some ⟨b, 0, none⟩), .int .i64 k] w fun e w' => ∃ r, e = .returned (.int .i64 r) ∧ FoundAt l k r ∧ Chg [] w w' := by
  have hlt := hr.hlt
  have hR := hr.alloc (.cells #[.int .i64 k] 3)
  by_cases h0 : l = []
  · subst h0
    obtain ⟨a, cap, hd⟩ := hr.head
    go_enter Try.func47, Try.ntmps47
    go_wp2_with fail
    refine (indexFunc (s := 0) (l := []) (last_cell _ _ _ rfl rfl) (by simp) (.inl rfl)).mono ?_
    rintro e w2 ⟨r, rfl, hf, c⟩
    go_wp2_with fail
    go_ret
    exact ⟨r, rfl, hf, ((Chg.refl [] w).alloc _).trans c⟩
  · obtain ⟨cap, hne, hlc, hcm, hd, hor⟩ := hr.full h0
    have ho : Orow (w.alloc (.cells #[.int .i64 k] 3)) s l := Beg.alloc hor _
    unfold maxLen at hcm
    have hl9 : l.length ≤ 9223372036854775807 := by omega
    have HO := Lib.hid ho
    clear ho hor
    go_enter Try.func47, Try.ntmps47
    go_wp2_with fail
    refine (indexFunc (last_cell _ _ _ rfl rfl) hl9 (.inr ⟨rfl, HO.out⟩)).mono ?_
    rintro e w2 ⟨r, rfl, hf, c⟩
    go_wp2_with fail
    go_ret
    exact ⟨r, rfl, hf, ((Chg.refl [] w).alloc _).trans c⟩
end Go.Proofs.Ytofcphfgpnobnaa
