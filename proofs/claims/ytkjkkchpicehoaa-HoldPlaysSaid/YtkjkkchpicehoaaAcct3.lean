import Derived.Test.YtkjkkchpicehoaaAcct2
namespace Go.Proofs.Ytkjkkchpicehoaa
set_option linter.unusedVariables false
open Go Go.Proofs Go.RowKit

/-- What all clients have of an asset. -/
def aCol (n : Nat) (xs : List Int) (a : Int) : List Int := (List.range n).map fun (i : Nat) => aGet xs (i : Int) a
def aSumN (n : Nat) (xs : List Int) (a : Int) : Int := if aAsset a = true then cSumN (aCol n xs a) else 0
def aSumB (n : Nat) (xs : List Int) (a : Int) : Bool := aAsset a && cSumB (aCol n xs a)

def colVals (xs : List Int) (a : Int) (k : Nat) : List Value := (aCol k xs a).map (Value.int .u64)
theorem colVals_snoc (xs : List Int) (a : Int) (k : Nat) : colVals xs a (k + 1) = colVals xs a k ++ [.int .u64 (aGet xs k a)] := by
  simp [colVals, aCol, List.range_succ]
theorem aCol_U {n : Nat} {xs : List Int} (h : AOk n xs) (m : Nat) (a : Int) : ∀ x ∈ aCol m xs a, U x := by
  intro x hx
  obtain ⟨i, _, rfl⟩ := List.mem_map.1 hx
  exact h.get _ _

set_option maxHeartbeats 1000000 in
theorem sumA_yes {w : World} {b s n : Nat} {xs : List Int} (h : Acc w b s n xs) (a : Int) (ha : a = 0 ∨ a = 1) :
    Calls Try.prog 27 #[.pointer (some ⟨b, 0, none⟩), .int .i64 a] w fun e w' => e = .returned (.tuple #[.int .u64 (cSumN (aCol n xs a)), .bool (cSumB (aCol n xs a))]) ∧ Chg [] w w' := by
  obtain ⟨i0, hi, hz0, hz1, hz2⟩ := info_parts info_u64
  obtain ⟨cap, _, _, hb0⟩ := h.head
  have h0 := hb0.at (i := 0) rfl
  clear hb0
  have hA : Hid (aAsset a = true) := by show _ = _; unfold aAsset; simp; omega
  have hn := h.ok.most
  rcases ha with rfl | rfl
  · skip
    go_enter Try.func27, Try.ntmps27
    go_wp2_with fail
    refine (asset_any _ _).mono ?_
    rw [hA.out]
    rintro e w' ⟨rfl, rfl⟩
    go_wp2_with fail
    go_loopw [6, 17] (fun v i wr => ∃ k : Nat, k ≤ n ∧ i = .int .i64 k ∧ Chg [] w wr ∧ wr.ownsRow w.heap.size 22 1 v k (colVals xs 0 k)) (fun _ i _ => n - (intOf i).toNat)
    case atStart => exact ⟨0, by omega, rfl, Chg.refl _ _, by simp [colVals, aCol], .inl ⟨rfl, rfl⟩⟩
    case round =>
      obtain ⟨k, hk, rfl, hc, hown⟩ := hrel
      have hr := h.chg hc (by simp) (by simp)
      by_cases hlt : k < n
      · have c0 : wr.cell? ⟨s, k * 2, none⟩ = some (.int .u64 (aGet xs k 0)) := hr.cell hlt (show 0 < 2 by omega)
        have c1 : wr.cell? ⟨s, k * 2 + 1, none⟩ = some (.int .u64 (aGet xs k 1)) := hr.cell hlt (show 1 < 2 by omega)
        go_wp2_with (at_builtin; refine wpList_append_own _ rfl (.tmp 21) (.tmp 25) 29 rfl w.heap.size 22 i0 (.int .u64 0) 1 8 Try.underlying29 hi hz0 hz1 hz2 rfl (by decide) _ _ _ rfl ((hown.alloc _).alloc _) ⟨wr.heap.size + 1, 0, none⟩ 1 1 [.int .u64 (aGet xs k 0)] rfl rfl ?c1 ?c2 ?c3 ?c4 ?c5 ?_)
        case c1 => exact fun j u h => one_at _ _ _ (by simp) j u h
        case c2 => simp [Value.oneCell']
        case c3 => unfold maxLen; omega
        case c4 => omega
        case c5 => have := hc.size; simp; omega
        intro v' w1 hown1 hg1 _
        have hc1 : Chg [] w w1 := ((hc.alloc _).alloc _).grown hg1 (fun k hk => .inr (own_base hown k hk))
        rw [← colVals_snoc] at hown1
        clear hg1 c0 c1 hown hc hr
        go_wp2_with fail
        go_roundw
        case rel => exact ⟨k + 1, by omega, by go_num, hc1, hown1⟩
        case measure => simp [intOf]; omega
      · obtain rfl : k = n := by omega
        obtain ⟨a', c', rfl⟩ := own_slice hown
        have hrow : Row64 wr a' (aCol k xs 0) := row64_owned hown
        clear hown
        go_wp2_with fail
        refine (sum_any _ _ _ (aCol k xs 0) _ (by simp [aCol]) (aCol_U h.ok k 0) (by simp [aCol]; omega) hrow).mono ?_
        rintro e w' ⟨rfl, rfl⟩
        go_wp2_with fail
        go_ret2
        exact ⟨rfl, hc⟩
  · skip
    go_enter Try.func27, Try.ntmps27
    go_wp2_with fail
    refine (asset_any _ _).mono ?_
    rw [hA.out]
    rintro e w' ⟨rfl, rfl⟩
    go_wp2_with fail
    go_loopw [6, 17] (fun v i wr => ∃ k : Nat, k ≤ n ∧ i = .int .i64 k ∧ Chg [] w wr ∧ wr.ownsRow w.heap.size 22 1 v k (colVals xs 1 k)) (fun _ i _ => n - (intOf i).toNat)
    case atStart => exact ⟨0, by omega, rfl, Chg.refl _ _, by simp [colVals, aCol], .inl ⟨rfl, rfl⟩⟩
    case round =>
      obtain ⟨k, hk, rfl, hc, hown⟩ := hrel
      have hr := h.chg hc (by simp) (by simp)
      by_cases hlt : k < n
      · have c0 : wr.cell? ⟨s, k * 2, none⟩ = some (.int .u64 (aGet xs k 0)) := hr.cell hlt (show 0 < 2 by omega)
        have c1 : wr.cell? ⟨s, k * 2 + 1, none⟩ = some (.int .u64 (aGet xs k 1)) := hr.cell hlt (show 1 < 2 by omega)
        go_wp2_with (at_builtin; refine wpList_append_own _ rfl (.tmp 21) (.tmp 25) 29 rfl w.heap.size 22 i0 (.int .u64 0) 1 8 Try.underlying29 hi hz0 hz1 hz2 rfl (by decide) _ _ _ rfl ((hown.alloc _).alloc _) ⟨wr.heap.size + 1, 0, none⟩ 1 1 [.int .u64 (aGet xs k 1)] rfl rfl ?c1 ?c2 ?c3 ?c4 ?c5 ?_)
        case c1 => exact fun j u h => one_at _ _ _ (by simp) j u h
        case c2 => simp [Value.oneCell']
        case c3 => unfold maxLen; omega
        case c4 => omega
        case c5 => have := hc.size; simp; omega
        intro v' w1 hown1 hg1 _
        have hc1 : Chg [] w w1 := ((hc.alloc _).alloc _).grown hg1 (fun k hk => .inr (own_base hown k hk))
        rw [← colVals_snoc] at hown1
        clear hg1 c0 c1 hown hc hr
        go_wp2_with fail
        go_roundw
        case rel => exact ⟨k + 1, by omega, by go_num, hc1, hown1⟩
        case measure => simp [intOf]; omega
      · obtain rfl : k = n := by omega
        obtain ⟨a', c', rfl⟩ := own_slice hown
        have hrow : Row64 wr a' (aCol k xs 1) := row64_owned hown
        clear hown
        go_wp2_with fail
        refine (sum_any _ _ _ (aCol k xs 1) _ (by simp [aCol]) (aCol_U h.ok k 1) (by simp [aCol]; omega) hrow).mono ?_
        rintro e w' ⟨rfl, rfl⟩
        go_wp2_with fail
        go_ret2
        exact ⟨rfl, hc⟩

/-- (*Accounts).Sum. -/
theorem sumA_any {w : World} {b s n : Nat} {xs : List Int} (h : Acc w b s n xs) (a : Int) :
    Calls Try.prog 27 #[.pointer (some ⟨b, 0, none⟩), .int .i64 a] w fun e w' => e = .returned (.tuple #[.int .u64 (aSumN n xs a), .bool (aSumB n xs a)]) ∧ Chg [] w w' := by
  cases ha : aAsset a
  · have HN : Hid (aSumN n xs a = 0) := by show _ = _; unfold aSumN; rw [ha]; rfl
    have HB : Hid (aSumB n xs a = false) := by show _ = _; unfold aSumB; rw [ha]; rfl
    have HA := Lib.hid ha
    clear ha
    go_enter Try.func27, Try.ntmps27
    go_wp2_with fail
    refine (asset_any _ _).mono ?_
    rw [HA.out]
    rintro e w' ⟨rfl, rfl⟩
    go_wp2_with fail
    go_ret2
    exact ⟨ret_tup HN.out.symm HB.out.symm, Chg.refl _ _⟩
  · obtain ⟨k, rfl, hk⟩ := aAsset_nat ha
    have e1 : aSumN n xs k = cSumN (aCol n xs k) := by unfold aSumN; rw [if_pos ha]
    have e2 : aSumB n xs k = cSumB (aCol n xs k) := by unfold aSumB; rw [ha]; rfl
    rw [e1, e2]
    exact sumA_yes h k (by omega)
end Go.Proofs.Ytkjkkchpicehoaa
