
import Derived.Test.YteabcpmpcbjicaaRx
import Derived.Test.YteabcpmpcbjicaaEx5
import Derived.BigQuiet
namespace Go.Proofs.Yteabcpmpcbjicaa
set_option linter.unusedVariables false
open Go Go.Proofs Go.RowKit
attribute [local go_sem ↓] Go.wp_at_zero Go.wp_at_succ

set_option maxRecDepth 100000 in
set_option maxHeartbeats 4000000 in
/-- Locked. -/
theorem rxlocked_any {w W0 : World} {y rb rs g n : Nat} {F : List Nat} {xs : List Int} {L M : List Ord} {k : Nat} (h : Rxc w W0 y rb rs g n F xs L M k) (hk : k ≤ 1000000) (c a r : Int) (hr : lkd c a L + lkd c a M = r) :
    Calls Try.prog 50 #[.pointer (some ⟨y, 0, none⟩), .int .i64 c, .int .i64 a] W0 fun e w' => e = .returned (.int .u64 r) ∧ Chg [] W0 w' := by
  have hlen := h.ok.len
  have HOI : Hid (∀ o ∈ L ++ M, OIn o) := fun o ho => (h.ok.oin o ho).1
  obtain ⟨nL, hnL⟩ : ∃ m, L.length = m := ⟨_, rfl⟩
  obtain ⟨nM, hnM⟩ : ∃ m, M.length = m := ⟨_, rfl⟩
  rw [hnL, hnM] at hlen
  have HNL := Lib.hid hnL
  have HNM := Lib.hid hnM
  have hsl := lkd_in (c := c) (a := a) (Q := L) (fun o ho => HOI.out o (by simp [ho]))
  rw [hnL] at hsl
  obtain ⟨sL, hsL⟩ : ∃ q, lkd c a L = q := ⟨_, rfl⟩
  obtain ⟨sM, hsM⟩ : ∃ q, lkd c a M = q := ⟨_, rfl⟩
  rw [hsL, hsM] at hr
  rw [hsL] at hsl
  have HSL := Lib.hid hsL
  have HSM := Lib.hid hsM
  have HR := Lib.hid hr
  obtain ⟨sl1, sl2⟩ := hsl
  clear hnL hnM hsL hsM hr
  go_enter Try.func50, Try.ntmps50
  go_wp2_with fail
  go_loopw [7, 8] (fun v i wx => Rxc w wx y rb rs g n F xs L M k ∧ Chg [] W0 wx ∧ ((i = .int .i64 0 ∧ v = .int .u64 0) ∨ (i = .int .i64 1 ∧ v = .int .u64 sL) ∨ (i = .int .i64 2 ∧ v = .int .u64 (sL + sM)))) (fun _ i _ => 2 - (intOf i).toNat)
  case atStart => exact ⟨h, Chg.refl _ _, .inl ⟨rfl, rfl⟩⟩
  case round =>
    clear h
    obtain ⟨h, hch, hcs⟩ := hrel
    rcases hcs with ⟨rfl, rfl⟩ | ⟨rfl, rfl⟩ | ⟨rfl, rfl⟩
    · have x1 := h.hd.at (i := 1) rfl
      go_wp2_with fail
      refine (rSide0 g _).mono ?_
      rintro e w3 ⟨rfl, rfl⟩
      clear x1
      go_wp2_with fail
      go_loopw [7, 10] (fun v i wx => ∃ m : Nat, m ≤ nL ∧ i = .int .i64 m ∧ v = .int .u64 (0 + lkd c a (L.take m)) ∧ Rxc w wx y rb rs g n F xs L M k ∧ Chg [] W0 wx) (fun _ i _ => nL - (intOf i).toNat)
      case atStart => exact ⟨0, by omega, rfl, by simp [lkd, isum], h, hch⟩
      case round =>
        clear h hch
        obtain ⟨m, hm, rfl, rfl, h, hch⟩ := hrel
        obtain ⟨s1, hs1, -⟩ := h.b.b
        by_cases hmt : m < nL
        · have hml : m < L.length := by rw [HNL.out]; exact hmt
          obtain ⟨cp, r1, -, -, -, t0, t1, t2, t3, t4⟩ := hs1.at hml
          rw [HNL.out] at r1
          have htk := lkd_take (c := c) (a := a) hml
          have hin := HOI.out _ (List.mem_append.2 (.inl (getD_mem hml)))
          have hls := lkd_in (c := c) (a := a) (Q := L.take m) (fun z hz => HOI.out z (List.mem_append.2 (.inl (List.mem_of_mem_take hz))))
          rw [List.length_take, Nat.min_eq_left (by omega)] at hls
          generalize L.getD m Ord.zero = o at *
          have hl1 := lk1_in (c := c) (a := a) hin
          obtain ⟨sq, hsq⟩ : ∃ q, lkd c a (L.take m) = q := ⟨_, rfl⟩
          rw [hsq] at htk hls ⊢
          have HTK := Lib.hid htk
          have HIN := Lib.hid hin
          have HLK : Hid (lk1 c a o = if o.client = c ∧ lockA o = a then lockN o else 0) := rfl
          obtain ⟨ls1, ls2⟩ := hls
          obtain ⟨l11, l12⟩ := hl1
          have j1 : (0 : Int) ≤ (m : Int) := by omega
          have j2 : (m : Int) < (nL : Int) := by omega
          have dm : decide ((m : Int) < (nL : Int)) = true := by simp; omega
          have dm2 : decide (m < nL) = true := by simp; omega
          clear hsq htk hin hml hs1
          go_wp2_with fail
          refine (needs_any o HIN.out wr).mono ?_
          rintro e w2 ⟨rfl, c2⟩
          have r1' := c2.cell r1 (by simp)
          have t1' := c2.cell t1 (by simp)
          have h2 := h.to c2
          have hc2 := hch.trans c2
          clear h hch c2 r1 t0 t1 t2 t3 t4
          obtain ⟨lA, hlA⟩ : ∃ l, lockA o = l := ⟨_, rfl⟩
          obtain ⟨lN, hlN⟩ : ∃ l, lockN o = l := ⟨_, rfl⟩
          rw [hlA, hlN] at HLK
          rw [hlA, hlN]
          obtain ⟨l1v, hl1v⟩ : ∃ l, lk1 c a o = l := ⟨_, rfl⟩
          rw [hl1v] at HLK HTK l11 l12
          clear hlA hlN hl1v
          by_cases e1 : o.client = c
          · by_cases e2 : lA = a
            · have e3 : l1v = lN := by have := HLK.out; rw [if_pos ⟨e1, e2⟩] at this; exact this
              have d1 : (o.client == c) = true := by simp [e1]
              have d2 : (lA == a) = true := by simp [e2]
              have wq : IntKind.u64.wrap (0 + sq + lN) = 0 + sq + lN := by rw [← e3]; simp [IntKind.wrap, IntKind.bits, IntKind.signed]; omega
              have wq0 : IntKind.u64.wrap (sq + lN) = sq + lN := by rw [← e3]; simp [IntKind.wrap, IntKind.bits, IntKind.signed]; omega
              have E3 := Lib.hid e3
              clear e1 e2 e3
              go_wp2_with fail
              go_roundw
              case rel => exact ⟨m + 1, by omega, by go_num, by rw [HTK.out, E3.out]; simp, h2, hc2⟩
              case measure => simp [intOf]; omega
            · have e3 : l1v = 0 := by have := HLK.out; rw [if_neg (fun z => e2 z.2)] at this; exact this
              have d1 : (o.client == c) = true := by simp [e1]
              have d2 : (lA == a) = false := by simp [e2]
              have E3 := Lib.hid e3
              clear e1 e2 e3
              go_wp2_with fail
              go_roundw
              case rel => exact ⟨m + 1, by omega, by go_num, by rw [HTK.out, E3.out]; simp, h2, hc2⟩
              case measure => simp [intOf]; omega
          · have e3 : l1v = 0 := by have := HLK.out; rw [if_neg (fun z => e1 z.1)] at this; exact this
            have d1 : (o.client == c) = false := by simp [e1]
            have E3 := Lib.hid e3
            clear e1 e3
            go_wp2_with fail
            go_roundw
            case rel => exact ⟨m + 1, by omega, by go_num, by rw [HTK.out, E3.out]; simp, h2, hc2⟩
            case measure => simp [intOf]; omega
        · obtain rfl : m = nL := by omega
          obtain ⟨ar, cr, r1, -, -, -⟩ := hs1.row
          rw [HNL.out] at r1
          have e9 : 0 + lkd c a (L.take m) = sL := by rw [List.take_of_length_le (by rw [HNL.out]; exact Nat.le_refl _)]; rw [HSL.out]; simp
          rw [e9]
          clear e9 hs1
          go_wp2_with fail
          go_roundw
          case rel => exact ⟨h, hch, .inr (.inl ⟨rfl, rfl⟩)⟩
          case measure => simp [intOf]
    · have x1 := h.hd.at (i := 1) rfl
      go_wp2_with fail
      refine (rSide2 g _).mono ?_
      rintro e w3 ⟨rfl, rfl⟩
      clear x1
      go_wp2_with fail
      go_loopw [7, 10] (fun v i wx => ∃ m : Nat, m ≤ nM ∧ i = .int .i64 m ∧ v = .int .u64 (sL + lkd c a (M.take m)) ∧ Rxc w wx y rb rs g n F xs L M k ∧ Chg [] W0 wx) (fun _ i _ => nM - (intOf i).toNat)
      case atStart => exact ⟨0, by omega, rfl, by simp [lkd, isum], h, hch⟩
      case round =>
        clear h hch
        obtain ⟨m, hm, rfl, rfl, h, hch⟩ := hrel
        obtain ⟨s1, hs1, -⟩ := h.b.a
        by_cases hmt : m < nM
        · have hml : m < M.length := by rw [HNM.out]; exact hmt
          obtain ⟨cp, r1, -, -, -, t0, t1, t2, t3, t4⟩ := hs1.at hml
          rw [HNM.out] at r1
          have htk := lkd_take (c := c) (a := a) hml
          have hin := HOI.out _ (List.mem_append.2 (.inr (getD_mem hml)))
          have hls := lkd_in (c := c) (a := a) (Q := M.take m) (fun z hz => HOI.out z (List.mem_append.2 (.inr (List.mem_of_mem_take hz))))
          rw [List.length_take, Nat.min_eq_left (by omega)] at hls
          generalize M.getD m Ord.zero = o at *
          have hl1 := lk1_in (c := c) (a := a) hin
          obtain ⟨sq, hsq⟩ : ∃ q, lkd c a (M.take m) = q := ⟨_, rfl⟩
          rw [hsq] at htk hls ⊢
          have HTK := Lib.hid htk
          have HIN := Lib.hid hin
          have HLK : Hid (lk1 c a o = if o.client = c ∧ lockA o = a then lockN o else 0) := rfl
          obtain ⟨ls1, ls2⟩ := hls
          obtain ⟨l11, l12⟩ := hl1
          have j1 : (0 : Int) ≤ (m : Int) := by omega
          have j2 : (m : Int) < (nM : Int) := by omega
          have dm : decide ((m : Int) < (nM : Int)) = true := by simp; omega
          have dm2 : decide (m < nM) = true := by simp; omega
          clear hsq htk hin hml hs1
          go_wp2_with fail
          refine (needs_any o HIN.out wr).mono ?_
          rintro e w2 ⟨rfl, c2⟩
          have r1' := c2.cell r1 (by simp)
          have t1' := c2.cell t1 (by simp)
          have h2 := h.to c2
          have hc2 := hch.trans c2
          clear h hch c2 r1 t0 t1 t2 t3 t4
          obtain ⟨lA, hlA⟩ : ∃ l, lockA o = l := ⟨_, rfl⟩
          obtain ⟨lN, hlN⟩ : ∃ l, lockN o = l := ⟨_, rfl⟩
          rw [hlA, hlN] at HLK
          rw [hlA, hlN]
          obtain ⟨l1v, hl1v⟩ : ∃ l, lk1 c a o = l := ⟨_, rfl⟩
          rw [hl1v] at HLK HTK l11 l12
          clear hlA hlN hl1v
          by_cases e1 : o.client = c
          · by_cases e2 : lA = a
            · have e3 : l1v = lN := by have := HLK.out; rw [if_pos ⟨e1, e2⟩] at this; exact this
              have d1 : (o.client == c) = true := by simp [e1]
              have d2 : (lA == a) = true := by simp [e2]
              have wq : IntKind.u64.wrap (sL + sq + lN) = sL + sq + lN := by rw [← e3]; simp [IntKind.wrap, IntKind.bits, IntKind.signed]; omega
        
              have E3 := Lib.hid e3
              clear e1 e2 e3
              go_wp2_with fail
              go_roundw
              case rel => exact ⟨m + 1, by omega, by go_num, by rw [HTK.out, E3.out]; rw [Int.add_assoc], h2, hc2⟩
              case measure => simp [intOf]; omega
            · have e3 : l1v = 0 := by have := HLK.out; rw [if_neg (fun z => e2 z.2)] at this; exact this
              have d1 : (o.client == c) = true := by simp [e1]
              have d2 : (lA == a) = false := by simp [e2]
              have E3 := Lib.hid e3
              clear e1 e2 e3
              go_wp2_with fail
              go_roundw
              case rel => exact ⟨m + 1, by omega, by go_num, by rw [HTK.out, E3.out]; simp, h2, hc2⟩
              case measure => simp [intOf]; omega
          · have e3 : l1v = 0 := by have := HLK.out; rw [if_neg (fun z => e1 z.1)] at this; exact this
            have d1 : (o.client == c) = false := by simp [e1]
            have E3 := Lib.hid e3
            clear e1 e3
            go_wp2_with fail
            go_roundw
            case rel => exact ⟨m + 1, by omega, by go_num, by rw [HTK.out, E3.out]; simp, h2, hc2⟩
            case measure => simp [intOf]; omega
        · obtain rfl : m = nM := by omega
          obtain ⟨ar, cr, r1, -, -, -⟩ := hs1.row
          rw [HNM.out] at r1
          have e9 : sL + lkd c a (M.take m) = sL + sM := by rw [List.take_of_length_le (by rw [HNM.out]; exact Nat.le_refl _)]; rw [HSM.out]
          rw [e9]
          clear e9 hs1
          go_wp2_with fail
          go_roundw
          case rel => exact ⟨h, hch, .inr (.inr ⟨rfl, rfl⟩)⟩
          case measure => simp [intOf]
    · rw [HR.out]
      go_wp2_with fail
      go_ret
      exact ⟨rfl, hch⟩
end Go.Proofs.Yteabcpmpcbjicaa
