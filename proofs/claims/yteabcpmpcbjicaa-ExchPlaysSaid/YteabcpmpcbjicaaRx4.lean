
import Derived.Test.YteabcpmpcbjicaaRx3
namespace Go.Proofs.Yteabcpmpcbjicaa
set_option linter.unusedVariables false
open Go Go.Proofs Go.RowKit
attribute [local go_sem ↓] Go.wp_at_zero Go.wp_at_succ

theorem aTakeE_four {n : Nat} {xs : List Int} {c a v : Int} (h : aErr n c a = 0) (hne : aTakeE n xs c a v ≠ 0) : aTakeE n xs c a v = 4 ∧ aTake n xs c a v = xs := by
  have e : aTakeE n xs c a v = 4 := by
    unfold aTakeE at hne ⊢
    rw [if_pos h] at hne ⊢
    split at hne
    · omega
    · rw [if_neg (by assumption)]
  exact ⟨e, by unfold aTake; rw [if_neg hne]⟩
set_option maxRecDepth 100000 in
set_option maxHeartbeats 4000000 in
theorem rxplace_no {w wr : World} {y rb rs g n : Nat} {F : List Nat} {xs : List Int} {L M : List Ord} {k : Nat} (h : Rxc w wr y rb rs g n F xs L M k) (hk : k < 1000000) (c : Int) (b : Bool) (p q : Int) (rest : Bool) (hp : U p) (hq : U q) (hc : I c) (e0 : Int) (hE : mtE n xs c b p q = e0) (hne : e0 ≠ 0) :
    Calls Try.prog 47 #[.pointer (some ⟨y, 0, none⟩), .int .i64 c, .bool b, .int .u64 p, .int .u64 q, .bool rest] wr fun e w' => e = .returned (.tuple #[.int .i64 0, .slice none 0 0, .int .i64 e0]) ∧ Rxc w w' y rb rs g n F xs L M k ∧ Chg [rs] wr w' := by
  obtain ⟨cap, hcap, -, hhd⟩ := h.a.head
  have x0 := h.hd.at (i := 0) rfl
  have r0 := hhd.at (i := 0) rfl
  obtain ⟨p1, p2⟩ := hp
  obtain ⟨q1, q2⟩ := hq
  by_cases hh : aHas n c = true
  · obtain ⟨hc0, hcl⟩ : 0 ≤ c ∧ c < (n : Int) := by
      obtain ⟨cn, hcn, hcl⟩ := aHas_nat hh
      omega
    have d1 : decide (c < 0) = false := by simp; omega
    have d2 : decide ((n : Int) ≤ c) = false := by simp; omega
    by_cases hw : (wIn p && wIn q) = true
    · have hE4 : e0 = 4 ∧ aTakeE n xs c (lockA ⟨(k : Int) + 1, c, b, p, q⟩) (lockN ⟨(k : Int) + 1, c, b, p, q⟩) ≠ 0 := by
        unfold mtE at hE
        rw [if_pos hh, if_pos hw] at hE
        split at hE
        · omega
        · rename_i h9; exact ⟨hE.symm, h9⟩
      obtain ⟨rfl, hT⟩ := hE4
      obtain ⟨hin, pp1, qq1⟩ := wIn_o hw ((k : Int) + 1) c b
      have hlk := hin.lock
      have hinp := hin.p
      have hinq := hin.q
      dsimp only at hinp hinq
      obtain ⟨t1, t2⟩ := aTakeE_four (aErr_ok hh (by unfold lockA; split <;> rfl)) hT
      have HT1 := Lib.hid (And.intro t1 t2)
      have HIN := Lib.hid hin
      have d3 : (p == 0) = false := by simp; omega
      have d4 : decide (1048576 < p) = false := by simp; omega
      have d5 : (q == 0) = false := by simp; omega
      have d6 : decide (1048576 < q) = false := by simp; omega
      have wk : IntKind.i64.wrap ((k : Int) + 1) = (k : Int) + 1 := IntWalk.i64_in _ (by omega)
      have x2 := h.hd.at (i := 2) rfl
      have hbo : Blk (wr.alloc (.cells #[.int .i64 ((k : Int) + 1), .int .i64 c, .bool b, .int .u64 p, .int .u64 q] 152)) wr.heap.size 152 (oc ⟨(k : Int) + 1, c, b, p, q⟩) := Blk.new wr (oc ⟨(k : Int) + 1, c, b, p, q⟩) 152
      have h1 := h.to ((Chg.refl [] wr).alloc (.cells #[.int .i64 ((k : Int) + 1), .int .i64 c, .bool b, .int .u64 p, .int .u64 q] 152))
      have HC1 := Lib.hid ((Chg.refl [] wr).alloc (.cells #[.int .i64 ((k : Int) + 1), .int .i64 c, .bool b, .int .u64 p, .int .u64 q] 152))
      clear h hE hne hh hw hT hin t1 t2 hcap hhd
      go_enter Try.func47, Try.ntmps47
      go_upto_region 6 with (fail)
      clear x0 x2 r0 d1 d2 d3 d4 d5 d6
      have HC1' : Hid (Chg [] wr (wr.alloc (.cells #[.int .i64 ((k : Int) + 1), .int .i64 c, .bool b, .int .u64 p, .int .u64 q] 152))) := HC1
      clear HC1
      generalize wr.heap.size = go at *
      generalize wr.alloc _ = W1 at *
      have y0 := hbo.at (i := 0) rfl
      have y1 := hbo.at (i := 1) rfl
      have y2 := hbo.at (i := 2) rfl
      have y3 := hbo.at (i := 3) rfl
      have y4 := hbo.at (i := 4) rfl
      go_wp2_with fail
      refine (needs_any ⟨(k : Int) + 1, c, b, p, q⟩ HIN.out W1).mono ?_
      rintro e w4 ⟨rfl, c4⟩
      have h2 := h1.to c4
      have HC2 := Lib.hid (HC1'.out.trans c4)
      clear h1 HC1' c4 y0 y1 y2 y3 y4 hbo
      have x0 := h2.hd.at (i := 0) rfl
      obtain ⟨lA, hlA⟩ : ∃ l, lockA ⟨(k : Int) + 1, c, b, p, q⟩ = l := ⟨_, rfl⟩
      obtain ⟨lN, hlN⟩ : ∃ l, lockN ⟨(k : Int) + 1, c, b, p, q⟩ = l := ⟨_, rfl⟩
      rw [hlA, hlN] at HT1
      rw [hlN] at hlk
      rw [hlA, hlN]
      clear hlA hlN
      go_wp2_with fail
      refine (rtake_is h2.a c lA lN 4 xs ⟨by omega, by omega⟩ HT1.out.1 HT1.out.2).mono ?_
      rintro e w5 ⟨rfl, ha5, c5⟩
      have h3 := h2.acct ha5 c5
      have hc3 : Chg [rs] wr w5 := (HC2.out.mono (by simp)).trans c5
      clear h2 HC2 c5 x0 ha5
      go_wp2_with fail
      go_ret3
      exact ⟨rfl, h3, hc3⟩
    · have hE6 : e0 = 6 := by
        unfold mtE at hE
        rw [if_pos hh, if_neg hw] at hE
        exact hE.symm
      subst hE6
      have hw1 : (p = 0 ∨ 1048576 < p) ∨ ((1 ≤ p ∧ p ≤ 1048576) ∧ (q = 0 ∨ 1048576 < q)) := by
        unfold wIn at hw
        simp at hw
        omega
      clear hE hne hh hw hcap hhd
      rcases hw1 with (hp0 | hp0) | ⟨⟨hp1, hp2⟩, hq0 | hq0⟩
      · have d3 : (p == 0) = true := by simp [hp0]
        clear hp0 p1 p2
        go_enter Try.func47, Try.ntmps47
        go_wp2_with fail
        go_ret3
        exact ⟨rfl, h, Chg.refl _ _⟩
      · have d3 : (p == 0) = false := by simp; omega
        have d4 : decide (1048576 < p) = true := by simp; omega
        go_enter Try.func47, Try.ntmps47
        go_wp2_with fail
        go_ret3
        exact ⟨rfl, h, Chg.refl _ _⟩
      · have d3 : (p == 0) = false := by simp; omega
        have d4 : decide (1048576 < p) = false := by simp; omega
        have d5 : (q == 0) = true := by simp [hq0]
        clear hq0 q1 q2
        go_enter Try.func47, Try.ntmps47
        go_wp2_with fail
        go_ret3
        exact ⟨rfl, h, Chg.refl _ _⟩
      · have d3 : (p == 0) = false := by simp; omega
        have d4 : decide (1048576 < p) = false := by simp; omega
        have d5 : (q == 0) = false := by simp; omega
        have d6 : decide (1048576 < q) = true := by simp; omega
        go_enter Try.func47, Try.ntmps47
        go_wp2_with fail
        go_ret3
        exact ⟨rfl, h, Chg.refl _ _⟩
  · have hE2 : e0 = 2 := by
      unfold mtE at hE
      rw [if_neg hh] at hE
      exact hE.symm
    subst hE2
    have hh2 : c < 0 ∨ (0 ≤ c ∧ (n : Int) ≤ c) := by
      unfold aHas at hh
      simp at hh
      omega
    clear hE hne hh hcap hhd
    rcases hh2 with hz | ⟨hz, hz2⟩
    · have d1 : decide (c < 0) = true := by simp; omega
      go_enter Try.func47, Try.ntmps47
      go_wp2_with fail
      go_ret3
      exact ⟨rfl, h, Chg.refl _ _⟩
    · have d1 : decide (c < 0) = false := by simp; omega
      have d2 : decide ((n : Int) ≤ c) = true := by simp; omega
      go_enter Try.func47, Try.ntmps47
      go_wp2_with fail
      go_ret3
      exact ⟨rfl, h, Chg.refl _ _⟩
end Go.Proofs.Yteabcpmpcbjicaa
