import Derived.Test.YtofcphfgpnobnaaPr
import Derived.BigQuiet
namespace Go.Proofs.Ytofcphfgpnobnaa
set_option linter.unusedVariables false
open Go Go.Proofs Go.RowKit
attribute [local go_sem ↓] Go.wp_at_zero Go.wp_at_succ

set_option maxRecDepth 100000 in
set_option maxHeartbeats 16000000 in
theorem rem_walk8 (up : Bool) (a : Option Addr) (n cap : Nat) (z : List Int) (o q : Int) (w : World) (hn : n = z.length) (hzm : n ≤ 9223372036854775807) (hU : ∀ x ∈ z, U x) (hr0 : Row64 w a z) (ho : U q) (N : Nat) (hN : (n ≤ 30 ∧ N = n) ∨ (30 < n ∧ N = 30)) :
    Calls Try.prog 4 #[.bool up, .slice a n cap, .int .i64 o, .int .u64 q] w fun e w' => e = .returned (.bool true) ∧ Below w.heap.size w w' := by
  have HN := Lib.hid hn
  have HU := Lib.hid hU; clear hU
  have HR := Lib.hid hr0; clear hr0
  have n1 : N ≤ n := by omega
  have n2 : N ≤ 30 := by omega
  have HNN := Lib.hid hN
  clear hn hN
  obtain ⟨f, hf, hf8⟩ := and31_i64 o
  obtain ⟨m, hm, hm8⟩ := and15_u64 q
  obtain ⟨i0, hi, iz0, iz1, iz2⟩ := info_parts info_ord
  go_enter Try.func4, Try.ntmps4
  go_wp2_with fail
  refine (qNew up _).mono ?_
  rintro e w1 ⟨b, rfl, h1, c1, b1⟩
  go_upto_region 4 with (fail)
  go_cut [10] from 29 to 31 (fun v wx => v = .int .i64 (N : Int) ∧ w1 = wx)
  case first =>
    rcases HNN.out with ⟨m1, m2⟩ | ⟨m1, m2⟩
    · go_wp2_with fail
      go_meet
      exact ⟨by rw [m2], rfl⟩
    · go_wp2_with fail
      go_meet
      exact ⟨by rw [m2]; rfl, rfl⟩
  case rest =>
    obtain ⟨rfl, rfl⟩ := hcut
    go_wp2_with fail
    go_loopw [11] (fun i wr => ∃ (k s : Nat) (L : List Ord), k ≤ N ∧ i = .int .i64 k ∧ Que wr b s up L ∧ Pu k L ∧ Chg [] w wr ∧ w.heap.size ≤ s) (fun i _ => N - (intOf i).toNat)
    case atStart => exact ⟨0, b, [], by omega, rfl, h1, Pu.start, c1, b1⟩
    case round =>
      clear h1 c1
      obtain ⟨k, s, L, hk, rfl, hQ, hP, hC, hs⟩ := hrel
      have hll : L.length < 999999999999 := by rw [hP.len]; omega
      by_cases hlt : k < N
      · obtain ⟨b0, off, rfl, hcell⟩ := row_cells HR.out (k := k) (by rw [← HN.out]; omega)
        have hc0 := hcell wr hC.below
        generalize z.getD k 0 = v at *
        obtain ⟨f1, g1, g2⟩ := and15_u64 v
        obtain ⟨f2, g3, g4⟩ := and7_u64 (v / 16)
        obtain ⟨hP2, hnew⟩ := hP.step (x := ⟨(k : Int) + 1, 0, false, f1, (f2 : Int) + 1⟩) up rfl (by show (f2 : Int) + 1 ≤ 16; omega)
        have hok : Ord.Ok ⟨(k : Int) + 1, 0, false, f1, (f2 : Int) + 1⟩ := ordOk _ _ _ _ _ ⟨by omega, by omega⟩ ⟨by omega, by omega⟩ ⟨by omega, by omega⟩ ⟨by omega, by omega⟩
        have HNEW := Lib.hid hnew
        have i1 : (0 : Int) ≤ (k : Int) := by omega
        have i2 : (k : Int) < (n : Int) := by omega
        have w1 : IntKind.i64.wrap ((k : Int) + 1) = (k : Int) + 1 := IntWalk.i64_in _ (by omega)
        have w2 : IntKind.u64.wrap ((f2 : Int) + 1) = (f2 : Int) + 1 := by simp [IntKind.wrap, IntKind.bits, IntKind.signed]; omega
        clear hnew hP hcell
        go_wp2_with fail
        go_still_tail 16, (by kernel_rfl)
        change wpList _ _ _ _ _ wr.drew
        have hQ2 := hQ.drew
        have hC2 := hC.drew
        have hz2 : w.heap.size ≤ wr.drew.heap.size := hC.size
        clear hQ hC hc0 i1 i2 w1 w2
        generalize wr.drew = W at *
        go_wp2_with fail
        refine (qPush hQ2 hok HNEW.out hll).mono ?_
        rintro e w2 ⟨rfl, s', hQ3, hC3, hs2⟩
        have hC4 := hC2.trans' hC3 (by simp; omega)
        have hs3 : w.heap.size ≤ s' := by omega
        clear hQ2 hC2 hC3 hs2
        go_wp2_with fail
        go_roundw
        case rel => exact ⟨k + 1, s', _, by omega, by go_num, hQ3, hP2, hC4, hs3⟩
        case measure => simp [intOf]; omega
      · obtain rfl : k = N := by omega
        clear hlt
        have hl0 := hQ.lt
        have HLN : Hid (L.length = k) := hP.len
        have HKI : Hid ((∃ x ∈ L, x.id = (f : Int)) ↔ (1 ≤ f ∧ f ≤ k)) := by
          constructor
          · rintro ⟨x, h1, h2⟩
            obtain ⟨j, h3, h4⟩ := hP.el x h1
            omega
          · rintro ⟨h1, h2⟩
            obtain ⟨x, h3, h4⟩ := hP.has (f - 1) (by omega)
            exact ⟨x, h3, by omega⟩
        clear hP
        go_wp2_with fail
        refine (qAll hQ (by omega)).mono ?_
        rintro e w2 ⟨v2, rfl, hO2, c2⟩
        obtain ⟨a2, d2, rfl, hS2⟩ := hO2.osn
        rw [HLN.out]
        have hQ2 := hQ.chg c2 (by simp) (by simp)
        have hC2 := hC.trans c2
        have hz2 : wr.heap.size ≤ w2.heap.size := c2.size
        have hzw := hC.size
        clear hQ hC c2 hO2
        generalize wr.heap.size = B2 at *
        go_wp2_with fail
        refine (qRemove_any hQ2 (by omega) f).mono ?_
        rintro e w3 ⟨r, ok, rfl, hQ3, c3, hr1, hr2⟩
        have HR1 := Lib.hid hr1
        have HR2 : Hid (ok = true ↔ (1 ≤ f ∧ f ≤ k)) := hr2.trans HKI.out
        have hz3 : w2.heap.size ≤ w3.heap.size := c3.size
        have hQ4 := hQ3.alloc (.cells #[.int .i64 r.id, .int .i64 r.client, .bool r.buy, .int .u64 r.price, .int .u64 r.qty] 28)
        have hR4 : Blk (w3.alloc (.cells #[.int .i64 r.id, .int .i64 r.client, .bool r.buy, .int .u64 r.price, .int .u64 r.qty] 28)) w3.heap.size 28 (oc r) := Blk.new w3 (oc r) 28
        have hC4 := (hC2.trans' c3 (by simp; omega)).alloc (.cells #[.int .i64 r.id, .int .i64 r.client, .bool r.buy, .int .u64 r.price, .int .u64 r.qty] 28)
        have hS4 := (hS2.chg c3 (by simp; omega)).chg0 ((Chg.refl [] w3).alloc (.cells #[.int .i64 r.id, .int .i64 r.client, .bool r.buy, .int .u64 r.price, .int .u64 r.qty] 28))
        clear hQ2 hQ3 hC2 c3 hS2 hr1 hr2
        dsimp only
        go_wp2_with fail
        generalize w3.heap.size = g3 at *
        generalize w3.alloc _ = W3 at *
        have hlr : (sans f L).length ≤ k := by rw [← HLN.out]; exact sans_len _ _
        refine (qRemove_any hQ4 (by omega) f).mono ?_
        rintro e w4 ⟨r', ok', rfl, hQ5, c4, _, hr2⟩
        obtain rfl : ok' = false := by
          cases ok' with
          | false => rfl
          | true => exact absurd (hr2.1 rfl) (sans_has _ _)
        rw [sans_sans] at hQ5
        have hQ6 := hQ5.alloc (.cells #[.int .i64 r'.id, .int .i64 r'.client, .bool r'.buy, .int .u64 r'.price, .int .u64 r'.qty] 28)
        have hR6 := (hR4.chg c4 (by simp; omega)).alloc (.cells #[.int .i64 r'.id, .int .i64 r'.client, .bool r'.buy, .int .u64 r'.price, .int .u64 r'.qty] 28)
        have hC6 := (hC4.trans' c4 (by simp; omega)).alloc (.cells #[.int .i64 r'.id, .int .i64 r'.client, .bool r'.buy, .int .u64 r'.price, .int .u64 r'.qty] 28)
        have hS6 := (hS4.chg c4 (by simp; omega)).chg0 ((Chg.refl [] w4).alloc (.cells #[.int .i64 r'.id, .int .i64 r'.client, .bool r'.buy, .int .u64 r'.price, .int .u64 r'.qty] 28))
        have hz4 : W3.heap.size ≤ w4.heap.size := c4.size
        clear hQ4 hQ5 hC4 c4 hS4 hr2 hR4
        dsimp only
        go_wp2_with fail
        generalize w4.heap.size = g4 at *
        generalize w4.alloc _ = W4 at *
        have hl4 := hQ6.lt
        have hg3 := hR6.lt
        obtain ⟨M, hM⟩ : ∃ M, M = sans f L := ⟨_, rfl⟩
        rw [← hM] at hQ6 hlr
        have HM := Lib.hid hM
        clear hM
        refine (qAll hQ6 (by omega)).mono ?_
        rintro e w5 ⟨v5, rfl, hO5, c5⟩
        obtain ⟨a5, d5, rfl, hS5⟩ := hO5.osn
        have hQ7 := hQ6.chg c5 (by simp) (by simp)
        have hR7 := hR6.chg c5 (by simp)
        have hC7 := hC6.trans c5
        have hS7 := hS6.chg0 c5
        have hz5 : W4.heap.size ≤ w5.heap.size := c5.size
        clear hQ6 hR6 hC6 hS6 c5 hO5
        generalize W4.heap.size = B5 at *
        go_wp2_with fail
        obtain ⟨wo, rfl⟩ : ∃ wo : World, wo = wr := ⟨_, rfl⟩
        go_loopw [18, 74] (fun v i wr => ∃ j : Nat, j ≤ k ∧ i = .int .i64 j ∧ Chg [] w5 wr ∧ wr.ownsRow w5.heap.size 28 5 v (sans f (L.take j)).length (ocs (sans f (L.take j)))) (fun _ i _ => k - (intOf i).toNat)
        case atStart => exact ⟨0, by omega, rfl, Chg.refl _ _, World.ownsRow_nil _ _ _ _⟩
        case round =>
          obtain ⟨j, hj, rfl, hc, hown⟩ := hrel
          by_cases hlt : j < k
          · have hjL : j < L.length := by rw [HLN.out]; exact hlt
            obtain ⟨g2, rfl, hg2, x0, x1, x2, x3, x4⟩ := (hS7.chg0 hc).cells hjL
            have e1 : Hid ((L.getD j Ord.zero).id = f → sans f (L.take (j + 1)) = sans f (L.take j)) := sans_take_no f L hjL
            have e2 : Hid ((L.getD j Ord.zero).id ≠ f → sans f (L.take (j + 1)) = sans f (L.take j) ++ [L.getD j Ord.zero]) := sans_take_yes f L hjL
            have hl : (sans f (L.take j)).length ≤ 30 := by have := sans_len f (L.take j); have := List.length_take_le j L; omega
            generalize L.getD j Ord.zero = u at *
            generalize sans f (L.take j) = P at *
            clear hjL
            have hown2 := hown.alloc (.cells #[.int .i64 u.id, .int .i64 u.client, .bool u.buy, .int .u64 u.price, .int .u64 u.qty] 28)
            have hc2 := hc.alloc (.cells #[.int .i64 u.id, .int .i64 u.client, .bool u.buy, .int .u64 u.price, .int .u64 u.qty] 28)
            have hB2 : Blk (wr.alloc (.cells #[.int .i64 u.id, .int .i64 u.client, .bool u.buy, .int .u64 u.price, .int .u64 u.qty] 28)) wr.heap.size 28 (oc u) := Blk.new wr (oc u) 28
            have hz := hc.size
            by_cases hu : u.id = f
            · have u1 : (u.id != (f : Int)) = false := by simp [hu]
              have e3 := Lib.hid (e1.out hu)
              have HU := Lib.hid hu
              clear hu
              go_wp2_with fail
              go_roundw
              case rel => exact ⟨j + 1, by omega, by go_num, hc2, by rw [e3.out]; exact hown2⟩
              case measure => simp [intOf]; omega
            · have u1 : (u.id != (f : Int)) = true := by simp [hu]
              have e3 := Lib.hid (e2.out hu)
              clear hu
              go_upto_region 19 with (fail)
              clear hown hc x0 x1 x2 x3 x4
              generalize wr.heap.size = gx at *
              generalize wr.alloc _ = W at *
              have x0 := hB2.at (i := 0) rfl
              have x1 := hB2.at (i := 1) rfl
              have x2 := hB2.at (i := 2) rfl
              have x3 := hB2.at (i := 3) rfl
              have x4 := hB2.at (i := 4) rfl
              go_wp2_with (at_builtin; refine wpList_append_own _ rfl (.tmp 82) (.tmp 84) 35 rfl w5.heap.size 28 i0 (ov Ord.zero) 5 40 Try.underlying35 hi iz0 iz1 iz2 rfl (by decide) _ _ _ rfl (hown2.alloc _) ⟨W.heap.size, 0, none⟩ 1 1 (oc u) rfl rfl ?c1 ?c2 ?c3 ?c4 ?c5 ?_)
              case c1 => exact news_new W _ _
              case c2 => simp [oc, Value.oneCell']
              case c3 => unfold maxLen; omega
              case c4 => omega
              case c5 => have := hc2.size; simp; omega
              intro v' w1 hown1 hg1 _
              have hc1 : Chg [] w5 w1 := (hc2.alloc _).grown hg1 (fun k hk => .inr (own_base hown2 k hk))
              rw [← ocs_snoc] at hown1
              have hown3 : w1.ownsRow w5.heap.size 28 5 v' (sans f (L.take (j + 1))).length (ocs (sans f (L.take (j + 1)))) := by rw [e3.out]; simpa using hown1
              clear hg1 hown2 hc2 hown1 x0 x1 x2 x3 x4 hB2
              go_wp2_with fail
              go_roundw
              case rel => exact ⟨j + 1, by omega, by go_num, hc1, hown3⟩
              case measure => simp [intOf]; omega
          · obtain rfl : j = k := by omega
            clear hlt
            have hTM : sans f (L.take j) = M := by rw [List.take_of_length_le (by rw [HLN.out]; exact Nat.le_refl _), HM.out]
            rw [hTM] at hown
            have hO : Onew wr w5.heap.size _ M := hown
            obtain ⟨a8, d8, rfl, hS8⟩ := hO.osn
            have hQ8 := hQ7.chg hc (by simp) (by simp)
            have hR8 := hR7.chg hc (by simp)
            have hC8 := hC7.trans hc
            have hS9 := hS5.chg0 hc
            have hz8 : w5.heap.size ≤ wr.heap.size := hc.size
            clear hQ7 hR7 hC7 hS7 hS5 hc hown hO hTM
            have r0 := hR8.at (i := 0) rfl
            go_upto_region 21 with (fail)
            go_cut [120] from 87 to 119 (fun v wx => v = .bool false ∧ wr = wx)
            case first =>
              have hrr : ok = true → r.id = f := HR1.out
              have hio := HR2.out
              by_cases c1 : 1 ≤ f
              · have d1 : (1 : Int) ≤ (f : Int) := by omega
                by_cases c2 : f ≤ j
                · have d2 : (f : Int) ≤ (j : Int) := by omega
                  obtain rfl : ok = true := hio.2 ⟨c1, c2⟩
                  have r1 : (r.id != (f : Int)) = false := by simp [hrr rfl]
                  clear hrr hio
                  go_wp2_with fail
                  go_meet
                  exact ⟨rfl, rfl⟩
                · have d2 : ¬ (f : Int) ≤ (j : Int) := by omega
                  obtain rfl : ok = false := by
                    cases ok with
                    | false => rfl
                    | true => exact absurd (hio.1 rfl).2 c2
                  clear hrr hio
                  go_wp2_with fail
                  go_meet
                  exact ⟨rfl, rfl⟩
              · have d1 : ¬ (1 : Int) ≤ (f : Int) := by omega
                obtain rfl : ok = false := by
                  cases ok with
                  | false => rfl
                  | true => exact absurd (hio.1 rfl).1 c1
                clear hrr hio
                go_wp2_with fail
                go_meet
                exact ⟨rfl, rfl⟩
            case rest =>
              obtain ⟨rfl, rfl⟩ := hcut
              clear r0 hR8
              go_wp2_with fail
              obtain ⟨wp, rfl⟩ : ∃ wp : World, wp = wr := ⟨_, rfl⟩
              go_loopw [123] (fun i wr => ∃ h : Nat, h ≤ M.length ∧ i = .int .i64 h ∧ Chg [] wp wr) (fun i _ => M.length - (intOf i).toNat)
              case atStart => exact ⟨0, by omega, rfl, Chg.refl _ _⟩
              case round =>
                obtain ⟨h, hh, rfl, hc⟩ := hrel
                by_cases hlt : h < M.length
                · obtain ⟨g5, rfl, _, x0, x1, x2, x3, x4⟩ := (hS9.chg0 hc).cells hlt
                  obtain ⟨g8, rfl, _, y0, y1, y2, y3, y4⟩ := (hS8.chg0 hc).cells hlt
                  generalize M.getD h Ord.zero = u at *
                  have i1 : (0 : Int) ≤ (h : Int) := by omega
                  have i2 : (h : Int) < (M.length : Int) := by omega
                  go_wp2_with fail
                  go_quiet (fail)
                  go_wp2_with fail
                  go_roundw
                  case rel => exact ⟨h + 1, by omega, by go_num, hc.drewN _⟩
                  case measure => simp [intOf]; omega
                · obtain rfl : h = M.length := by omega
                  clear hlt
                  have hQ9 := hQ8.chg hc (by simp) (by simp)
                  have hC9 := hC8.trans hc
                  have hS10 := hS8.chg0 hc
                  have HOK : Hid (∀ x ∈ M, x.Ok) := hQ9.ok
                  clear hQ8 hC8 hS8 hS9 hc
                  go_wp2_with fail
                  refine (qCut_is hQ9 m _ rfl ⟨by omega, by omega⟩).mono ?_
                  rintro e w10 ⟨rfl, hQ10, c10⟩
                  have hC10 := hC9.trans' c10 (by simp; omega)
                  have hS11 := hS10.chg c10 (by simp; omega)
                  clear hQ9 hC9 c10 hS10
                  go_wp2_with fail
                  refine (qAll hQ10 (by rw [cutQ_len]; omega)).mono ?_
                  rintro e w11 ⟨v11, rfl, hO11, c11⟩
                  obtain ⟨a11, d11, rfl, hS12⟩ := hO11.osn
                  rw [cutQ_len]
                  have hC11 := hC10.trans c11
                  have hS13 := hS11.chg0 c11
                  have hz11 : w10.heap.size ≤ w11.heap.size := c11.size
                  clear hQ10 hC10 hS11 c11 hO11
                  generalize w10.heap.size = B11 at *
                  go_wp2_with fail
                  obtain ⟨wq, rfl⟩ : ∃ wq : World, wq = wr := ⟨_, rfl⟩
                  go_loopw [150] (fun i wr => ∃ h : Nat, h ≤ M.length ∧ i = .int .i64 h ∧ Chg [] w11 wr) (fun i _ => M.length - (intOf i).toNat)
                  case atStart => exact ⟨0, by omega, rfl, Chg.refl _ _⟩
                  case round =>
                    obtain ⟨h, hh, rfl, hc⟩ := hrel
                    by_cases hlt : h < M.length
                    · obtain ⟨g8, rfl, _, hx⟩ := (hS13.chg0 hc).cells hlt
                      obtain ⟨g9, rfl, _, hO⟩ := (hS12.chg0 hc).cells (k := h) (by rw [cutQ_len]; exact hlt)
                      have hk := HOK.out _ (mem_getDO hlt)
                      have hq1 := hk.qty
                      clear hk
                      have i1 : (0 : Int) ≤ (h : Int) := by omega
                      have i2 : (h : Int) < (M.length : Int) := by omega
                      have hz0 := hx.lt
                      have hz1 := hO.lt
                      have hzc := hc.size
                      by_cases hz : h = 0
                      · have hget : (cutQ m M).getD h Ord.zero = { M.getD h Ord.zero with qty := if m ≤ (M.getD h Ord.zero).qty then (M.getD h Ord.zero).qty - m else (M.getD h Ord.zero).qty } := by subst hz; exact cutQ_get0 m M hlt
                        rw [hget] at hO
                        clear hget
                        have h3 : ((h : Int) == 0) = true := by simp [hz]
                        generalize M.getD h Ord.zero = u at *
                        by_cases hmq : (m : Int) ≤ u.qty
                        · rw [if_pos hmq] at hO
                          obtain ⟨x0, x1, x2, x3, x4⟩ := hx
                          have w1 : IntKind.u64.wrap (u.qty - (m : Int)) = u.qty - (m : Int) := by have := hq1.1; have := hq1.2; simp [IntKind.wrap, IntKind.bits, IntKind.signed]; omega
                          have hK : Chg [] wr (wr.alloc (.cells #[.int .i64 u.id, .int .i64 u.client, .bool u.buy, .int .u64 u.price, .int .u64 (u.qty - (m : Int))] 28)) := (Chg.refl [] wr).alloc _
                          have hB : Blk (wr.alloc (.cells #[.int .i64 u.id, .int .i64 u.client, .bool u.buy, .int .u64 u.price, .int .u64 (u.qty - (m : Int))] 28)) wr.heap.size 28 (oc { u with qty := u.qty - m }) := Blk.new wr (oc { u with qty := u.qty - m }) 28
                          have hO2 := hO.chg hK (by simp)
                          have hc2 := hc.trans hK
                          have HZ := Lib.hid hz
                          clear hz
                          go_upto_region 40 with (fail)
                          clear hK hO hc x0 x1 x2 x3 x4 w1
                          generalize wr.heap.size = gx at *
                          generalize wr.alloc _ = W at *
                          obtain ⟨x0, x1, x2, x3, x4⟩ := hO2
                          have y0 := hB.at (i := 0) rfl
                          have y1 := hB.at (i := 1) rfl
                          have y2 := hB.at (i := 2) rfl
                          have y3 := hB.at (i := 3) rfl
                          have y4 := hB.at (i := 4) rfl
                          try dsimp only at x0 x1 x2 x3 x4 y0 y1 y2 y3 y4
                          go_wp2_with fail
                          go_quiet (fail)
                          go_wp2_with fail
                          go_roundw
                          case rel => exact ⟨h + 1, by omega, by go_num, hc2.drewN _⟩
                          case measure => simp [intOf]; omega
                        · rw [if_neg hmq] at hO
                          obtain ⟨x0, x1, x2, x3, x4⟩ := hx
                          have hK : Chg [] wr (wr.alloc (.cells #[.int .i64 u.id, .int .i64 u.client, .bool u.buy, .int .u64 u.price, .int .u64 u.qty] 28)) := (Chg.refl [] wr).alloc _
                          have hB : Blk (wr.alloc (.cells #[.int .i64 u.id, .int .i64 u.client, .bool u.buy, .int .u64 u.price, .int .u64 u.qty] 28)) wr.heap.size 28 (oc u) := Blk.new wr (oc u) 28
                          have hO2 := hO.chg hK (by simp)
                          have hc2 := hc.trans hK
                          have HZ := Lib.hid hz
                          clear hz
                          go_upto_region 40 with (fail)
                          clear hK hO hc x0 x1 x2 x3 x4
                          generalize wr.heap.size = gx at *
                          generalize wr.alloc _ = W at *
                          obtain ⟨x0, x1, x2, x3, x4⟩ := hO2
                          have y0 := hB.at (i := 0) rfl
                          have y1 := hB.at (i := 1) rfl
                          have y2 := hB.at (i := 2) rfl
                          have y3 := hB.at (i := 3) rfl
                          have y4 := hB.at (i := 4) rfl
                          try dsimp only at x0 x1 x2 x3 x4 y0 y1 y2 y3 y4
                          go_wp2_with fail
                          go_quiet (fail)
                          go_wp2_with fail
                          go_roundw
                          case rel => exact ⟨h + 1, by omega, by go_num, hc2.drewN _⟩
                          case measure => simp [intOf]; omega
                      · rw [cutQ_get m M h (by omega)] at hO
                        have h3 : ((h : Int) == 0) = false := beq_eq_false_iff_ne.2 (by omega)
                        generalize M.getD h Ord.zero = u at *
                        obtain ⟨x0, x1, x2, x3, x4⟩ := hx
                        have hK : Chg [] wr (wr.alloc (.cells #[.int .i64 u.id, .int .i64 u.client, .bool u.buy, .int .u64 u.price, .int .u64 u.qty] 28)) := (Chg.refl [] wr).alloc _
                        have hB : Blk (wr.alloc (.cells #[.int .i64 u.id, .int .i64 u.client, .bool u.buy, .int .u64 u.price, .int .u64 u.qty] 28)) wr.heap.size 28 (oc u) := Blk.new wr (oc u) 28
                        have hO2 := hO.chg hK (by simp)
                        have hc2 := hc.trans hK
                        have HZ := Lib.hid hz
                        clear hz
                        go_upto_region 40 with (fail)
                        clear hK hO hc x0 x1 x2 x3 x4
                        generalize wr.heap.size = gx at *
                        generalize wr.alloc _ = W at *
                        obtain ⟨x0, x1, x2, x3, x4⟩ := hO2
                        have y0 := hB.at (i := 0) rfl
                        have y1 := hB.at (i := 1) rfl
                        have y2 := hB.at (i := 2) rfl
                        have y3 := hB.at (i := 3) rfl
                        have y4 := hB.at (i := 4) rfl
                        try dsimp only at x0 x1 x2 x3 x4 y0 y1 y2 y3 y4
                        go_wp2_with fail
                        go_quiet (fail)
                        go_wp2_with fail
                        go_roundw
                        case rel => exact ⟨h + 1, by omega, by go_num, hc2.drewN _⟩
                        case measure => simp [intOf]; omega
                    · obtain rfl : h = M.length := by omega
                      have hC12 := hC11.trans hc
                      clear hlt hS13 hS12 hC11 hc
                      go_wp2_with fail
                      refine (awake8 _).mono ?_
                      rintro e w12 ⟨rfl, hw⟩
                      go_wp2_with fail
                      go_ret
                      exact ⟨rfl, hC12.below.trans (hw.mono hC12.size)⟩
end Go.Proofs.Ytofcphfgpnobnaa
