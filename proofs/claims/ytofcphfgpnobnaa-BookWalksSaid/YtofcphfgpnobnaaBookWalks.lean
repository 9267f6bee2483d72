import Derived.Test.YtofcphfgpnobnaaBk6
import Derived.Test.YtofcphfgpnobnaaShell
import Derived.BigQuiet
import Derived.Deep.QuietTactic
namespace Go.Proofs.Ytofcphfgpnobnaa
set_option linter.unusedVariables false
open Go Go.Proofs Go.RowKit
attribute [local go_sem ↓] Go.wp_at_zero Go.wp_at_succ

/-- What stands behind k orders of one side. -/
structure Wk9 (k : Nat) (L M : List Ord) : Prop where
  fr : Fresh k L M
  len : L.length + M.length = k
  all : ∀ x ∈ L ++ M, 1 ≤ x.qty ∧ x.qty ≤ 4
theorem Wk9.start : Wk9 0 [] [] := ⟨Fresh.start, rfl, by simp⟩
theorem Wk9.rest {k : Nat} {L M : List Ord} (h : Wk9 k L M) {o : Ord} (ho : o.id = (k : Int) + 1) (hq : 1 ≤ o.qty ∧ o.qty ≤ 4) : Wk9 (k + 1) (restL o L) (restM o M) :=
  ⟨h.fr.rest ho, by rw [rest_len, if_pos (by omega), h.len], rest_all h.all hq⟩

set_option maxRecDepth 100000 in
set_option maxHeartbeats 16000000 in
theorem walks_true (a : Option Addr) (n cap : Nat) (z : List Int) (pr qt : Int) (w : World) (hn : n = z.length) (hzm : n ≤ 9223372036854775807) (hU : ∀ x ∈ z, U x) (hr0 : Row64 w a z) (N : Nat) (hN : (n ≤ 20 ∧ N = n) ∨ (20 < n ∧ N = 20)) :
    Calls Try.prog 8 #[.slice a n cap, .bool true, .int .u64 pr, .int .u64 qt] w fun e w' => e = .returned (.bool true) ∧ Below w.heap.size w w' := by
  have HN := Lib.hid hn
  have HU := Lib.hid hU; clear hU
  have HR := Lib.hid hr0; clear hr0
  have n1 : N ≤ n := by omega
  have n2 : N ≤ 20 := by omega
  have HNN := Lib.hid hN
  clear hn hN
  obtain ⟨f1, hf1, hl1⟩ := and7_u64 pr
  obtain ⟨f2, hf2, hl2⟩ := and31_u64 qt
  go_enter Try.func8, Try.ntmps8
  go_wp2_with fail
  refine (bNewS w w (Chg.refl _ _)).mono ?_
  rintro e w1 ⟨kb, F0, rfl, h1, _, _⟩
  go_upto_region 4 with (fail)
  go_cut [10] from 23 to 25 (fun v wx => v = .int .i64 (N : Int) ∧ w1 = wx)
  case first =>
    rcases HNN.out with ⟨m1, m2⟩ | ⟨m1, m2⟩
    · go_wp2_with fail
      go_meet
      exact ⟨by rw [m2], rfl⟩
    · go_wp2_with fail
      go_meet
      exact ⟨by rw [m2]; rfl, rfl⟩
  case rest =>
    obtain ⟨rfl, rfl⟩ := hcut
    go_wp2_with fail
    go_loopw [11] (fun i wr => ∃ (k : Nat) (F : List Nat) (Q : List Ord), k ≤ N ∧ i = .int .i64 k ∧ BkS w wr F kb [] Q ∧ Hid (Wk9 k [] Q)) (fun i _ => N - (intOf i).toNat)
    case atStart => exact ⟨0, F0, [], by omega, rfl, h1, Wk9.start⟩
    case round =>
      clear h1
      obtain ⟨k, F, Q, hk, rfl, hB, hO⟩ := hrel
      have hll : Q.length = k := by have := hO.out.len; simpa using this
      by_cases hlt : k < N
      · obtain ⟨b0, off, rfl, hcell⟩ := row_cells HR.out (k := k) (by rw [← HN.out]; omega)
        have hc0 := hcell wr hB.c.below
        generalize z.getD k 0 = v at *
        obtain ⟨f3, g1, g2⟩ := and7_u64 v
        obtain ⟨f4, g3, g4⟩ := and3_u64 (v / 8)
        obtain ⟨hl1, hl2⟩ := hO.out.fr.new (i := (k : Int) + 1) (by omega)
        have HL1 := Lib.hid hl1
        have HL2 := Lib.hid hl2
        have i1 : (0 : Int) ≤ (k : Int) := by omega
        have i2 : (k : Int) < (n : Int) := by omega
        have w1 : IntKind.i64.wrap ((k : Int) + 1) = (k : Int) + 1 := IntWalk.i64_in _ (by omega)
        have w2 : IntKind.u64.wrap ((f4 : Int) + 1) = (f4 : Int) + 1 := by simp [IntKind.wrap, IntKind.bits, IntKind.signed]; omega
        have zL : Q.length < 999999999999 := by omega
        have hok : Ord.Ok ⟨(k : Int) + 1, k, false, f3, (f4 : Int) + 1⟩ := ordOk _ _ _ _ _ ⟨by omega, by omega⟩ ⟨by omega, by omega⟩ ⟨by omega, by omega⟩ ⟨by omega, by omega⟩
        have hO2 := hO.out.rest (o := ⟨(k : Int) + 1, k, false, f3, (f4 : Int) + 1⟩) rfl (by show (1 : Int) ≤ (f4 : Int) + 1 ∧ (f4 : Int) + 1 ≤ 4; omega)
        have e1 : restL ⟨(k : Int) + 1, k, false, f3, (f4 : Int) + 1⟩ [] = [] := if_neg (by simp)
        have e2 : restM ⟨(k : Int) + 1, k, false, f3, (f4 : Int) + 1⟩ Q = restM ⟨(k : Int) + 1, k, false, f3, (f4 : Int) + 1⟩ Q := rfl
        rw [e1, e2] at hO2
        have HO2 := Lib.hid hO2
        have HE : Hid ((restL ⟨(k : Int) + 1, k, false, f3, (f4 : Int) + 1⟩ [], restM ⟨(k : Int) + 1, k, false, f3, (f4 : Int) + 1⟩ Q) = ([], restM ⟨(k : Int) + 1, k, false, f3, (f4 : Int) + 1⟩ Q)) := by show _ = _; rw [e1, e2]
        clear hl1 hl2 hcell hll hO hO2 e1 e2
        go_wp2_with fail
        go_still_tail 19, (by kernel_rfl)
        change wpList _ _ _ _ _ wr.drew
        have hB2 := hB.to (Chg.refl _ _).drew
        clear hB hc0 i1 i2 w1 w2
        generalize wr.drew = W at *
        go_wp2_with fail
        refine (bRest_is hB2 ⟨(k : Int) + 1, k, false, f3, (f4 : Int) + 1⟩ _ _ HE.out hok HL1.out HL2.out (by simp) zL).mono ?_
        rintro e w2 ⟨rfl, F', hB3, _, _⟩
        clear hB2
        go_wp2_with fail
        go_roundw
        case rel => exact ⟨k + 1, F', _, by omega, by go_num, hB3, HO2⟩
        case measure => simp [intOf]; omega
      · obtain rfl : k = N := by omega
        clear hlt
        have HL := Lib.hid hll
        have hall := Lib.hid hO.out.all
        clear hll
        have hz1 := hB.new
        go_wp2_with fail
        refine (bAsks hB.bk (by rw [HL.out]; omega)).mono ?_
        rintro e w3 ⟨v2, rfl, hX, c2⟩
        have hB3 := hB.to c2
        have hS2 := c2.size
        clear hB c2
        obtain ⟨a2, d2, rfl, hX2⟩ := hX.osn
        rw [HL.out]
        clear hX
        obtain ⟨T, lft, Q', hmch⟩ : ∃ T lft Q', mch ⟨99, 77, true, f1, f2⟩ f2 Q = (T, lft, Q') := ⟨_, _, _, rfl⟩
        have hqq := mch_left ⟨99, 77, true, f1, f2⟩ Q (fun x hx => by have := hall.out x (by simp [hx]); omega) f2 (by omega)
        have hlen := mch_len ⟨99, 77, true, f1, f2⟩ Q f2
        rw [hmch] at hqq hlen
        obtain ⟨q1, q2⟩ := hqq
        obtain ⟨q3, q4⟩ := hlen
        dsimp only at q1 q2 q3 q4
        have HIS : Hid ((mres ⟨99, 77, true, f1, f2⟩ [] Q).1 = T ∧ (mres ⟨99, 77, true, f1, f2⟩ [] Q).2.1 = lft ∧ mL ⟨99, 77, true, f1, f2⟩ [] Q = [] ∧ mM ⟨99, 77, true, f1, f2⟩ [] Q = Q') := by
          have e : mres ⟨99, 77, true, f1, f2⟩ [] Q = (T, lft, Q') := hmch
          unfold mL mM
          rw [e]
          exact ⟨rfl, rfl, rfl, rfl⟩
        have HAT : Hid (MchAt ⟨99, 77, true, f1, f2⟩ Q T lft Q' 0 f2) := MchAt.start hmch
        have hqk : Q'.length ≤ k := by rw [← HL.out]; exact q4
        have hTk : T.length ≤ k := by rw [← HL.out]; exact q3
        clear hmch q3 q4
        go_wp2_with fail
        refine (bMatch_is hB3 ⟨99, 77, true, f1, f2⟩ T lft [] Q' HIS.out (ordOk _ _ _ _ _ ⟨by omega, by omega⟩ ⟨by omega, by omega⟩ ⟨by omega, by omega⟩ ⟨by omega, by omega⟩) (by simp) (by rw [HL.out]; omega)).mono ?_
        rintro e w4 ⟨a4, d4, rfl, hT, hB4, c4⟩
        have hX4 : Osn w4 _ a2 Q := hX2.chg c4 hz1
        have hS4 := c4.size
        clear hX2 c4 hB3
        go_wp2_with fail
        refine (bAsks hB4.bk (by omega)).mono ?_
        rintro e w5 ⟨v5, rfl, hY, c5⟩
        have hB5 := hB4.to c5
        have hT5 := hT.chg0 c5
        have hX5 := hX4.chg0 c5
        clear hB4 hT hX4 c5
        obtain ⟨a5, d5, rfl, hY5⟩ := hY.osn
        have HC := Lib.hid hB5.c
        clear hY hB5
        obtain ⟨nQ, hnQ⟩ : ∃ m, Q'.length = m := ⟨_, rfl⟩
        obtain ⟨nT, hnT⟩ : ∃ m, T.length = m := ⟨_, rfl⟩
        rw [hnQ, hnT]
        have HQ := Lib.hid hnQ
        have HT := Lib.hid hnT
        rw [hnQ] at hqk
        rw [hnT] at hTk
        clear hnQ hnT
        go_wp2_with fail
        go_loopw [16, 17] (fun i v wr => ∃ (j : Nat) (q : Int), j ≤ k ∧ i = .int .i64 j ∧ v = .int .u64 q ∧ 0 ≤ q ∧ q ≤ 31 ∧ Hid (MchAt ⟨99, 77, true, f1, f2⟩ Q T lft Q' j q) ∧ Chg [] w5 wr) (fun i _ _ => k - (intOf i).toNat)
        case atStart => exact ⟨0, f2, by omega, rfl, rfl, by omega, by omega, HAT, Chg.refl _ _⟩
        case round =>
          clear HAT
          obtain ⟨j, q, hj, rfl, rfl, u1, u2, hA, hch⟩ := hrel
          by_cases hjk : j < k
          · by_cases hq0 : 0 < q
            · have hjl : j < Q.length := by rw [HL.out]; exact hjk
              obtain ⟨g9, rfl, _, x0, x1, x2, x3, x4⟩ := (hX5.chg0 hch).cells hjl
              have hpart := Lib.hid (fun h1 h2 => hA.out.part hjl h1 hq0 h2)
              have hfull := Lib.hid (fun h1 h2 => hA.out.all hjl h1 hq0 h2)
              have hno := Lib.hid (fun h1 => hA.out.no hjl h1)
              obtain ⟨p1, p2⟩ := hall.out _ (List.mem_append.2 (.inr (getD_mem hjl)))
              generalize Q.getD j Ord.zero = u at *
              have i1 : (0 : Int) ≤ (j : Int) := by omega
              have i2 : (j : Int) < (k : Int) := by omega
              have hc2 := hch.alloc (.cells #[.int .i64 u.id, .int .i64 u.client, .bool u.buy, .int .u64 u.price, .int .u64 u.qty] 28)
              have hb2 : Blk (wr.alloc (.cells #[.int .i64 u.id, .int .i64 u.client, .bool u.buy, .int .u64 u.price, .int .u64 u.qty] 28)) wr.heap.size 28 (oc u) := Blk.new wr (oc u) 28
              have w3 : IntKind.i64.wrap ((j : Int) + 1) = (j : Int) + 1 := IntWalk.i64_in _ (by omega)
              clear hjl hA hch
              by_cases hmt : u.price ≤ (f1 : Int)
              · have hmeet : meet ⟨99, 77, true, f1, f2⟩ u = true := by simp [meet]; exact hmt
                rcases (by omega : q < u.qty ∨ q = u.qty ∨ u.qty < q) with hlt | hlt | hlt
                · obtain ⟨c1, c2, c3, c4⟩ := hpart.out hmeet hlt
                  clear hpart hfull hno
                  go_upto_region 23 with (fail)
                  generalize wr.heap.size = g8 at *
                  generalize wr.alloc _ = W8 at *
                  obtain ⟨gt, rfl, _, _, tat⟩ := tr_at hT5 c1
                  rw [c2] at tat
                  have t0 : W8.cell? ⟨gt, j * 6, none⟩ = some (.int .i64 u.id) := hc2.cell tat.c0 (by simp)
                  have t1 : W8.cell? ⟨gt, j * 6 + 1, none⟩ = some (.int .i64 99) := hc2.cell tat.c1 (by simp)
                  have t4 : W8.cell? ⟨gt, j * 6 + 4, none⟩ = some (.int .u64 u.price) := hc2.cell tat.c4 (by simp)
                  have t5 : W8.cell? ⟨gt, j * 6 + 5, none⟩ = some (.int .u64 q) := hc2.cell tat.c5 (by simp)
                  have y0 := hb2.at (i := 0) rfl
                  have y3 := hb2.at (i := 3) rfl
                  have y4 := hb2.at (i := 4) rfl
                  have hjT : (j : Int) < (nT : Int) := by rw [HT.out] at c1; omega
                  have dT : decide (nT ≤ j) = false := by simp; omega
                  clear tat c1 c2
                  have HA3 := Lib.hid c3
                  have HQ0 : Q'.getD 0 Ord.zero = { u with qty := u.qty - q } := by rw [c4]; rfl
                  have hn0 : 0 < Q'.length := by rw [c4]; simp
                  obtain ⟨gq, rfl, _, qat⟩ := hY5.cells hn0
                  rw [HQ0] at qat
                  have r0 : W8.cell? ⟨gq, 0, none⟩ = some (.int .i64 u.id) := by have := hc2.cell qat.c0 (by simp); simpa using this
                  have r4 : W8.cell? ⟨gq, 4, none⟩ = some (.int .u64 (u.qty - q)) := by have := hc2.cell qat.c4 (by simp); simpa using this
                  have hnq : (0 : Int) < (nQ : Int) := by rw [HQ.out] at hn0; omega
                  have dQ : ((nQ : Int) == 0) = false := beq_eq_false_iff_ne.2 (by omega)
                  have dQn : (nQ == 0) = false := beq_eq_false_iff_ne.2 (by omega)
                  have wq : IntKind.u64.wrap (u.qty - q) = u.qty - q := by simp [IntKind.wrap, IntKind.bits, IntKind.signed]; omega
                  clear c3 c4 HQ0 hn0 qat hb2
                  go_quiet (fail)
                  go_wp2_with fail
                  go_quiet (fail)
                  go_wp2_with fail
                  go_roundw
                  case rel => exact ⟨j + 1, 0, by omega, by go_num, rfl, by omega, by omega, HA3, hc2.drewN _⟩
                  case measure => simp [intOf]; omega
                · obtain ⟨c1, c2, c3⟩ := hfull.out hmeet (by omega)
                  subst hlt
                  clear hpart hfull hno
                  go_upto_region 23 with (fail)
                  generalize wr.heap.size = g8 at *
                  generalize wr.alloc _ = W8 at *
                  obtain ⟨gt, rfl, _, _, tat⟩ := tr_at hT5 c1
                  rw [c2] at tat
                  have t0 : W8.cell? ⟨gt, j * 6, none⟩ = some (.int .i64 u.id) := hc2.cell tat.c0 (by simp)
                  have t1 : W8.cell? ⟨gt, j * 6 + 1, none⟩ = some (.int .i64 99) := hc2.cell tat.c1 (by simp)
                  have t4 : W8.cell? ⟨gt, j * 6 + 4, none⟩ = some (.int .u64 u.price) := hc2.cell tat.c4 (by simp)
                  have t5 : W8.cell? ⟨gt, j * 6 + 5, none⟩ = some (.int .u64 u.qty) := hc2.cell tat.c5 (by simp)
                  have y0 := hb2.at (i := 0) rfl
                  have y3 := hb2.at (i := 3) rfl
                  have y4 := hb2.at (i := 4) rfl
                  have hjT : (j : Int) < (nT : Int) := by rw [HT.out] at c1; omega
                  have dT : decide (nT ≤ j) = false := by simp; omega
                  clear tat c1 c2
                  have HA3 := Lib.hid c3
                  rw [Int.sub_self] at HA3
                  clear c3 hb2
                  go_quiet (fail)
                  have hc9 := hc2.drewN nq
                  go_wp2_with fail
                  go_roundw
                  case rel => exact ⟨j + 1, 0, by omega, by go_num, rfl, by omega, by omega, HA3, hc9⟩
                  case measure => simp [intOf]; omega
                · obtain ⟨c1, c2, c3⟩ := hfull.out hmeet (by omega)
                  clear hpart hfull hno
                  go_upto_region 23 with (fail)
                  generalize wr.heap.size = g8 at *
                  generalize wr.alloc _ = W8 at *
                  obtain ⟨gt, rfl, _, _, tat⟩ := tr_at hT5 c1
                  rw [c2] at tat
                  have t0 : W8.cell? ⟨gt, j * 6, none⟩ = some (.int .i64 u.id) := hc2.cell tat.c0 (by simp)
                  have t1 : W8.cell? ⟨gt, j * 6 + 1, none⟩ = some (.int .i64 99) := hc2.cell tat.c1 (by simp)
                  have t4 : W8.cell? ⟨gt, j * 6 + 4, none⟩ = some (.int .u64 u.price) := hc2.cell tat.c4 (by simp)
                  have t5 : W8.cell? ⟨gt, j * 6 + 5, none⟩ = some (.int .u64 u.qty) := hc2.cell tat.c5 (by simp)
                  have y0 := hb2.at (i := 0) rfl
                  have y3 := hb2.at (i := 3) rfl
                  have y4 := hb2.at (i := 4) rfl
                  have hjT : (j : Int) < (nT : Int) := by rw [HT.out] at c1; omega
                  have dT : decide (nT ≤ j) = false := by simp; omega
                  clear tat c1 c2
                  have HA3 := Lib.hid c3
                  clear c3 hb2
                  go_quiet (fail)
                  have hc9 := hc2.drewN nq
                  go_wp2_with fail
                  go_roundw
                  case rel => exact ⟨j + 1, q - u.qty, by omega, by go_num, rfl, by omega, by omega, HA3, hc9⟩
                  case measure => simp [intOf]; omega
              · have hmeet : meet ⟨99, 77, true, f1, f2⟩ u = false := by simp [meet]; omega
                obtain ⟨h1, h2⟩ := hno.out hmeet
                rw [HT.out] at h1
                subst h1 h2
                clear hpart hfull hno
                have hc3 := hc2
                clear hc2
                go_wp2_with fail
                refine (awake9 _).mono ?_
                rintro e w10 ⟨rfl, c10⟩
                go_wp2_with fail
                go_ret
                exact ⟨rfl, (HC.out.trans (hc3.trans c10)).below⟩
            · obtain rfl : q = 0 := by omega
              obtain ⟨h1, h2⟩ := hA.out.zero
              rw [HT.out] at h1
              subst h1 h2
              have hc3 := hch
              clear hA hch
              go_wp2_with fail
              refine (awake9 _).mono ?_
              rintro e w10 ⟨rfl, c10⟩
              go_wp2_with fail
              go_ret
              exact ⟨rfl, (HC.out.trans (hc3.trans c10)).below⟩
          · obtain rfl : j = k := by omega
            have hA2 : MchAt ⟨99, 77, true, f1, f2⟩ Q T lft Q' Q.length q := by rw [HL.out]; exact hA.out
            obtain ⟨h1, h2⟩ := hA2.end_
            rw [HT.out, HL.out] at h1
            subst h1 h2
            have hc3 := hch
            clear hA hA2 hch
            go_wp2_with fail
            refine (awake9 _).mono ?_
            rintro e w10 ⟨rfl, c10⟩
            go_wp2_with fail
            go_ret
            exact ⟨rfl, (HC.out.trans (hc3.trans c10)).below⟩

set_option maxRecDepth 100000 in
set_option maxHeartbeats 16000000 in
theorem walks_false (a : Option Addr) (n cap : Nat) (z : List Int) (pr qt : Int) (w : World) (hn : n = z.length) (hzm : n ≤ 9223372036854775807) (hU : ∀ x ∈ z, U x) (hr0 : Row64 w a z) (N : Nat) (hN : (n ≤ 20 ∧ N = n) ∨ (20 < n ∧ N = 20)) :
    Calls Try.prog 8 #[.slice a n cap, .bool false, .int .u64 pr, .int .u64 qt] w fun e w' => e = .returned (.bool true) ∧ Below w.heap.size w w' := by
  have HN := Lib.hid hn
  have HU := Lib.hid hU; clear hU
  have HR := Lib.hid hr0; clear hr0
  have n1 : N ≤ n := by omega
  have n2 : N ≤ 20 := by omega
  have HNN := Lib.hid hN
  clear hn hN
  obtain ⟨f1, hf1, hl1⟩ := and7_u64 pr
  obtain ⟨f2, hf2, hl2⟩ := and31_u64 qt
  go_enter Try.func8, Try.ntmps8
  go_wp2_with fail
  refine (bNewS w w (Chg.refl _ _)).mono ?_
  rintro e w1 ⟨kb, F0, rfl, h1, _, _⟩
  go_upto_region 4 with (fail)
  go_cut [10] from 23 to 25 (fun v wx => v = .int .i64 (N : Int) ∧ w1 = wx)
  case first =>
    rcases HNN.out with ⟨m1, m2⟩ | ⟨m1, m2⟩
    · go_wp2_with fail
      go_meet
      exact ⟨by rw [m2], rfl⟩
    · go_wp2_with fail
      go_meet
      exact ⟨by rw [m2]; rfl, rfl⟩
  case rest =>
    obtain ⟨rfl, rfl⟩ := hcut
    go_wp2_with fail
    go_loopw [11] (fun i wr => ∃ (k : Nat) (F : List Nat) (Q : List Ord), k ≤ N ∧ i = .int .i64 k ∧ BkS w wr F kb Q [] ∧ Hid (Wk9 k Q [])) (fun i _ => N - (intOf i).toNat)
    case atStart => exact ⟨0, F0, [], by omega, rfl, h1, Wk9.start⟩
    case round =>
      clear h1
      obtain ⟨k, F, Q, hk, rfl, hB, hO⟩ := hrel
      have hll : Q.length = k := by have := hO.out.len; simpa using this
      by_cases hlt : k < N
      · obtain ⟨b0, off, rfl, hcell⟩ := row_cells HR.out (k := k) (by rw [← HN.out]; omega)
        have hc0 := hcell wr hB.c.below
        generalize z.getD k 0 = v at *
        obtain ⟨f3, g1, g2⟩ := and7_u64 v
        obtain ⟨f4, g3, g4⟩ := and3_u64 (v / 8)
        obtain ⟨hl1, hl2⟩ := hO.out.fr.new (i := (k : Int) + 1) (by omega)
        have HL1 := Lib.hid hl1
        have HL2 := Lib.hid hl2
        have i1 : (0 : Int) ≤ (k : Int) := by omega
        have i2 : (k : Int) < (n : Int) := by omega
        have w1 : IntKind.i64.wrap ((k : Int) + 1) = (k : Int) + 1 := IntWalk.i64_in _ (by omega)
        have w2 : IntKind.u64.wrap ((f4 : Int) + 1) = (f4 : Int) + 1 := by simp [IntKind.wrap, IntKind.bits, IntKind.signed]; omega
        have zL : Q.length < 999999999999 := by omega
        have hok : Ord.Ok ⟨(k : Int) + 1, k, true, f3, (f4 : Int) + 1⟩ := ordOk _ _ _ _ _ ⟨by omega, by omega⟩ ⟨by omega, by omega⟩ ⟨by omega, by omega⟩ ⟨by omega, by omega⟩
        have hO2 := hO.out.rest (o := ⟨(k : Int) + 1, k, true, f3, (f4 : Int) + 1⟩) rfl (by show (1 : Int) ≤ (f4 : Int) + 1 ∧ (f4 : Int) + 1 ≤ 4; omega)
        have e1 : restL ⟨(k : Int) + 1, k, true, f3, (f4 : Int) + 1⟩ Q = restL ⟨(k : Int) + 1, k, true, f3, (f4 : Int) + 1⟩ Q := rfl
        have e2 : restM ⟨(k : Int) + 1, k, true, f3, (f4 : Int) + 1⟩ [] = [] := if_neg (by simp)
        rw [e1, e2] at hO2
        have HO2 := Lib.hid hO2
        have HE : Hid ((restL ⟨(k : Int) + 1, k, true, f3, (f4 : Int) + 1⟩ Q, restM ⟨(k : Int) + 1, k, true, f3, (f4 : Int) + 1⟩ []) = (restL ⟨(k : Int) + 1, k, true, f3, (f4 : Int) + 1⟩ Q, [])) := by show _ = _; rw [e1, e2]
        clear hl1 hl2 hcell hll hO hO2 e1 e2
        go_wp2_with fail
        go_still_tail 19, (by kernel_rfl)
        change wpList _ _ _ _ _ wr.drew
        have hB2 := hB.to (Chg.refl _ _).drew
        clear hB hc0 i1 i2 w1 w2
        generalize wr.drew = W at *
        go_wp2_with fail
        refine (bRest_is hB2 ⟨(k : Int) + 1, k, true, f3, (f4 : Int) + 1⟩ _ _ HE.out hok HL1.out HL2.out zL (by simp)).mono ?_
        rintro e w2 ⟨rfl, F', hB3, _, _⟩
        clear hB2
        go_wp2_with fail
        go_roundw
        case rel => exact ⟨k + 1, F', _, by omega, by go_num, hB3, HO2⟩
        case measure => simp [intOf]; omega
      · obtain rfl : k = N := by omega
        clear hlt
        have HL := Lib.hid hll
        have hall := Lib.hid hO.out.all
        clear hll
        have hz1 := hB.new
        go_wp2_with fail
        refine (bAsks hB.bk (by simp)).mono ?_
        rintro e w2 ⟨v1, rfl, _, c1⟩
        have hB2 := hB.to c1
        clear hB
        have hS1 := c1.size
        go_wp2_with fail
        refine (bBids hB2.bk (by rw [HL.out]; omega)).mono ?_
        rintro e w3 ⟨v2, rfl, hX, c2⟩
        have hB3 := hB2.to c2
        have hS2 := c2.size
        clear hB2 c1 c2
        obtain ⟨a2, d2, rfl, hX2⟩ := hX.osn
        rw [HL.out]
        clear hX
        obtain ⟨T, lft, Q', hmch⟩ : ∃ T lft Q', mch ⟨99, 77, false, f1, f2⟩ f2 Q = (T, lft, Q') := ⟨_, _, _, rfl⟩
        have hqq := mch_left ⟨99, 77, false, f1, f2⟩ Q (fun x hx => by have := hall.out x (by simp [hx]); omega) f2 (by omega)
        have hlen := mch_len ⟨99, 77, false, f1, f2⟩ Q f2
        rw [hmch] at hqq hlen
        obtain ⟨q1, q2⟩ := hqq
        obtain ⟨q3, q4⟩ := hlen
        dsimp only at q1 q2 q3 q4
        have HIS : Hid ((mres ⟨99, 77, false, f1, f2⟩ Q []).1 = T ∧ (mres ⟨99, 77, false, f1, f2⟩ Q []).2.1 = lft ∧ mL ⟨99, 77, false, f1, f2⟩ Q [] = Q' ∧ mM ⟨99, 77, false, f1, f2⟩ Q [] = []) := by
          have e : mres ⟨99, 77, false, f1, f2⟩ Q [] = (T, lft, Q') := hmch
          unfold mL mM
          rw [e]
          exact ⟨rfl, rfl, rfl, rfl⟩
        have HAT : Hid (MchAt ⟨99, 77, false, f1, f2⟩ Q T lft Q' 0 f2) := MchAt.start hmch
        have hqk : Q'.length ≤ k := by rw [← HL.out]; exact q4
        have hTk : T.length ≤ k := by rw [← HL.out]; exact q3
        clear hmch q3 q4
        go_wp2_with fail
        refine (bMatch_is hB3 ⟨99, 77, false, f1, f2⟩ T lft Q' [] HIS.out (ordOk _ _ _ _ _ ⟨by omega, by omega⟩ ⟨by omega, by omega⟩ ⟨by omega, by omega⟩ ⟨by omega, by omega⟩) (by rw [HL.out]; omega) (by simp)).mono ?_
        rintro e w4 ⟨a4, d4, rfl, hT, hB4, c4⟩
        have hX4 : Osn w4 _ a2 Q := hX2.chg c4 (fun x hx => Nat.lt_of_lt_of_le (hz1 x hx) hS1)
        have hS4 := c4.size
        clear hX2 c4 hB3
        go_wp2_with fail
        refine (bAsks hB4.bk (by simp)).mono ?_
        rintro e w4b ⟨v4, rfl, _, c4b⟩
        have hB4b := hB4.to c4b
        clear hB4
        go_wp2_with fail
        refine (bBids hB4b.bk (by omega)).mono ?_
        rintro e w5 ⟨v5, rfl, hY, c5⟩
        have hB5 := hB4b.to c5
        have hT5 := (hT.chg0 c4b).chg0 c5
        have hX5 := (hX4.chg0 c4b).chg0 c5
        clear hB4b hT hX4 c5 c4b
        obtain ⟨a5, d5, rfl, hY5⟩ := hY.osn
        have HC := Lib.hid hB5.c
        clear hY hB5
        obtain ⟨nQ, hnQ⟩ : ∃ m, Q'.length = m := ⟨_, rfl⟩
        obtain ⟨nT, hnT⟩ : ∃ m, T.length = m := ⟨_, rfl⟩
        rw [hnQ, hnT]
        have HQ := Lib.hid hnQ
        have HT := Lib.hid hnT
        rw [hnQ] at hqk
        rw [hnT] at hTk
        clear hnQ hnT
        go_wp2_with fail
        go_loopw [16, 17] (fun i v wr => ∃ (j : Nat) (q : Int), j ≤ k ∧ i = .int .i64 j ∧ v = .int .u64 q ∧ 0 ≤ q ∧ q ≤ 31 ∧ Hid (MchAt ⟨99, 77, false, f1, f2⟩ Q T lft Q' j q) ∧ Chg [] w5 wr) (fun i _ _ => k - (intOf i).toNat)
        case atStart => exact ⟨0, f2, by omega, rfl, rfl, by omega, by omega, HAT, Chg.refl _ _⟩
        case round =>
          clear HAT
          obtain ⟨j, q, hj, rfl, rfl, u1, u2, hA, hch⟩ := hrel
          by_cases hjk : j < k
          · by_cases hq0 : 0 < q
            · have hjl : j < Q.length := by rw [HL.out]; exact hjk
              obtain ⟨g9, rfl, _, x0, x1, x2, x3, x4⟩ := (hX5.chg0 hch).cells hjl
              have hpart := Lib.hid (fun h1 h2 => hA.out.part hjl h1 hq0 h2)
              have hfull := Lib.hid (fun h1 h2 => hA.out.all hjl h1 hq0 h2)
              have hno := Lib.hid (fun h1 => hA.out.no hjl h1)
              obtain ⟨p1, p2⟩ := hall.out _ (List.mem_append.2 (.inl (getD_mem hjl)))
              generalize Q.getD j Ord.zero = u at *
              have i1 : (0 : Int) ≤ (j : Int) := by omega
              have i2 : (j : Int) < (k : Int) := by omega
              have hc2 := hch.alloc (.cells #[.int .i64 u.id, .int .i64 u.client, .bool u.buy, .int .u64 u.price, .int .u64 u.qty] 28)
              have hb2 : Blk (wr.alloc (.cells #[.int .i64 u.id, .int .i64 u.client, .bool u.buy, .int .u64 u.price, .int .u64 u.qty] 28)) wr.heap.size 28 (oc u) := Blk.new wr (oc u) 28
              have w3 : IntKind.i64.wrap ((j : Int) + 1) = (j : Int) + 1 := IntWalk.i64_in _ (by omega)
              clear hjl hA hch
              by_cases hmt : (f1 : Int) ≤ u.price
              · have hmeet : meet ⟨99, 77, false, f1, f2⟩ u = true := by simp [meet]; exact hmt
                rcases (by omega : q < u.qty ∨ q = u.qty ∨ u.qty < q) with hlt | hlt | hlt
                · obtain ⟨c1, c2, c3, c4⟩ := hpart.out hmeet hlt
                  clear hpart hfull hno
                  go_upto_region 23 with (fail)
                  generalize wr.heap.size = g8 at *
                  generalize wr.alloc _ = W8 at *
                  obtain ⟨gt, rfl, _, _, tat⟩ := tr_at hT5 c1
                  rw [c2] at tat
                  have t0 : W8.cell? ⟨gt, j * 6, none⟩ = some (.int .i64 u.id) := hc2.cell tat.c0 (by simp)
                  have t1 : W8.cell? ⟨gt, j * 6 + 1, none⟩ = some (.int .i64 99) := hc2.cell tat.c1 (by simp)
                  have t4 : W8.cell? ⟨gt, j * 6 + 4, none⟩ = some (.int .u64 u.price) := hc2.cell tat.c4 (by simp)
                  have t5 : W8.cell? ⟨gt, j * 6 + 5, none⟩ = some (.int .u64 q) := hc2.cell tat.c5 (by simp)
                  have y0 := hb2.at (i := 0) rfl
                  have y3 := hb2.at (i := 3) rfl
                  have y4 := hb2.at (i := 4) rfl
                  have hjT : (j : Int) < (nT : Int) := by rw [HT.out] at c1; omega
                  have dT : decide (nT ≤ j) = false := by simp; omega
                  clear tat c1 c2
                  have HA3 := Lib.hid c3
                  have HQ0 : Q'.getD 0 Ord.zero = { u with qty := u.qty - q } := by rw [c4]; rfl
                  have hn0 : 0 < Q'.length := by rw [c4]; simp
                  obtain ⟨gq, rfl, _, qat⟩ := hY5.cells hn0
                  rw [HQ0] at qat
                  have r0 : W8.cell? ⟨gq, 0, none⟩ = some (.int .i64 u.id) := by have := hc2.cell qat.c0 (by simp); simpa using this
                  have r4 : W8.cell? ⟨gq, 4, none⟩ = some (.int .u64 (u.qty - q)) := by have := hc2.cell qat.c4 (by simp); simpa using this
                  have hnq : (0 : Int) < (nQ : Int) := by rw [HQ.out] at hn0; omega
                  have dQ : ((nQ : Int) == 0) = false := beq_eq_false_iff_ne.2 (by omega)
                  have dQn : (nQ == 0) = false := beq_eq_false_iff_ne.2 (by omega)
                  have wq : IntKind.u64.wrap (u.qty - q) = u.qty - q := by simp [IntKind.wrap, IntKind.bits, IntKind.signed]; omega
                  clear c3 c4 HQ0 hn0 qat hb2
                  go_quiet (fail)
                  go_wp2_with fail
                  go_quiet (fail)
                  go_wp2_with fail
                  go_roundw
                  case rel => exact ⟨j + 1, 0, by omega, by go_num, rfl, by omega, by omega, HA3, hc2.drewN _⟩
                  case measure => simp [intOf]; omega
                · obtain ⟨c1, c2, c3⟩ := hfull.out hmeet (by omega)
                  subst hlt
                  clear hpart hfull hno
                  go_upto_region 23 with (fail)
                  generalize wr.heap.size = g8 at *
                  generalize wr.alloc _ = W8 at *
                  obtain ⟨gt, rfl, _, _, tat⟩ := tr_at hT5 c1
                  rw [c2] at tat
                  have t0 : W8.cell? ⟨gt, j * 6, none⟩ = some (.int .i64 u.id) := hc2.cell tat.c0 (by simp)
                  have t1 : W8.cell? ⟨gt, j * 6 + 1, none⟩ = some (.int .i64 99) := hc2.cell tat.c1 (by simp)
                  have t4 : W8.cell? ⟨gt, j * 6 + 4, none⟩ = some (.int .u64 u.price) := hc2.cell tat.c4 (by simp)
                  have t5 : W8.cell? ⟨gt, j * 6 + 5, none⟩ = some (.int .u64 u.qty) := hc2.cell tat.c5 (by simp)
                  have y0 := hb2.at (i := 0) rfl
                  have y3 := hb2.at (i := 3) rfl
                  have y4 := hb2.at (i := 4) rfl
                  have hjT : (j : Int) < (nT : Int) := by rw [HT.out] at c1; omega
                  have dT : decide (nT ≤ j) = false := by simp; omega
                  clear tat c1 c2
                  have HA3 := Lib.hid c3
                  rw [Int.sub_self] at HA3
                  clear c3 hb2
                  go_quiet (fail)
                  have hc9 := hc2.drewN nq
                  go_wp2_with fail
                  go_roundw
                  case rel => exact ⟨j + 1, 0, by omega, by go_num, rfl, by omega, by omega, HA3, hc9⟩
                  case measure => simp [intOf]; omega
                · obtain ⟨c1, c2, c3⟩ := hfull.out hmeet (by omega)
                  clear hpart hfull hno
                  go_upto_region 23 with (fail)
                  generalize wr.heap.size = g8 at *
                  generalize wr.alloc _ = W8 at *
                  obtain ⟨gt, rfl, _, _, tat⟩ := tr_at hT5 c1
                  rw [c2] at tat
                  have t0 : W8.cell? ⟨gt, j * 6, none⟩ = some (.int .i64 u.id) := hc2.cell tat.c0 (by simp)
                  have t1 : W8.cell? ⟨gt, j * 6 + 1, none⟩ = some (.int .i64 99) := hc2.cell tat.c1 (by simp)
                  have t4 : W8.cell? ⟨gt, j * 6 + 4, none⟩ = some (.int .u64 u.price) := hc2.cell tat.c4 (by simp)
                  have t5 : W8.cell? ⟨gt, j * 6 + 5, none⟩ = some (.int .u64 u.qty) := hc2.cell tat.c5 (by simp)
                  have y0 := hb2.at (i := 0) rfl
                  have y3 := hb2.at (i := 3) rfl
                  have y4 := hb2.at (i := 4) rfl
                  have hjT : (j : Int) < (nT : Int) := by rw [HT.out] at c1; omega
                  have dT : decide (nT ≤ j) = false := by simp; omega
                  clear tat c1 c2
                  have HA3 := Lib.hid c3
                  clear c3 hb2
                  go_quiet (fail)
                  have hc9 := hc2.drewN nq
                  go_wp2_with fail
                  go_roundw
                  case rel => exact ⟨j + 1, q - u.qty, by omega, by go_num, rfl, by omega, by omega, HA3, hc9⟩
                  case measure => simp [intOf]; omega
              · have hmeet : meet ⟨99, 77, false, f1, f2⟩ u = false := by simp [meet]; omega
                obtain ⟨h1, h2⟩ := hno.out hmeet
                rw [HT.out] at h1
                subst h1 h2
                clear hpart hfull hno
                have hc3 := hc2
                clear hc2
                go_wp2_with fail
                refine (awake9 _).mono ?_
                rintro e w10 ⟨rfl, c10⟩
                go_wp2_with fail
                go_ret
                exact ⟨rfl, (HC.out.trans (hc3.trans c10)).below⟩
            · obtain rfl : q = 0 := by omega
              obtain ⟨h1, h2⟩ := hA.out.zero
              rw [HT.out] at h1
              subst h1 h2
              have hc3 := hch
              clear hA hch
              go_wp2_with fail
              refine (awake9 _).mono ?_
              rintro e w10 ⟨rfl, c10⟩
              go_wp2_with fail
              go_ret
              exact ⟨rfl, (HC.out.trans (hc3.trans c10)).below⟩
          · obtain rfl : j = k := by omega
            have hA2 : MchAt ⟨99, 77, false, f1, f2⟩ Q T lft Q' Q.length q := by rw [HL.out]; exact hA.out
            obtain ⟨h1, h2⟩ := hA2.end_
            rw [HT.out, HL.out] at h1
            subst h1 h2
            have hc3 := hch
            clear hA hA2 hch
            go_wp2_with fail
            refine (awake9 _).mono ?_
            rintro e w10 ⟨rfl, c10⟩
            go_wp2_with fail
            go_ret
            exact ⟨rfl, (HC.out.trans (hc3.trans c10)).below⟩
end Go.Proofs.Ytofcphfgpnobnaa
