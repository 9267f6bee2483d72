import Derived.Test.YtofcphfgpnobnaaBk5
import Derived.Test.YtofcphfgpnobnaaShell
namespace Go.Proofs.Ytofcphfgpnobnaa
set_option linter.unusedVariables false
open Go Go.Proofs Go.RowKit
attribute [local go_sem ↓] Go.wp_at_zero Go.wp_at_succ

/-- What stands behind k orders. -/
structure Own9 (k : Nat) (L M : List Ord) : Prop where
  fr : Fresh k L M
  len : L.length + M.length = k
  all : ∀ x ∈ L ++ M, x.price ≤ 15 ∧ x.qty = 1
theorem Own9.start : Own9 0 [] [] := ⟨Fresh.start, rfl, by simp⟩
theorem Own9.rest {k : Nat} {L M : List Ord} (h : Own9 k L M) {o : Ord} (ho : o.id = (k : Int) + 1) (hp : o.price ≤ 15) (hq : o.qty = 1) : Own9 (k + 1) (restL o L) (restM o M) :=
  ⟨h.fr.rest ho, by rw [rest_len, if_pos (by omega), h.len], rest_all h.all ⟨hp, hq⟩⟩

set_option maxRecDepth 100000 in
set_option maxHeartbeats 16000000 in
theorem own_walk9 (a : Option Addr) (n cap : Nat) (z : List Int) (p : Int) (w : World) (hn : n = z.length) (hzm : n ≤ 9223372036854775807) (hU : ∀ x ∈ z, U x) (hr0 : Row64 w a z) (N : Nat) (hN : (n ≤ 12 ∧ N = n) ∨ (12 < n ∧ N = 12)) :
    Calls Try.prog 9 #[.slice a n cap, .int .i64 p] w fun e w' => e = .returned (.bool true) ∧ Below w.heap.size w w' := by
  have HN := Lib.hid hn
  have HU := Lib.hid hU; clear hU
  have HR := Lib.hid hr0; clear hr0
  have n1 : N ≤ n := by omega
  have n2 : N ≤ 12 := by omega
  have HNN := Lib.hid hN
  clear hn hN
  go_enter Try.func9, Try.ntmps9
  go_wp2_with fail
  refine (bNewS w w (Chg.refl _ _)).mono ?_
  rintro e w1 ⟨kb, F0, rfl, h1, _, _⟩
  go_upto_region 4 with (fail)
  go_cut [6] from 21 to 23 (fun v wx => v = .int .i64 (N : Int) ∧ w1 = wx)
  case first =>
    rcases HNN.out with ⟨m1, m2⟩ | ⟨m1, m2⟩
    · go_wp2_with fail
      go_meet
      exact ⟨by rw [m2], rfl⟩
    · go_wp2_with fail
      go_meet
      exact ⟨by rw [m2]; rfl, rfl⟩
  case rest =>
    obtain ⟨rfl, rfl⟩ := hcut
    go_wp2_with fail
    go_loopw [7] (fun i wr => ∃ (k : Nat) (F : List Nat) (L M : List Ord), k ≤ N ∧ i = .int .i64 k ∧ BkS w wr F kb L M ∧ Hid (Own9 k L M)) (fun i _ => N - (intOf i).toNat)
    case atStart => exact ⟨0, F0, [], [], by omega, rfl, h1, Own9.start⟩
    case round =>
      clear h1
      obtain ⟨k, F, L, M, hk, rfl, hB, hO⟩ := hrel
      by_cases hlt : k < N
      · obtain ⟨b0, off, rfl, hcell⟩ := row_cells HR.out (k := k) (by rw [← HN.out]; omega)
        have hc0 := hcell wr hB.c.below
        generalize z.getD k 0 = v at *
        obtain ⟨f1, g1, g2⟩ := and7_u64 v
        obtain ⟨f2, g3, g4⟩ := and1_u64 (v / 256)
        obtain ⟨hl1, hl2⟩ := hO.out.fr.new (i := (k : Int) + 1) (by omega)
        have HL1 := Lib.hid hl1
        have HL2 := Lib.hid hl2
        have hll := hO.out.len
        have i1 : (0 : Int) ≤ (k : Int) := by omega
        have i2 : (k : Int) < (n : Int) := by omega
        have w1 : IntKind.i64.wrap ((k : Int) + 1) = (k : Int) + 1 := IntWalk.i64_in _ (by omega)
        have zL : L.length < 999999999999 := by omega
        have zM : M.length < 999999999999 := by omega
        clear hl1 hl2 hcell hll
        rcases (by omega : f2 = 0 ∨ f2 = 1) with rfl | rfl
        · have w2 : IntKind.u64.wrap ((f1 : Int) + 8) = (f1 : Int) + 8 := by simp [IntKind.wrap, IntKind.bits, IntKind.signed]; omega
          have hok : Ord.Ok ⟨(k : Int) + 1, 0, false, (f1 : Int) + 8, 1⟩ := ordOk _ _ _ _ _ ⟨by omega, by omega⟩ ⟨by omega, by omega⟩ ⟨by omega, by omega⟩ ⟨by omega, by omega⟩
          have HO2 : Hid (Own9 (k + 1) (restL ⟨(k : Int) + 1, 0, false, (f1 : Int) + 8, 1⟩ L) (restM ⟨(k : Int) + 1, 0, false, (f1 : Int) + 8, 1⟩ M)) := hO.out.rest rfl (by show (f1 : Int) + 8 ≤ 15; omega) rfl
          clear hO
          go_wp2_with fail
          go_still_tail 25, (by kernel_rfl)
          change wpList _ _ _ _ _ wr.drew
          have hB2 := hB.to (Chg.refl _ _).drew
          clear hB hc0 i1 i2 w1 w2
          generalize wr.drew = W at *
          go_wp2_with fail
          refine (bRest_is hB2 ⟨(k : Int) + 1, 0, false, (f1 : Int) + 8, 1⟩ _ _ rfl hok HL1.out HL2.out zL zM).mono ?_
          rintro e w2 ⟨rfl, F', hB3, _, _⟩
          clear hB2
          go_wp2_with fail
          go_roundw
          case rel => exact ⟨k + 1, F', _, _, by omega, by go_num, hB3, HO2⟩
          case measure => simp [intOf]; omega
        · have w2 : IntKind.u64.wrap (f1 : Int) = (f1 : Int) := by simp [IntKind.wrap, IntKind.bits, IntKind.signed]; omega
          have hok : Ord.Ok ⟨(k : Int) + 1, 0, true, (f1 : Int), 1⟩ := ordOk _ _ _ _ _ ⟨by omega, by omega⟩ ⟨by omega, by omega⟩ ⟨by omega, by omega⟩ ⟨by omega, by omega⟩
          have HO2 : Hid (Own9 (k + 1) (restL ⟨(k : Int) + 1, 0, true, (f1 : Int), 1⟩ L) (restM ⟨(k : Int) + 1, 0, true, (f1 : Int), 1⟩ M)) := hO.out.rest rfl (by show (f1 : Int) ≤ 15; omega) rfl
          clear hO
          go_wp2_with fail
          go_still_tail 25, (by kernel_rfl)
          change wpList _ _ _ _ _ wr.drew
          have hB2 := hB.to (Chg.refl _ _).drew
          clear hB hc0 i1 i2 w1 w2
          generalize wr.drew = W at *
          go_wp2_with fail
          refine (bRest_is hB2 ⟨(k : Int) + 1, 0, true, (f1 : Int), 1⟩ _ _ rfl hok HL1.out HL2.out zL zM).mono ?_
          rintro e w2 ⟨rfl, F', hB3, _, _⟩
          clear hB2
          go_wp2_with fail
          go_roundw
          case rel => exact ⟨k + 1, F', _, _, by omega, by go_num, hB3, HO2⟩
          case measure => simp [intOf]; omega
      · obtain rfl : k = N := by omega
        clear hlt
        obtain ⟨nL, hnL⟩ : ∃ m, L.length = m := ⟨_, rfl⟩
        obtain ⟨nM, hnM⟩ : ∃ m, M.length = m := ⟨_, rfl⟩
        have hlen : nL + nM = k := by have := hO.out.len; omega
        have HL := Lib.hid hnL
        have HM := Lib.hid hnM
        have hd : ((nL : Int) + (nM : Int) != (k : Int)) = false := by simp; omega
        clear hnL hnM
        go_wp2_with fail
        refine (bBids hB.bk (by rw [HL.out]; omega)).mono ?_
        rintro e w2 ⟨v2, rfl, hX, c2⟩
        obtain ⟨a2, d2, rfl, hX2⟩ := hX.osn
        rw [HL.out]
        have hB2 := hB.to c2
        have hz1 := hB.new
        have hzc := c2.size
        have hzs : w.heap.size ≤ wr.heap.size := hB.c.size
        clear hB hX
        go_wp2_with fail
        refine (bAsks hB2.bk (by rw [HM.out]; omega)).mono ?_
        rintro e w3 ⟨v3, rfl, hY, c3⟩
        obtain ⟨a3, d3, rfl, hY3⟩ := hY.osn
        rw [HM.out]
        have hB3 := hB2.to c3
        obtain ⟨gx, hX9, hgx⟩ := hX2.any w3.heap.size
        have hX9 := hX9.chg c3 (by simp)
        obtain ⟨gy, hY9, hgy⟩ := hY3.any (w3.heap.size + 1)
        rw [HL.out] at hX9
        rw [HM.out] at hY9
        have hsz3 : w2.heap.size ≤ w3.heap.size := c3.size
        have hne : gy ≠ gx := by omega
        have HGF_gx : Hid (gx ∉ F) := fun hm => by have := hz1 gx hm; omega
        have HGF_gy : Hid (gy ∉ F) := fun hm => by have := hz1 gy hm; omega
        have hgx2 : w.heap.size ≤ gx := by omega
        have hgy2 : w.heap.size ≤ gy := by omega
        clear hX2 hY3 hB2 c2 c3 hz1 hgx hgy hY
        go_wp2_with fail
        go_loopw [68] (fun i wr => ∃ j : Nat, j ≤ nL ∧ i = .int .i64 j ∧ BkS w wr F kb L M ∧ RowAny wr gx a2 nL ∧ Chg [gx] w3 wr) (fun i _ => nL - (intOf i).toNat)
        case atStart => exact ⟨0, by omega, rfl, hB3, hX9, Chg.refl _ _⟩
        case round =>
          clear hB3 hX9
          obtain ⟨j, hj, rfl, hB3, hX9, hch⟩ := hrel
          by_cases hlt : j < nL
          · obtain ⟨rfl, ⟨v, q1⟩, q2, q3⟩ := hX9.at (k := j) (j := 3) hlt (by omega)
            obtain ⟨q4, q5⟩ := q3 (.int .u64 99)
            have i1 : (0 : Int) ≤ (j : Int) := by omega
            have i2 : (j : Int) < (nL : Int) := by omega
            have hB9 := hB3.aside q5 HGF_gx.out (by omega)
            have hch9 := hch.trans q5
            clear hB3 hX9 q3 hch q5
            go_wp2_with fail
            go_roundw
            case rel => exact ⟨j + 1, by omega, by go_num, hB9, q4, hch9⟩
            case measure => simp [intOf]; omega
          · obtain rfl : j = nL := by omega
            clear hlt
            have hY9 := hY9.chg hch (by simp; omega)
            clear hX9 hch
            go_wp2_with fail
            obtain ⟨wz, hwz⟩ : ∃ x, x = wr := ⟨_, rfl⟩
            go_loopw [78] (fun i wr => ∃ j : Nat, j ≤ nM ∧ i = .int .i64 j ∧ BkS w wr F kb L M ∧ RowAny wr gy a3 nM ∧ Chg [gy] wz wr) (fun i _ => nM - (intOf i).toNat)
            case atStart => exact ⟨0, by omega, rfl, hB3, hY9, by rw [hwz]; exact Chg.refl _ _⟩
            case round =>
              clear hB3 hY9
              obtain ⟨j, hj, rfl, hB3, hY9, hch⟩ := hrel
              by_cases hlt : j < nM
              · obtain ⟨rfl, ⟨v, q1⟩, q2, q3⟩ := hY9.at (k := j) (j := 4) hlt (by omega)
                obtain ⟨q4, q5⟩ := q3 (.int .u64 99)
                have i1 : (0 : Int) ≤ (j : Int) := by omega
                have i2 : (j : Int) < (nM : Int) := by omega
                have hB9 := hB3.aside q5 HGF_gy.out (by omega)
                have hch9 := hch.trans q5
                clear hB3 hY9 q3 hch q5
                go_wp2_with fail
                go_roundw
                case rel => exact ⟨j + 1, by omega, by go_num, hB9, q4, hch9⟩
                case measure => simp [intOf]; omega
              · obtain rfl : j = nM := by omega
                clear hlt
                have hlL : L.length < 1000000000000 := by rw [HL.out]; omega
                have hlM : M.length < 1000000000000 := by rw [HM.out]; omega
                clear hY9 hch
                have hz4 := hB3.new
                have hw4 := hB3.c.size
                go_wp2_with fail
                refine (bBids hB3.bk hlL).mono ?_
                rintro e w4 ⟨v4, rfl, hX, c4⟩
                have hB4 := hB3.to c4
                clear hB3
                go_wp2_with fail
                refine (bAsks hB4.bk hlM).mono ?_
                rintro e w5 ⟨v5, rfl, hY, c5⟩
                have hB5 := hB4.to c5
                have hX5 : Onew w5 wr.heap.size v4 L := own_chg hX c5 (by simp)
                have hs4 := c4.size
                have hs5 := c5.size
                clear hB4 hX
                generalize wr.heap.size = B4 at *
                generalize w4.heap.size = B5 at *
                have hlk : (L ++ M).length = k := by rw [List.length_append, HL.out, HM.out]; exact hlen
                go_wp2_with (at_builtin; refine wpList_append_onew rfl (.tmp 87) (.tmp 89) rfl B4 B5 v4 v5 L M rfl rfl hX5 hY (by rw [HL.out, HM.out]; omega) (by omega) ?_)
                intro v6 w6 ho6 hg6
                have hown := own_base hX5
                have hB6 := hB5.grown hg6 (fun g hg => ⟨fun hm => by have := hz4 g hm; have := hown g hg; omega, by have := hown g hg; omega⟩)
                obtain ⟨a6, d6, rfl, hZ⟩ := ho6.osn
                rw [hlk]
                have HLK := Lib.hid hlk
                clear hlk hB5 hX5 hY hg6 ho6 hown c4 c5
                go_wp2_with fail
                go_loopw [92] (fun i wr => ∃ j : Nat, j ≤ k ∧ i = .int .i64 j ∧ BkS w wr F kb L M ∧ Chg [] w6 wr) (fun i _ => k - (intOf i).toNat)
                case atStart => exact ⟨0, by omega, rfl, hB6, Chg.refl _ _⟩
                case round =>
                  clear hB6
                  obtain ⟨j, hj, rfl, hB, hch⟩ := hrel
                  by_cases hlt : j < k
                  · have hjl : j < (L ++ M).length := by rw [HLK.out]; exact hlt
                    obtain ⟨g9, rfl, _, x0, x1, x2, x3, x4⟩ := (hZ.chg0 hch).cells hjl
                    have hm := getD_mem hjl
                    have hpk := hO.out.fr.pick hm
                    obtain ⟨hp, hq⟩ := hO.out.all _ hm
                    generalize (L ++ M).getD j Ord.zero = u at *
                    have HPK := Lib.hid hpk
                    have hd1 : (u.price == 99) = false := beq_eq_false_iff_ne.2 (by omega)
                    have hd2 : (u.qty != 1) = false := by simp [hq]
                    have i1 : (0 : Int) ≤ (j : Int) := by omega
                    have i2 : (j : Int) < (k : Int) := by omega
                    clear hm hpk hp hq hjl
                    have hB2 := hB.to ((Chg.refl [] wr).alloc (.cells #[.int .i64 u.id, .int .i64 u.client, .bool u.buy, .int .u64 u.price, .int .u64 u.qty] 28))
                    have hc2 := hch.alloc (.cells #[.int .i64 u.id, .int .i64 u.client, .bool u.buy, .int .u64 u.price, .int .u64 u.qty] 28)
                    have hb2 : Blk (wr.alloc (.cells #[.int .i64 u.id, .int .i64 u.client, .bool u.buy, .int .u64 u.price, .int .u64 u.qty] 28)) wr.heap.size 28 (oc u) := Blk.new wr (oc u) 28
                    clear hB hch
                    go_wp2_with fail
                    generalize wr.heap.size = g8 at *
                    generalize wr.alloc _ = W8 at *
                    refine (bFind_is hB2.bk u.id u true HPK.out).mono ?_
                    rintro e w9 ⟨rfl, c9⟩
                    have c9b := c9.alloc (.cells #[.int .i64 u.id, .int .i64 u.client, .bool u.buy, .int .u64 u.price, .int .u64 u.qty] 28)
                    have hB9 := hB2.to c9b
                    have hc9 := hc2.trans c9b
                    have hb9 := hb2.chg c9 (by simp)
                    have y0 := hb9.at (i := 0) rfl
                    have y1 := hb9.at (i := 1) rfl
                    have y2 := hb9.at (i := 2) rfl
                    have y3 := hb9.at (i := 3) rfl
                    have y4 := hb9.at (i := 4) rfl
                    have hgl := hb9.lt
                    clear hB2 hc2 hb2 c9 c9b hb9 x0 x1 x2 x3 x4
                    go_wp2_with fail
                    go_roundw
                    case rel => exact ⟨j + 1, by omega, by go_num, hB9, hc9⟩
                    case measure => simp [intOf]; omega
                  · obtain rfl : j = k := by omega
                    clear hlt
                    have HNO := Lib.hid (pickB_none (k := 0) (L := L) (M := M) fun x hx => by have := hO.out.fr.le x hx; omega)
                    go_wp2_with fail
                    refine (bFind_is hB.bk 0 Ord.zero false HNO.out).mono ?_
                    rintro e w9 ⟨rfl, c9⟩
                    have hB9 := hB.to (c9.alloc (.cells #[.int .i64 0, .int .i64 0, .bool false, .int .u64 0, .int .u64 0] 28))
                    clear hB c9
                    go_wp2_with fail
                    refine (awake9 _).mono ?_
                    rintro e w10 ⟨rfl, c10⟩
                    go_wp2_with fail
                    go_ret
                    exact ⟨rfl, (hB9.to c10).c.below⟩
end Go.Proofs.Ytofcphfgpnobnaa
