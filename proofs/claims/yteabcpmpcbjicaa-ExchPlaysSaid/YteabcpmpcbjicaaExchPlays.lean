
import Derived.Test.YteabcpmpcbjicaaExPR
import Derived.Test.YteabcpmpcbjicaaExPL
import Derived.Test.YteabcpmpcbjicaaExchSums
import Derived.Test.YteabcpmpcbjicaaExS3
import Derived.Test.YteabcpmpcbjicaaAwake10
import Derived.BigQuiet
namespace Go.Proofs.Yteabcpmpcbjicaa
set_option linter.unusedVariables false
open Go Go.Proofs Go.RowKit
attribute [local go_sem ↓] Go.wp_at_zero Go.wp_at_succ

set_option maxRecDepth 100000 in
set_option maxHeartbeats 16000000 in
theorem explays_walk (a0 : Option Addr) (n0 cap0 : Nat) (zs : List Int) (a1 : Option Addr) (n1 cap1 : Nat) (few : Bool) (w : World) (hn : n0 = zs.length) (hzm : n0 ≤ 9223372036854775807) (hU : ∀ x ∈ zs, U x) (hr0 : Row64 w a0 zs) (h1 : SRec [some .i64, some .i64, some .i64, none, some .u64, some .u64] w a1 n1 cap1) :
    Calls Try.prog 13 #[.slice a0 n0 cap0, .slice a1 n1 cap1, .bool few] w fun e w' => e = .returned (.bool true) ∧ Below w.heap.size w w' := by
  have n1m : n1 ≤ 9223372036854775807 := by have := h1.1; have := h1.2.1; omega
  have H1 := Lib.hid h1; clear h1
  have HN := Lib.hid hn
  have HUU := Lib.hid hU
  have HR0 := Lib.hid hr0
  clear hn hU hr0
  go_enter Try.func13, Try.ntmps13
  go_wp2_with fail
  refine (new_is 3 3 [0, 0, 0, 0, 0, 0] w (by decide) (by decide)).mono ?_
  rintro e wa ⟨ab, s, rfl, ha1, c1, ls, lb⟩
  go_wp2_with fail
  refine (rnew_any 3 wa).mono ?_
  rintro e wb ⟨rb, rs, rfl, hb1, c2, lrs, lrb⟩
  have ha2 := ha1.chg c2 (by simp) (by simp)
  have hb2 : RAcc wb rb rs 3 [0, 0, 0, 0, 0, 0] := hb1
  have hc2 := c1.trans c2
  obtain ⟨m1, m2⟩ := ha1.lt
  have z1 := c1.size
  clear ha1 hb1 c1 c2
  go_wp2_with fail
  go_loopw [9] (fun i wr => ∃ (j : Nat) (xs : List Int), j ≤ n0 ∧ j ≤ 6 ∧ i = .int .i64 j ∧ Acc wr ab s 3 xs ∧ RAcc wr rb rs 3 xs ∧ Chg [s, rs] wb wr) (fun i _ => 6 - (intOf i).toNat)
  case atStart => exact ⟨0, _, by omega, by omega, rfl, ha2, hb2, Chg.refl _ _⟩
  case round =>
    clear ha2 hb2
    obtain ⟨j, xs, hj1, hj2, rfl, ha, hb, hch⟩ := hrel
    have hbel : Chg [] w wr := hc2.trans' hch (fun z hz => .inr (by simp at hz; rcases hz with e | e <;> omega))
    have HBE := Lib.hid hbel
    clear hbel
    obtain ⟨u1, u2⟩ := ha.lt
    by_cases hlt : j < n0 ∧ j < 6
    · obtain ⟨hm1, hm2⟩ := hlt
      obtain ⟨b0, off, rfl, hcell⟩ := row_cells HR0.out (k := j) (by rw [← HN.out]; omega)
      have hc0 := hcell wr HBE.out.below
      have hz : j < zs.length := by rw [← HN.out]; exact hm1
      have hv : U (zs.getD j 0) := HUU.out _ (by simp [List.getD, hz])
      clear hz
      have hb0 := cell_block (hcell w (Chg.refl [] w).below)
      generalize zs.getD j 0 = v at *
      have hv8 := shr_U hv 256 (by omega)
      have i1 : (0 : Int) ≤ (j : Int) := by omega
      have i2 : (j : Int) < (n0 : Int) := by omega
      have d6 : decide ((j : Int) < 6) = true := by simp; omega
      have e1 : (j : Int).tmod 3 = ((j % 3 : Nat) : Int) := by rw [Int.tmod_eq_emod_of_nonneg (by omega)]; rfl
      have e2 : (j : Int).tdiv 3 = ((j / 3 : Nat) : Int) := by rw [Int.tdiv_eq_ediv_of_nonneg (by omega)]; rfl
      have wq : IntKind.i64.wrap ((j / 3 : Nat) : Int) = ((j / 3 : Nat) : Int) := IntWalk.i64_in _ (by omega)
      have wr1 : IntKind.i64.wrap ((j % 3 : Nat) : Int) = ((j % 3 : Nat) : Int) := IntWalk.i64_in _ (by omega)
      have HV := Lib.hid hv8
      clear hcell hv hv8
      go_wp2_with fail
      refine (put_is ha ((j % 3 : Nat) : Int) ((j / 3 : Nat) : Int) (v / 256) _ _ HV.out rfl rfl).mono ?_
      rintro e w2 ⟨rfl, ha3, c3⟩
      have hb3 := hb.chg c3 (by simp; omega) (by simp; omega)
      have hc3 := c3.cell hc0 (by simp; omega)
      have hch3 := hch.trans (c3.mono (R := [s, rs]) (by simp))
      clear ha hb hc0 hch c3
      go_wp2_with fail
      refine (rput_is hb3 ((j % 3 : Nat) : Int) ((j / 3 : Nat) : Int) (v / 256) _ _ HV.out rfl rfl).mono ?_
      rintro e w4 ⟨rfl, hb4, c4⟩
      have ha4 := ha3.chg c4 (by simp; omega) (by simp; omega)
      have hch4 := hch3.trans (c4.mono (R := [s, rs]) (by simp))
      clear ha3 hb3 hc3 hch3 c4
      go_wp2_with fail
      go_roundw
      case rel => exact ⟨j + 1, _, by omega, by omega, by go_num, ha4, hb4, hch4⟩
      case measure => simp [intOf]; omega
    · have hlt3 : Hid (¬ (j < n0 ∧ j < 6)) := hlt
      clear hlt
      go_upto_region 5 with (fail)
      go_cut [38] from 31 to 38 (fun v wx => v = .bool false ∧ wr = wx)
      case first =>
        rcases Nat.lt_or_ge j n0 with hh | hh
        · have h6 : ¬ j < 6 := fun h7 => hlt3.out ⟨hh, h7⟩
          have d6 : decide ((j : Int) < 6) = false := by simp; omega
          go_wp2_with fail
          go_meet
          exact ⟨rfl, rfl⟩
        · obtain rfl : j = n0 := by omega
          go_wp2_with fail
          go_meet
          exact ⟨rfl, rfl⟩
      case rest =>
        obtain ⟨rfl, rfl⟩ := hcut
        go_wp2_with fail
        refine (exNewC ha HBE.out lb ls).mono ?_
        rintro e w5 ⟨x, kb, FF, rfl, hp, c5, lx, lF⟩
        have hb5 := hb.chg c5 (by simp) (by simp)
        obtain ⟨q1, q2, q3, q4, q5⟩ := hp.lt
        have q6 := c5.size
        have q7 := hb5.row.lt
        have q8 : rb < w5.heap.size := hb5.head.elim fun cap h => h.2.2.lt
        have q9 : rb < wr.heap.size := hb.head.elim fun cap h => h.2.2.lt
        have q10 : rs < wr.heap.size := hb.row.lt
        have hnx := hp.ne
        go_wp2_with fail
        refine (rxNew (w := w) hb5 (F := rb :: rs :: x :: ab :: s :: FF) (fun z hz => by
          simp only [List.mem_cons] at hz
          rcases hz with e | e | e | e | e | e
          · omega
          · omega
          · omega
          · omega
          · omega
          · exact q5 z e) ⟨by simp, by simp⟩ (by omega) (by omega) (by omega)).mono ?_
        rintro e w6 ⟨y, g, rfl, hr, c6, ly⟩
        have hT : Twin w w6 x ab s kb y rb rs g 3 FF xs xs [] [] [] [] 0 0 := ⟨hp.to c6, hr, fun z hz => by
          simp at hz
          rcases hz with e | e | e
          · subst e; exact ⟨fun hm => by have := q5 _ hm; omega, by omega, by omega, by omega⟩
          · subst e; exact ⟨fun hm => by have := lF _ hm; omega, by omega, by omega, by omega⟩
          · subst e; exact ⟨fun hm => by have := lF _ hm; omega, by omega, by omega, by omega⟩⟩
        clear ha hb hp hb5 hr c5 c6 lF hnx q5 HBE hch
        go_wp2_with fail
        refine (exBook hT.p).mono ?_
        rintro e w7 ⟨rfl, rfl⟩
        go_wp2_with fail
        go_loopw [12] (fun i wr => ∃ (k : Nat) (FF : List Nat) (xs : List Int) (L M : List Ord) (kk : Nat), k ≤ n1 ∧ k ≤ 40 ∧ i = .int .i64 k ∧ Twin w wr x ab s kb y rb rs g 3 FF xs xs L M L M kk kk ∧ kk ≤ k) (fun i _ => 40 - (intOf i).toNat)
        case atStart => exact ⟨0, FF, xs, [], [], 0, by omega, by omega, rfl, hT, by omega⟩
        case round =>
          clear hT
          obtain ⟨k, FF, xs, L, M, kk, hk1, hk2, rfl, hT, hkk⟩ := hrel
          by_cases hlt2 : k < n1 ∧ k < 40
          · obtain ⟨hm1, hm2⟩ := hlt2
            obtain ⟨b1, off, kd, cl, id, by', p, q, rfl, _, hfl, hfi, hfp, hfq, Q⟩ := H1.out.step10 hm1
            have HFI := Lib.hid (And.intro hfl (And.intro hfi (And.intro hfp hfq)))
            obtain ⟨s0, s1, s2, s3, s4, s5⟩ := Q.c wr hT.p.b.c.below
            have d40 : decide ((k : Int) < 40) = true := by simp; omega
            have i1 : (0 : Int) ≤ (k : Int) := by omega
            have i2 : (k : Int) < (n1 : Int) := by omega
            clear Q hfl hfi hfp hfq
            go_upto_if 88 with (fail)
            have hb8 : Blk (wr.alloc (.cells #[.int .i64 kd, .int .i64 cl, .int .i64 id, .bool by', .int .u64 p, .int .u64 q] 81)) wr.heap.size 81 [.int .i64 kd, .int .i64 cl, .int .i64 id, .bool by', .int .u64 p, .int .u64 q] := Blk.new wr _ _
            have HC8 : Hid (Chg [] wr (wr.alloc (.cells #[.int .i64 kd, .int .i64 cl, .int .i64 id, .bool by', .int .u64 p, .int .u64 q] 81))) := (Chg.refl _ _).alloc _
            clear s0 s1 s2 s3 s4 s5
            obtain ⟨b8, hb8n⟩ : ∃ b, wr.heap.size = b := ⟨_, rfl⟩
            rw [hb8n] at hb8 ⊢
            have HB8N := Lib.hid hb8n
            clear hb8n
            generalize wr.alloc _ = W8 at *
            go_cut [12] from 89 to 104 (fun v wx => v = .int .i64 (k : Int) ∧ Chg [] wr wx ∧ ∃ (cl' id' p' q' : Int), Blk wx b8 81 [.int .i64 kd, .int .i64 cl', .int .i64 id', .bool by', .int .u64 p', .int .u64 q'] ∧ I cl' ∧ I id' ∧ U p' ∧ U q')
            case first =>
              cases few
              · go_wp2_with fail
                go_meet
                exact ⟨rfl, HC8.out, cl, id, p, q, hb8, HFI.out.1, HFI.out.2.1, HFI.out.2.2.1, HFI.out.2.2.2⟩
              · have y1 := hb8.at (i := 1) rfl
                have y2 := hb8.at (i := 2) rfl
                have y4 := hb8.at (i := 4) rfl
                have y5 := hb8.at (i := 5) rfl
                have z1 := hb8.free 1
                have z2 := hb8.free 2
                have z4 := hb8.free 4
                have z5 := hb8.free 5
                obtain ⟨f1, e1, l1⟩ := and3_i64 cl
                obtain ⟨f2, e2, l2⟩ := and7_u64 p
                obtain ⟨f3, e3, l3⟩ := and7_u64 q
                obtain ⟨f4, e4, l4⟩ : ∃ f : Nat, bits BinOp.and .i64 id 31 = f ∧ f < 32 := low_i64 id 5 (by omega)
                have HBB : Hid (Blk ((((W8.setCell ⟨b8, 1, none⟩ (.int .i64 (f1 : Int))).setCell ⟨b8, 4, none⟩ (.int .u64 (f2 : Int))).setCell ⟨b8, 5, none⟩ (.int .u64 (f3 : Int))).setCell ⟨b8, 2, none⟩ (.int .i64 (f4 : Int))) b8 81 [.int .i64 kd, .int .i64 (f1 : Int), .int .i64 (f4 : Int), .bool by', .int .u64 (f2 : Int), .int .u64 (f3 : Int)]) := (((hb8.set 1 _).set 4 _).set 5 _).set 2 _
                have HCC : Hid (Chg [] wr ((((W8.setCell ⟨b8, 1, none⟩ (.int .i64 (f1 : Int))).setCell ⟨b8, 4, none⟩ (.int .u64 (f2 : Int))).setCell ⟨b8, 5, none⟩ (.int .u64 (f3 : Int))).setCell ⟨b8, 2, none⟩ (.int .i64 (f4 : Int)))) := by
                  have hl : wr.heap.size ≤ b8 := by rw [HB8N.out]; exact Nat.le_refl _
                  exact (((HC8.out.setCell _ _ (.inr hl)).setCell _ _ (.inr hl)).setCell _ _ (.inr hl)).setCell _ _ (.inr hl)
                clear hb8
                go_wp2_with fail
                go_meet
                exact ⟨rfl, HCC.out, (f1 : Int), (f4 : Int), (f2 : Int), (f3 : Int), HBB.out, ⟨by omega, by omega⟩, ⟨by omega, by omega⟩, ⟨by omega, by omega⟩, ⟨by omega, by omega⟩⟩
            case rest =>
              obtain ⟨rfl, hcw, cl', id', p', q', hb, hfc, hfi, hfp, hfq⟩ := hcut
              have hT1 := hT.to hcw
              have HBX : Hid (b8 ∉ x :: s :: FF ∧ b8 ∉ [y, g, rs]) := by
                obtain ⟨z1, z2, z3, z4, z5⟩ := hT.p.lt
                have zf := hT.r.b.fr
                have z6 := zf y (by simp [offs])
                have z7 := zf rs (by simp [offs])
                have z8 := hT.r.b.b.lt
                have z9 := HB8N.out
                refine ⟨?_, ?_⟩
                · simp
                  exact ⟨by omega, by omega, fun hm => by have := z5 _ hm; omega⟩
                · simp
                  exact ⟨by omega, by omega, by omega⟩
              clear hT hcw hb8 HC8 HFI
              obtain ⟨f0, e0, l0⟩ : ∃ f : Nat, bits BinOp.and .i64 kd 7 = f ∧ f < 8 := low_i64 kd 3 (by omega)
              have y0 := hb.at (i := 0) rfl
              go_upto_block 4 with (fail)
              clear y0 e0
              go_cut [12, 14, 15, 16, 17, 18, 19, 20, 21, 22, 23, 24] from 108 to 203 (fun v _ _ _ _ _ _ _ _ _ _ _ wx => v = .int .i64 (k : Int) ∧ ∃ (FF' : List Nat) (xs' : List Int) (L' M' : List Ord) (kk' : Nat), Twin w wx x ab s kb y rb rs g 3 FF' xs' xs' L' M' L' M' kk' kk' ∧ kk' ≤ k + 1)
              case first =>
                have HFQ := Lib.hid (And.intro hfc (And.intro hfi (And.intro hfp hfq)))
                clear hfc hfi hfp hfq
                rcases (by omega : f0 = 0 ∨ (f0 = 1 ∨ f0 = 2) ∨ 3 ≤ f0) with rfl | h12 | h3
                · obtain ⟨oo, ok, hP⟩ : ∃ oo ok, pickB id' L M = (oo, ok) := ⟨_, _, rfl⟩
                  by_cases hcc : ok = true ∧ oo.client = cl'
                  · obtain ⟨rfl, hc2⟩ := hcc
                    have HM := Lib.hid (pick_perm hT1.p.ok.fr hP).2
                    have HP := Lib.hid hP
                    have HC := Lib.hid hc2
                    clear hP hc2
                    go_upto_region 24 with (fail)
                    refine canx_both (c := cl') (i := id') (r := 0) (by intro c a d v w h; cases d <;> exact h) (P1 := fun w' => Twin w w' x ab s kb y rb rs g 3 FF (aPut 3 xs cl' (lockA oo) (lockN oo)) xs (sans id' L) (remM id' L M) L M kk kk ∧ Blk w' b8 81 [.int .i64 kd, .int .i64 cl', .int .i64 id', .bool by', .int .u64 p', .int .u64 q']) (P2 := fun w' => Twin w w' x ab s kb y rb rs g 3 FF (aPut 3 xs cl' (lockA oo) (lockN oo)) (aPut 3 xs cl' (lockA oo) (lockN oo)) (sans id' L) (remM id' L M) (sans id' L) (remM id' L M) kk kk ∧ Blk w' b8 81 [.int .i64 kd, .int .i64 cl', .int .i64 id', .bool by', .int .u64 p', .int .u64 q']) ?_ ?_ ?_ ?_ (hb.at (i := 1) rfl) (hb.at (i := 2) rfl) ?_
                    · have hT4 := hT1.to ((Chg.refl [] wc).drew)
                      have hb4 := hb.chg ((Chg.refl [] wc).drew) (by simp)
                      refine (cancel_yes hT4.p (by omega) id' oo HP.out cl' HC.out).mono ?_
                      rintro e w6 ⟨rfl, h6, c6⟩
                      exact ⟨rfl, hT4.left h6 (c6.mono (fun z hz => List.mem_cons_of_mem x hz)) (Grw.refl _ _), hb4.chg c6 (fun hm => HBX.out.1 (List.mem_cons_of_mem x hm))⟩
                    · rintro w1 ⟨hT5, hb5⟩
                      refine (rxcancel_yes hT5.r (by omega) id' oo HP.out HM.out cl' HC.out).mono ?_
                      rintro e w6 ⟨rfl, h6, c6⟩
                      exact ⟨rfl, hT5.right h6 (c6.mono (fun z hz => List.mem_cons_of_mem y hz)), hb5.chg c6 (fun hm => HBX.out.2 (List.mem_cons_of_mem y hm))⟩
                    · exact fun w' hw => ⟨hw.2.at (i := 1) rfl, hw.2.at (i := 2) rfl⟩
                    · exact fun w' hw => ⟨hw.2.at (i := 1) rfl, hw.2.at (i := 2) rfl⟩
                    · intro w6 h6
                      intros
                      have hT6 := h6.1
                      clear hT1 hb h6
                      go_wp2_with fail
                      go_meet
                      exact ⟨rfl, FF, _, _, _, kk, hT6, by omega⟩
                  · have hne : ok = false ∨ oo.client ≠ cl' := by
                      cases ok
                      · exact .inl rfl
                      · exact .inr fun e => hcc ⟨rfl, e⟩
                    have HP := Lib.hid hP
                    have HC := Lib.hid hne
                    clear hP hne hcc
                    go_upto_region 24 with (fail)
                    refine canx_both (c := cl') (i := id') (r := 7) (by intro c a d v w h; cases d <;> exact h) (P1 := fun w' => Twin w w' x ab s kb y rb rs g 3 FF xs xs L M L M kk kk ∧ Blk w' b8 81 [.int .i64 kd, .int .i64 cl', .int .i64 id', .bool by', .int .u64 p', .int .u64 q']) (P2 := fun w' => Twin w w' x ab s kb y rb rs g 3 FF xs xs L M L M kk kk ∧ Blk w' b8 81 [.int .i64 kd, .int .i64 cl', .int .i64 id', .bool by', .int .u64 p', .int .u64 q']) ?_ ?_ ?_ ?_ (hb.at (i := 1) rfl) (hb.at (i := 2) rfl) ?_
                    · have hT4 := hT1.to ((Chg.refl [] wc).drew)
                      have hb4 := hb.chg ((Chg.refl [] wc).drew) (by simp)
                      refine (cancel_no hT4.p (by omega) id' oo ok HP.out cl' HC.out).mono ?_
                      rintro e w6 ⟨rfl, h6, c6⟩
                      exact ⟨rfl, hT4.to c6, hb4.chg c6 (by simp)⟩
                    · rintro w1 ⟨hT5, hb5⟩
                      refine (rxcancel_no hT5.r (by omega) id' oo ok HP.out cl' HC.out).mono ?_
                      rintro e w6 ⟨rfl, h6, c6⟩
                      exact ⟨rfl, hT5.to c6, hb5.chg c6 (by simp)⟩
                    · exact fun w' hw => ⟨hw.2.at (i := 1) rfl, hw.2.at (i := 2) rfl⟩
                    · exact fun w' hw => ⟨hw.2.at (i := 1) rfl, hw.2.at (i := 2) rfl⟩
                    · intro w6 h6
                      intros
                      have hT6 := h6.1
                      clear hT1 hb h6
                      go_wp2_with fail
                      go_meet
                      exact ⟨rfl, FF, _, _, _, kk, hT6, by omega⟩
                · have d0 : ((f0 : Int) == 0) = false := beq_eq_false_iff_ne.2 (by omega)
                  rcases h12 with rfl | rfl
                  · by_cases hE : mtE 3 xs cl' by' p' q' = 0
                    · obtain ⟨T, hT⟩ : ∃ T, (mres ⟨(kk : Int) + 1, cl', by', p', q'⟩ L M).1 = T := ⟨_, rfl⟩
                      obtain ⟨lft, hlft⟩ : ∃ T, (mres ⟨(kk : Int) + 1, cl', by', p', q'⟩ L M).2.1 = T := ⟨_, rfl⟩
                      obtain ⟨L', hL⟩ : ∃ T, mL ⟨(kk : Int) + 1, cl', by', p', q'⟩ L M = T := ⟨_, rfl⟩
                      obtain ⟨M', hM⟩ : ∃ T, mM ⟨(kk : Int) + 1, cl', by', p', q'⟩ L M = T := ⟨_, rfl⟩
                      obtain ⟨xs1, hx1⟩ : ∃ T, aTake 3 xs cl' (lockA ⟨(kk : Int) + 1, cl', by', p', q'⟩) (lockN ⟨(kk : Int) + 1, cl', by', p', q'⟩) = T := ⟨_, rfl⟩
                      obtain ⟨xs2, hx2⟩ : ∃ z, T.foldl (payL 3 ⟨(kk : Int) + 1, cl', by', p', q'⟩) xs1 = z := ⟨_, rfl⟩
                      have hml := mres_len ⟨(kk : Int) + 1, cl', by', p', q'⟩ L M
                      have hlen := hT1.p.ok.len
                      rw [hT] at hml
                      obtain ⟨nT, hnT⟩ : ∃ m, T.length = m := ⟨_, rfl⟩
                      rw [hnT] at hml
                      have hnT50 : nT ≤ 60 := by omega
                      have HNT := Lib.hid hnT
                      have HT := Lib.hid (And.intro hT hlft)
                      have HLM := Lib.hid (And.intro hL hM)
                      have HX := Lib.hid (And.intro hx1 hx2)
                      have HE := Lib.hid hE
                      have HOKS := Lib.hid hT1.p.b.ok
                      clear hT hlft hL hM hx1 hx2 hnT hE hml hlen
                      have y1 := hb.at (i := 1) rfl
                      have y3 := hb.at (i := 3) rfl
                      have y4 := hb.at (i := 4) rfl
                      have y5 := hb.at (i := 5) rfl
                      go_wp2_with fail
                      refine (now_yes hT1.p (by omega) cl' by' p' q' HFQ.out.2.2.1 HFQ.out.2.2.2 HFQ.out.1 HE.out xs1 xs2 T lft L' M' HX.out.1 HT.out HX.out.2 HLM.out.1 HLM.out.2).mono ?_
                      rw [HNT.out]
                      rintro e w6 ⟨a6, d6, rfl, hN6, h6, c6⟩
                      have hT6 := hT1.left h6 c6 (Grw.refl _ _)
                      have hb6 := hb.chg c6 HBX.out.1
                      have hgl := hT1.r.b.b.lt
                      have hof := hT1.r.b.fr
                      have hyl := hof y (by simp [offs])
                      have hrl := hof rs (by simp [offs])
                      have hg6 := hT6.r.b.b.lt
                      clear hT1 hb y1 y3 y4 y5 h6 c6 hof
                      have y1 := hb6.at (i := 1) rfl
                      have y3 := hb6.at (i := 3) rfl
                      have y4 := hb6.at (i := 4) rfl
                      have y5 := hb6.at (i := 5) rfl
                      go_wp2_with fail
                      refine (rxplace_now hT6.r (by omega) hg6 cl' by' p' q' HFQ.out.2.2.1 HFQ.out.2.2.2 HFQ.out.1 HOKS.out HE.out xs1 xs2 T lft L' M' HX.out.1 HT.out HX.out.2 HLM.out.1 HLM.out.2).mono ?_
                      rw [HNT.out]
                      rintro e w7 ⟨a7, d7, rfl, hN7, h7, c7⟩
                      have hT7 := hT6.right h7 c7
                      have hN8 := hN6.chg c7 (by simp; exact ⟨hyl, hgl, hrl⟩)
                      clear hT6 hb6 y1 y3 y4 y5 hN6 h7 c7 hyl hgl hrl hg6
                      go_wp2_with fail
                      refine (rSameT hN8 hN7 nT HNT.out (by omega)).mono ?_
                      rintro e w8 ⟨rfl, c8⟩
                      have hT8 := hT7.to c8
                      clear hT7 hN8 hN7 c8
                      go_wp2_with fail
                      go_meet
                      exact ⟨rfl, FF, _, _, _, kk + 1, hT8, by omega⟩
                    · obtain ⟨e0, he0⟩ : ∃ e, mtE 3 xs cl' by' p' q' = e := ⟨_, rfl⟩
                      rw [he0] at hE
                      have HE := Lib.hid he0
                      have HNE := Lib.hid hE
                      clear he0 hE
                      have y1 := hb.at (i := 1) rfl
                      have y3 := hb.at (i := 3) rfl
                      have y4 := hb.at (i := 4) rfl
                      have y5 := hb.at (i := 5) rfl
                      go_wp2_with fail
                      refine (now_no hT1.p (by omega) cl' by' p' q' HFQ.out.2.2.1 HFQ.out.2.2.2 HFQ.out.1 e0 HE.out HNE.out).mono ?_
                      rintro e w6 ⟨rfl, h6, c6⟩
                      have hT6 := hT1.left h6 (c6.mono (by simp)) (Grw.refl _ _)
                      have hb6 := hb.chg c6 (fun hm => HBX.out.1 (by simp at hm; simp [hm]))
                      clear hT1 hb y1 y3 y4 y5 h6 c6
                      have y1 := hb6.at (i := 1) rfl
                      have y3 := hb6.at (i := 3) rfl
                      have y4 := hb6.at (i := 4) rfl
                      have y5 := hb6.at (i := 5) rfl
                      go_wp2_with fail
                      refine (rxplace_no hT6.r (by omega) cl' by' p' q' false HFQ.out.2.2.1 HFQ.out.2.2.2 HFQ.out.1 e0 HE.out HNE.out).mono ?_
                      rintro e w7 ⟨rfl, h7, c7⟩
                      have hT7 := hT6.right h7 (c7.mono (by simp))
                      clear hT6 hb6 y1 y3 y4 y5 h7 c7
                      go_wp2_with fail
                      refine (rSameT (B1 := 0) (B2 := 0) (.inl rfl) (.inl rfl) 0 rfl (by omega)).mono ?_
                      rintro e w8 ⟨rfl, c8⟩
                      have hT8 := hT7.to c8
                      clear hT7 c8
                      go_wp2_with fail
                      go_meet
                      exact ⟨rfl, FF, _, _, _, kk, hT8, by omega⟩
                  · by_cases hE : mtE 3 xs cl' by' p' q' = 0
                    · obtain ⟨T, hT⟩ : ∃ T, (mres ⟨(kk : Int) + 1, cl', by', p', q'⟩ L M).1 = T := ⟨_, rfl⟩
                      obtain ⟨lft, hlft⟩ : ∃ T, (mres ⟨(kk : Int) + 1, cl', by', p', q'⟩ L M).2.1 = T := ⟨_, rfl⟩
                      obtain ⟨L', hL⟩ : ∃ T, mL ⟨(kk : Int) + 1, cl', by', p', q'⟩ L M = T := ⟨_, rfl⟩
                      obtain ⟨M', hM⟩ : ∃ T, mM ⟨(kk : Int) + 1, cl', by', p', q'⟩ L M = T := ⟨_, rfl⟩
                      obtain ⟨xs1, hx1⟩ : ∃ T, aTake 3 xs cl' (lockA ⟨(kk : Int) + 1, cl', by', p', q'⟩) (lockN ⟨(kk : Int) + 1, cl', by', p', q'⟩) = T := ⟨_, rfl⟩
                      obtain ⟨xs2, hx2⟩ : ∃ z, T.foldl (payL 3 ⟨(kk : Int) + 1, cl', by', p', q'⟩) xs1 = z := ⟨_, rfl⟩
                      have hml := mres_len ⟨(kk : Int) + 1, cl', by', p', q'⟩ L M
                      have hlen := hT1.p.ok.len
                      rw [hT] at hml
                      obtain ⟨nT, hnT⟩ : ∃ m, T.length = m := ⟨_, rfl⟩
                      rw [hnT] at hml
                      have hnT50 : nT ≤ 60 := by omega
                      have HNT := Lib.hid hnT
                      have HT := Lib.hid (And.intro hT hlft)
                      have HLM := Lib.hid (And.intro hL hM)
                      have HX := Lib.hid (And.intro hx1 hx2)
                      have HE := Lib.hid hE
                      have HOKS := Lib.hid hT1.p.b.ok
                      clear hT hlft hL hM hx1 hx2 hnT hE hml hlen
                      have y1 := hb.at (i := 1) rfl
                      have y3 := hb.at (i := 3) rfl
                      have y4 := hb.at (i := 4) rfl
                      have y5 := hb.at (i := 5) rfl
                      go_wp2_with fail
                      refine (now_yes hT1.p (by omega) cl' by' p' q' HFQ.out.2.2.1 HFQ.out.2.2.2 HFQ.out.1 HE.out xs1 xs2 T lft L' M' HX.out.1 HT.out HX.out.2 HLM.out.1 HLM.out.2).mono ?_
                      rw [HNT.out]
                      rintro e w6 ⟨a6, d6, rfl, hN6, h6, c6⟩
                      have hT6 := hT1.left h6 c6 (Grw.refl _ _)
                      have hb6 := hb.chg c6 HBX.out.1
                      have hgl := hT1.r.b.b.lt
                      have hof := hT1.r.b.fr
                      have hyl := hof y (by simp [offs])
                      have hrl := hof rs (by simp [offs])
                      have hg6 := hT6.r.b.b.lt
                      clear hT1 hb y1 y3 y4 y5 h6 c6 hof
                      have y1 := hb6.at (i := 1) rfl
                      have y3 := hb6.at (i := 3) rfl
                      have y4 := hb6.at (i := 4) rfl
                      have y5 := hb6.at (i := 5) rfl
                      go_wp2_with fail
                      refine (rxplace_now hT6.r (by omega) hg6 cl' by' p' q' HFQ.out.2.2.1 HFQ.out.2.2.2 HFQ.out.1 HOKS.out HE.out xs1 xs2 T lft L' M' HX.out.1 HT.out HX.out.2 HLM.out.1 HLM.out.2).mono ?_
                      rw [HNT.out]
                      rintro e w7 ⟨a7, d7, rfl, hN7, h7, c7⟩
                      have hT7 := hT6.right h7 c7
                      have hN8 := hN6.chg c7 (by simp; exact ⟨hyl, hgl, hrl⟩)
                      clear hT6 hb6 y1 y3 y4 y5 hN6 h7 c7 hyl hgl hrl hg6
                      go_wp2_with fail
                      refine (rSameT hN8 hN7 nT HNT.out (by omega)).mono ?_
                      rintro e w8 ⟨rfl, c8⟩
                      have hT8 := hT7.to c8
                      clear hT7 hN8 hN7 c8
                      go_wp2_with fail
                      go_meet
                      exact ⟨rfl, FF, _, _, _, kk + 1, hT8, by omega⟩
                    · obtain ⟨e0, he0⟩ : ∃ e, mtE 3 xs cl' by' p' q' = e := ⟨_, rfl⟩
                      rw [he0] at hE
                      have HE := Lib.hid he0
                      have HNE := Lib.hid hE
                      clear he0 hE
                      have y1 := hb.at (i := 1) rfl
                      have y3 := hb.at (i := 3) rfl
                      have y4 := hb.at (i := 4) rfl
                      have y5 := hb.at (i := 5) rfl
                      go_wp2_with fail
                      refine (now_no hT1.p (by omega) cl' by' p' q' HFQ.out.2.2.1 HFQ.out.2.2.2 HFQ.out.1 e0 HE.out HNE.out).mono ?_
                      rintro e w6 ⟨rfl, h6, c6⟩
                      have hT6 := hT1.left h6 (c6.mono (by simp)) (Grw.refl _ _)
                      have hb6 := hb.chg c6 (fun hm => HBX.out.1 (by simp at hm; simp [hm]))
                      clear hT1 hb y1 y3 y4 y5 h6 c6
                      have y1 := hb6.at (i := 1) rfl
                      have y3 := hb6.at (i := 3) rfl
                      have y4 := hb6.at (i := 4) rfl
                      have y5 := hb6.at (i := 5) rfl
                      go_wp2_with fail
                      refine (rxplace_no hT6.r (by omega) cl' by' p' q' false HFQ.out.2.2.1 HFQ.out.2.2.2 HFQ.out.1 e0 HE.out HNE.out).mono ?_
                      rintro e w7 ⟨rfl, h7, c7⟩
                      have hT7 := hT6.right h7 (c7.mono (by simp))
                      clear hT6 hb6 y1 y3 y4 y5 h7 c7
                      go_wp2_with fail
                      refine (rSameT (B1 := 0) (B2 := 0) (.inl rfl) (.inl rfl) 0 rfl (by omega)).mono ?_
                      rintro e w8 ⟨rfl, c8⟩
                      have hT8 := hT7.to c8
                      clear hT7 c8
                      go_wp2_with fail
                      go_meet
                      exact ⟨rfl, FF, _, _, _, kk, hT8, by omega⟩
                · have d0 : ((f0 : Int) == 0) = false := beq_eq_false_iff_ne.2 (by omega)
                  have d1 : ((f0 : Int) == 1) = false := beq_eq_false_iff_ne.2 (by omega)
                  have d2 : ((f0 : Int) == 2) = false := beq_eq_false_iff_ne.2 (by omega)
                  by_cases hE : mtE 3 xs cl' by' p' q' = 0
                  · obtain ⟨T, hT⟩ : ∃ T, (mres ⟨(kk : Int) + 1, cl', by', p', q'⟩ L M).1 = T := ⟨_, rfl⟩
                    obtain ⟨lft, hlft⟩ : ∃ T, (mres ⟨(kk : Int) + 1, cl', by', p', q'⟩ L M).2.1 = T := ⟨_, rfl⟩
                    obtain ⟨L', hL⟩ : ∃ T, mL ⟨(kk : Int) + 1, cl', by', p', q'⟩ L M = T := ⟨_, rfl⟩
                    obtain ⟨M', hM⟩ : ∃ T, mM ⟨(kk : Int) + 1, cl', by', p', q'⟩ L M = T := ⟨_, rfl⟩
                    obtain ⟨xs1, hx1⟩ : ∃ T, aTake 3 xs cl' (lockA ⟨(kk : Int) + 1, cl', by', p', q'⟩) (lockN ⟨(kk : Int) + 1, cl', by', p', q'⟩) = T := ⟨_, rfl⟩
                    obtain ⟨xs2, hx2⟩ : ∃ z, T.foldl (payL 3 ⟨(kk : Int) + 1, cl', by', p', q'⟩) xs1 = z := ⟨_, rfl⟩
                    have hml := mres_len ⟨(kk : Int) + 1, cl', by', p', q'⟩ L M
                    have hlen := hT1.p.ok.len
                    rw [hT] at hml
                    obtain ⟨nT, hnT⟩ : ∃ m, T.length = m := ⟨_, rfl⟩
                    rw [hnT] at hml
                    have hnT50 : nT ≤ 60 := by omega
                    have HNT := Lib.hid hnT
                    have HT := Lib.hid (And.intro hT hlft)
                    have HLM := Lib.hid (And.intro hL hM)
                    have HX := Lib.hid (And.intro hx1 hx2)
                    have HE := Lib.hid hE
                    have HOKS := Lib.hid hT1.p.b.ok
                    clear hT hlft hL hM hx1 hx2 hnT hE hml hlen
                    have y1 := hb.at (i := 1) rfl
                    have y3 := hb.at (i := 3) rfl
                    have y4 := hb.at (i := 4) rfl
                    have y5 := hb.at (i := 5) rfl
                    go_wp2_with fail
                    refine (limit_yes hT1.p (by omega) cl' by' p' q' HFQ.out.2.2.1 HFQ.out.2.2.2 HFQ.out.1 HE.out xs1 xs2 T lft L' M' HX.out.1 HT.out HX.out.2 HLM.out.1 HLM.out.2).mono ?_
                    rw [HNT.out]
                    rintro e w6 ⟨a6, d6, rfl, hN6, F6, h6, c6, g6, -⟩
                    have hT6 := hT1.left h6 c6 g6
                    have hb6 := hb.chg c6 HBX.out.1
                    have hgl := hT1.r.b.b.lt
                    have hof := hT1.r.b.fr
                    have hyl := hof y (by simp [offs])
                    have hrl := hof rs (by simp [offs])
                    have hg6 := hT6.r.b.b.lt
                    clear hT1 hb y1 y3 y4 y5 h6 c6 hof
                    have y1 := hb6.at (i := 1) rfl
                    have y3 := hb6.at (i := 3) rfl
                    have y4 := hb6.at (i := 4) rfl
                    have y5 := hb6.at (i := 5) rfl
                    go_wp2_with fail
                    refine (rxplace_limit hT6.r (by omega) hg6 cl' by' p' q' HFQ.out.2.2.1 HFQ.out.2.2.2 HFQ.out.1 HOKS.out HE.out xs1 xs2 T lft L' M' HX.out.1 HT.out HX.out.2 HLM.out.1 HLM.out.2).mono ?_
                    rw [HNT.out]
                    rintro e w7 ⟨a7, d7, rfl, hN7, h7, c7⟩
                    have hT7 := hT6.right h7 c7
                    have hN8 := hN6.chg c7 (by simp; exact ⟨hyl, hgl, hrl⟩)
                    clear hT6 hb6 y1 y3 y4 y5 hN6 h7 c7 hyl hgl hrl hg6
                    go_wp2_with fail
                    refine (rSameT hN8 hN7 nT HNT.out (by omega)).mono ?_
                    rintro e w8 ⟨rfl, c8⟩
                    have hT8 := hT7.to c8
                    clear hT7 hN8 hN7 c8
                    go_wp2_with fail
                    go_meet
                    exact ⟨rfl, F6, _, _, _, kk + 1, hT8, by omega⟩
                  · obtain ⟨e0, he0⟩ : ∃ e, mtE 3 xs cl' by' p' q' = e := ⟨_, rfl⟩
                    rw [he0] at hE
                    have HE := Lib.hid he0
                    have HNE := Lib.hid hE
                    clear he0 hE
                    have y1 := hb.at (i := 1) rfl
                    have y3 := hb.at (i := 3) rfl
                    have y4 := hb.at (i := 4) rfl
                    have y5 := hb.at (i := 5) rfl
                    go_wp2_with fail
                    refine (limit_no hT1.p (by omega) cl' by' p' q' HFQ.out.2.2.1 HFQ.out.2.2.2 HFQ.out.1 e0 HE.out HNE.out).mono ?_
                    rintro e w6 ⟨rfl, h6, c6⟩
                    have hT6 := hT1.left h6 (c6.mono (by simp)) (Grw.refl _ _)
                    have hb6 := hb.chg c6 (fun hm => HBX.out.1 (by simp at hm; simp [hm]))
                    clear hT1 hb y1 y3 y4 y5 h6 c6
                    have y1 := hb6.at (i := 1) rfl
                    have y3 := hb6.at (i := 3) rfl
                    have y4 := hb6.at (i := 4) rfl
                    have y5 := hb6.at (i := 5) rfl
                    go_wp2_with fail
                    refine (rxplace_no hT6.r (by omega) cl' by' p' q' true HFQ.out.2.2.1 HFQ.out.2.2.2 HFQ.out.1 e0 HE.out HNE.out).mono ?_
                    rintro e w7 ⟨rfl, h7, c7⟩
                    have hT7 := hT6.right h7 (c7.mono (by simp))
                    clear hT6 hb6 y1 y3 y4 y5 h7 c7
                    go_wp2_with fail
                    refine (rSameT (B1 := 0) (B2 := 0) (.inl rfl) (.inl rfl) 0 rfl (by omega)).mono ?_
                    rintro e w8 ⟨rfl, c8⟩
                    have hT8 := hT7.to c8
                    clear hT7 c8
                    go_wp2_with fail
                    go_meet
                    exact ⟨rfl, FF, _, _, _, kk, hT8, by omega⟩
              case rest =>
                clear hT1 hb hfc hfi hfp hfq
                obtain ⟨rfl, FF', xs', L', M', kk', hT2, hkk2⟩ := hcut
                have hkb := hT2.p.ok.len
                have i25 : ∀ c : Int, -1 ≤ c → c < 4 → IntKind.i64.wrap (c + 1) = c + 1 := fun c h1 h2 => IntWalk.i64_in _ (by omega)
                have HI := Lib.hid i25
                clear i25
                go_wp2_with fail
                go_loopw [25] (fun i wx => ∃ c : Int, -1 ≤ c ∧ c ≤ 4 ∧ i = .int .i64 c ∧ Twin w wx x ab s kb y rb rs g 3 FF' xs' xs' L' M' L' M' kk' kk') (fun i _ => (4 - intOf i).toNat)
                case atStart => exact ⟨-1, by omega, by omega, rfl, hT2⟩
                case round =>
                  clear hT2
                  obtain ⟨c, hc1, hc2, rfl, hT⟩ := hrel
                  by_cases hc4 : c < 4
                  · have d4 : decide (c < 4) = true := by simp; omega
                    have wc1 := HI.out c hc1 hc4
                    go_wp2_with fail
                    go_loopw [26] (fun i wx => ∃ q : Int, -1 ≤ q ∧ q ≤ 3 ∧ i = .int .i64 q ∧ Twin w wx x ab s kb y rb rs g 3 FF' xs' xs' L' M' L' M' kk' kk') (fun i _ => (3 - intOf i).toNat)
                    case atStart => exact ⟨-1, by omega, by omega, rfl, hT⟩
                    case round =>
                      clear hT
                      obtain ⟨q, hq1, hq2, rfl, hT⟩ := hrel
                      by_cases hq3 : q < 3
                      · have d3 : decide (q < 3) = true := by simp; omega
                        have wq1 := HI.out q hq1 (by omega)
                        obtain ⟨fr, hfr⟩ : ∃ z, aFree 3 xs' c q = z := ⟨_, rfl⟩
                        obtain ⟨lc, hlc⟩ : ∃ z, lkd c q L' + lkd c q M' = z := ⟨_, rfl⟩
                        have HFR := Lib.hid hfr
                        have HLC := Lib.hid hlc
                        clear hfr hlc
                        go_wp2_with fail
                        refine (free_is hT.p.a c q fr HFR.out).mono ?_
                        rintro e w8 ⟨rfl, rfl⟩
                        go_wp2_with fail
                        refine (rfree_any hT.r.a c q).mono ?_
                        rw [HFR.out]
                        rintro e w8 ⟨rfl, rfl⟩
                        go_wp2_with fail
                        refine (locked_any hT.p (by omega) c q lc HLC.out).mono ?_
                        rintro e w8 ⟨rfl, c8⟩
                        have hT8 := hT.to c8
                        clear hT c8
                        go_wp2_with fail
                        refine (rxlocked_any hT8.r (by omega) c q lc HLC.out).mono ?_
                        rintro e w9 ⟨rfl, c9⟩
                        have hT9 := hT8.to c9
                        clear hT8 c9
                        go_wp2_with fail
                        go_roundw
                        case rel => exact ⟨q + 1, by omega, by omega, by first | rfl | go_num, hT9⟩
                        case measure => simp [intOf]; omega
                      · obtain rfl : q = 3 := by omega
                        go_wp2_with fail
                        go_roundw
                        case rel => exact ⟨c + 1, by omega, by omega, by first | rfl | go_num, hT⟩
                        case measure => simp [intOf]; omega
                  · obtain rfl : c = 4 := by omega
                    go_upto_region 40 with (fail)
                    obtain ⟨aL, cL, aM, cM, k1, HOL, k3, HOM⟩ := hT.r.b.rows
                    obtain ⟨nL, hnL⟩ : ∃ m, L'.length = m := ⟨_, rfl⟩
                    obtain ⟨nM, hnM⟩ : ∃ m, M'.length = m := ⟨_, rfl⟩
                    have HSL : Hid (∀ {w : World} (a1 a2 : Option Addr) (c1 c2 : Nat), Osq w a1 L' → Osq w a2 L' → Calls Try.prog 51 #[.slice a1 nL c1, .slice a2 nL c2] w fun e w' => e = .returned (.bool true) ∧ Chg [] w w') := by
                      intro w a1 a2 c1 c2 h1 h2; rw [← hnL]; exact rSame h1 h2 (by omega)
                    have HSM : Hid (∀ {w : World} (a1 a2 : Option Addr) (c1 c2 : Nat), Osq w a1 M' → Osq w a2 M' → Calls Try.prog 51 #[.slice a1 nM c1, .slice a2 nM c2] w fun e w' => e = .returned (.bool true) ∧ Chg [] w w') := by
                      intro w a1 a2 c1 c2 h1 h2; rw [← hnM]; exact rSame h1 h2 (by omega)
                    rw [hnL] at k1
                    rw [hnM] at k3
                    refine exch_last (by intro c a d v w h; cases d <;> exact h) (Lib.hid hT.p) (Lib.hid hnL) (Lib.hid hnM) (by omega) (by omega) (Lib.hid HOL) (Lib.hid HOM) HSL HSM (hT.r.hd.at (i := 1) rfl) k1 k3 ?_
                    intro w9 c9
                    intros
                    have hT9 := hT.to c9
                    clear hT HSL HSM HOL HOM k1 k3 hnL hnM c9
                    go_wp2_with fail
                    go_roundw
                    case rel => exact ⟨k + 1, FF', xs', L', M', kk', by omega, by omega, by go_num, hT9, hkk2⟩
                    case measure => simp [intOf]; omega
          · have hlt4 : Hid (¬ (k < n1 ∧ k < 40)) := hlt2
            clear hlt2
            rcases Nat.lt_or_ge k n1 with hh | hh
            · have h6 : ¬ k < 40 := fun h7 => hlt4.out ⟨hh, h7⟩
              have d40 : decide ((k : Int) < 40) = false := by simp; omega
              go_wp2_with fail
              refine (awake10 _).mono ?_
              rintro e w2 ⟨rfl, c2⟩
              go_wp2_with fail
              go_ret
              exact ⟨rfl, (hT.p.b.c.trans c2).below⟩
            · go_wp2_with fail
              refine (awake10 _).mono ?_
              rintro e w2 ⟨rfl, c2⟩
              go_wp2_with fail
              go_ret
              exact ⟨rfl, (hT.p.b.c.trans c2).below⟩
end Go.Proofs.Yteabcpmpcbjicaa
