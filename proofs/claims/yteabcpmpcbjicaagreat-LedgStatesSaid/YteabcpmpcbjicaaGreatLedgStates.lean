
import Derived.Test.YteabcpmpcbjicaaGreatLsU
import Derived.Test.YteabcpmpcbjicaaGreatLsR
import Derived.Test.YteabcpmpcbjicaaGreatShell
import Derived.Deep.CutBlock
import Derived.Deep.RegionHeld3
namespace Go.Proofs.YteabcpmpcbjicaaGreat
set_option linter.unusedVariables false
set_option linter.unusedSimpArgs false
set_option maxRecDepth 100000
open Go Go.Proofs Go.RowKit
attribute [local go_sem ↓] Go.wp_at_zero Go.wp_at_succ

set_option maxHeartbeats 16000000 in
theorem ledgstates_walk (a : Option Addr) (n cap : Nat) (z : List Int) (nn mm : Int) (w : World) (hn : n = z.length) (hzm : n ≤ 9223372036854775807) (hU : ∀ x ∈ z, U x) (hr0 : Row64 w a z) (hnn : U nn) (hmm : U mm) :
    Calls Tryz.prog 11 #[.slice a n cap, .int .u64 nn, .int .u64 mm] w fun e w' => e = .returned (.bool true) ∧ Below w.heap.size w w' := by
  have HR := Lib.hid hr0
  have HU := Lib.hid hU
  have HNN := Lib.hid (And.intro hnn hmm)
  have HNZ := Lib.hid hn
  clear hr0 hU hnn hmm hn
  go_enter Tryz.func11, Tryz.ntmps11
  go_wp2_with fail
  refine (ledNew 3 (by omega) (by omega) w).mono ?_
  rintro y w1 ⟨la, FA, rfl, h1⟩
  have H1 := Lib.hid h1
  clear h1
  go_wp2_with fail
  refine (ledNew 3 (by omega) (by omega) w1).mono ?_
  rintro y w2 ⟨lb, FB, rfl, h2⟩
  have HA : Hid (LedX w w2 la 3 FA (LS1 3) 0) := H1.out.to h2.c
  have HB : Hid (LedX w w2 lb 3 FB (LS1 3) 0) := h2.rebase2 H1.out.c
  have HD : Hid (∀ z ∈ FA, z ∉ FB) := fun z hz hm => by have := (H1.out.lt z hz).2; have := (h2.lt z hm).1; omega
  clear H1 h2
  go_wp2_with fail
  go_loopw [9] (fun i wr => ∃ (j : Nat) (FA FB : List Nat) (S : LS) (t : Nat), i = .int .i64 j ∧ j ≤ 41 ∧ t ≤ j ∧ Hid (LedX w wr la 3 FA S t) ∧ Hid (LedX w wr lb 3 FB S t) ∧ Hid (∀ z ∈ FA, z ∉ FB)) (fun i _ => 43 - (intOf i).toNat)
  case atStart => exact ⟨0, FA, FB, _, 0, rfl, by omega, by omega, HA, HB, HD⟩
  case round =>
    clear HA HB HD
    obtain ⟨j, FA, FB, S, t, rfl, hj, ht, HA, HB, HD⟩ := hrel
    have wj : IntKind.i64.wrap ((j : Int) + 1) = (j : Int) + 1 := by simp [IntKind.wrap, IntKind.bits, IntKind.signed]; omega
    have wj2 : IntKind.i64.wrap ((j : Int) + 2) = ((j + 2 : Nat) : Int) := by simp [IntKind.wrap, IntKind.bits, IntKind.signed]; omega
    by_cases hjn : j + 1 < n ∧ j < 40
    · obtain ⟨hj1, hj2⟩ := hjn
      have i0 : (0 : Int) ≤ (j : Int) := by omega
      have i1 : (j : Int) + 1 < (n : Int) := by omega
      have i2 : (j : Int) < (n : Int) := by omega
      have i3 : (j : Int) < 40 := by omega
      have i4 : (0 : Int) ≤ (j : Int) + 1 := by omega
      obtain ⟨b, off, ea, hcell⟩ := row_cells HR.out (k := j) (by have := HNZ.out; omega)
      obtain ⟨b', off', ea', hcell'⟩ := row_cells HR.out (k := j + 1) (by have := HNZ.out; omega)
      subst ea
      have eb : b = b' ∧ off = off' := by injection ea' with e; injection e with e1 e2 e3; exact ⟨e1, e2⟩
      obtain ⟨rfl, rfl⟩ := eb
      clear ea'
      have s1 := hcell wr HA.out.c.below
      have s2 := hcell' wr HA.out.c.below
      obtain ⟨u1, hu1⟩ : ∃ u, z.getD j 0 = u := ⟨_, rfl⟩
      obtain ⟨u2, hu2⟩ : ∃ u, z.getD (j + 1) 0 = u := ⟨_, rfl⟩
      have HU1 : Hid (U u1) := by show U u1; rw [← hu1]; exact (show U (z.getD j 0) from by
        have hjz : j < z.length := by have := HNZ.out; omega
        rw [show z.getD j 0 = z[j] by simp [List.getD, hjz]]; exact HU.out _ (List.getElem_mem hjz))
      have HU2 : Hid (U u2) := by show U u2; rw [← hu2]; exact (show U (z.getD (j + 1) 0) from by
        have hjz : j + 1 < z.length := by have := HNZ.out; omega
        rw [show z.getD (j + 1) 0 = z[j + 1] by simp [List.getD, hjz]]; exact HU.out _ (List.getElem_mem hjz))
      rw [hu1] at s1
      rw [hu2] at s2
      have lb := cell_blk s1
      clear hcell hcell' hu1 hu2
      go_upto_region 7 with (fail)
      refine states_ent (by intro c a d v w h; cases d <;> exact h) HA lb s1 s2 HU1 HU2 i0 i1 i2 i4 wj ?_
      intro v1 gE e he hbE c1 hgE
      intros
      have HE := Lib.hid he
      have HA1 := Lib.hid (HA.out.to c1)
      have HB1 := Lib.hid (HB.out.to c1)
      have hnA : gE ∉ FA := fun hm => by have := (HA.out.lt _ hm).2; omega
      have hnB : gE ∉ FB := fun hm => by have := (HB.out.lt _ hm).2; omega
      have HNA := Lib.hid hnA
      have HNB := Lib.hid hnB
      clear HA HB s1 s2 lb hgE c1 he hnA hnB
      obtain ⟨S', r, hD⟩ : ∃ S' r, lDo 3 S e = (S', r) := ⟨_, _, rfl⟩
      have HDD := Lib.hid hD
      have hT := lDo_T 3 S e
      rw [hD] at hT
      have hTl : r.T.length ≤ 1000000000 := by
        obtain ⟨-, -, -, -, -, -, hkt, hLM, -⟩ := HA1.out.parts
        have hT2 : r.T.length ≤ S.L.length + S.M.length := hT
        omega
      have HTL := Lib.hid hTl
      have ht9 : t ≤ 100000 := by omega
      clear hD hT hTl
      go_upto_region 8 with (fail)
      have hAd := HA1.out.to ((Chg.refl [] v1).drew)
      have hBd := HB1.out.to ((Chg.refl [] v1).drew)
      have hEd : Blk v1.drew gE 51 (ec e) := hbE
      have q0 := ent_cells hEd
      have ndx := HD.out
      go_region_held3 (fun w' => w'.cell? ⟨gE, 0, none⟩ = some (.int .i64 e.client) ∧ w'.cell? ⟨gE, 1, none⟩ = some (.int .u64 e.nonce) ∧ w'.cell? ⟨gE, 2, none⟩ = some (.int .u64 e.fee) ∧ w'.cell? ⟨gE, 3, none⟩ = some (.bool e.good) ∧ w'.cell? ⟨gE, 4, none⟩ = some (.int .i64 e.tx.kind) ∧ w'.cell? ⟨gE, 5, none⟩ = some (.int .i64 e.tx.asset) ∧ w'.cell? ⟨gE, 6, none⟩ = some (.int .i64 e.tx.dst) ∧ w'.cell? ⟨gE, 7, none⟩ = some (.bool e.tx.buy) ∧ w'.cell? ⟨gE, 8, none⟩ = some (.int .u64 e.tx.price) ∧ w'.cell? ⟨gE, 9, none⟩ = some (.int .u64 e.tx.qty) ∧ w'.cell? ⟨gE, 10, none⟩ = some (.int .i64 e.tx.id)) (first | go_keep | exact q0 | exact q1 | exact q2 | exact q3)
        (first
          | ((go_at_call 26; (with_reducible refine (lxDo hAd ht9 e HE.out S' r HDD.out).mono ?_); rintro y v2 ⟨a1, d1, FA2, rfl, hN1, hA2, c2, g2⟩; have hB2 := hBd.aside c2 (fun z hz => ⟨fun hm => ndx z hz hm, (hAd.lt z hz).1⟩); have hE2 := hEd.chg c2 HNA.out; have q1 := ent_cells hE2; have ndy := (fun z (hz : z ∈ FA2) hm => (g2 z hz).elim (fun q => ndx z q hm) (fun q => by have := (hBd.lt z hm).2; omega) : ∀ z ∈ FA2, z ∉ FB)))
          | ((go_at_call 26; (with_reducible refine (lxDo hB2 ht9 e HE.out S' r HDD.out).mono ?_); rintro y v3 ⟨a2, d2, FB2, rfl, hN2, hB3, c3, g3⟩; have hA3 := hA2.aside c3 (fun z hz => ⟨fun hm => ndy z hm hz, (hBd.lt z hz).1⟩); have hE3 := hE2.chg c3 HNB.out; have q2 := ent_cells hE3; have hN1b := hN1.chg c3 (fun x hx => (hBd.lt x hx).2); have ndz := (fun z (hz : z ∈ FA2) hm => (g3 z hm).elim (fun q => ndy z hz q) (fun q => by have := (hA2.lt z hz).2; omega) : ∀ z ∈ FA2, z ∉ FB2)))
          | ((go_at_call 33; (refine (same_rec hN1b hN2 rfl HTL.out).mono ?_); rintro y v4 ⟨rfl, c4⟩; have q3 := ent_cells (hE3.chg c4 (by simp)); have hA4 := hA3.to c4; have hB4 := hB3.to c4)))
      all_goals
        have HA4 := Lib.hid hA4
        have HB4 := Lib.hid hB4
        have HD4 := Lib.hid ndz
        clear hA4 hB4 ndz hA3 hB3 hA2 hB2 hAd hBd hEd hE2 hE3 q0 q1 q2 q3 ndx ndy hN1 hN2 hN1b c2 c3 c4 g2 g3 HA1 HB1 hbE
        go_wp2_with fail
        go_roundw
        case rel => exact ⟨j + 2, FA2, FB2, S', t + 1, by go_num, by omega, by omega, HA4, HB4, HD4⟩
        case measure => simp [intOf]; omega
    · have hex : ¬ (j + 1 < n ∧ j < 40) := hjn
      go_upto_region 5 with (fail)
      go_cut [35] from 27 to 35 (fun v wx => v = .bool false ∧ wr = wx)
      case first =>
        rcases Nat.lt_or_ge (j + 1) n with hh | hh
        · have h6 : ¬ j < 40 := fun h7 => hex ⟨hh, h7⟩
          have d6 : decide ((j : Int) < 40) = false := by simp; omega
          have d7 : decide ((j : Int) + 1 < (n : Int)) = true := by simp; omega
          go_wp2_with fail
          go_meet
          exact ⟨rfl, rfl⟩
        · have d7 : decide ((j : Int) + 1 < (n : Int)) = false := by simp; omega
          go_wp2_with fail
          go_meet
          exact ⟨rfl, rfl⟩
      case rest =>
        obtain ⟨rfl, rfl⟩ := hcut
        have ht9 : t ≤ 1000 := by omega
        clear hex hjn wj wj2
        go_upto_region 10 with (fail)
        obtain ⟨s, hs⟩ : ∃ s, bstr (stB 3 S) = s := ⟨_, rfl⟩
        have HSS := Lib.hid hs
        clear hs
        go_cut [64] from 58 to 64 (fun v wx => v = .bool false ∧ Hid (Chg [] wr wx))
        case first =>
          have ht8 : t ≤ 100000 := by omega
          obtain ⟨_, _, _, _, _, _, _, _, _, _, _, _, _, _, _, hpB, _⟩ := HA.out.parts
          have h4 := hpB.at (i := 4) rfl
          refine states_two (by intro c a d v w h; cases d <;> exact h) HA HB h4 ht8 ht8 HSS HSS ?_
          intro v c1
          intros
          go_wp2_with fail
          go_meet
          exact ⟨rfl, c1⟩
        case rest =>
          obtain ⟨rfl, HC2⟩ := hcut
          have HA5 := Lib.hid (HA.out.to HC2.out)
          have HB5 := Lib.hid (HB.out.to HC2.out)
          clear HA HB HC2
          go_wp2_with fail
          refine (entry_any HA5.out nn mm HNN.out.1 HNN.out.2).mono ?_
          rintro y v5 ⟨e, rfl, he, c5⟩
          have hbE : Blk (v5.alloc (.cells #[.int .i64 e.client, .int .u64 e.nonce, .int .u64 e.fee, .bool e.good, .int .i64 e.tx.kind, .int .i64 e.tx.asset, .int .i64 e.tx.dst, .bool e.tx.buy, .int .u64 e.tx.price, .int .u64 e.tx.qty, .int .i64 e.tx.id] 51)) v5.heap.size 51 (ec e) := Blk.new v5 (ec e) 51
          have cA : Chg [] v5 (v5.alloc (.cells #[.int .i64 e.client, .int .u64 e.nonce, .int .u64 e.fee, .bool e.good, .int .i64 e.tx.kind, .int .i64 e.tx.asset, .int .i64 e.tx.dst, .bool e.tx.buy, .int .u64 e.tx.price, .int .u64 e.tx.qty, .int .i64 e.tx.id] 51)) := (Chg.refl _ _).alloc _
          have HE := Lib.hid he
          have HA6 := Lib.hid ((HA5.out.to c5).to cA)
          have HB6 := Lib.hid ((HB5.out.to c5).to cA)
          have HNB : Hid (v5.heap.size ∉ FB) := fun hm => by have := ((HB5.out.to c5).lt _ hm).2; omega
          clear HA5 HB5 he c5 cA
          go_upto_region 13 with (fail)
          generalize v5.heap.size = gE at *
          generalize v5.alloc _ = W6 at *
          have x0 := hbE.at (i := 0) rfl
          obtain ⟨nx, hnx⟩ : ∃ v, lNextV 3 S e.client = v := ⟨_, rfl⟩
          obtain ⟨f1, hf1⟩ : ∃ v, aFree 3 S.xs e.client 1 = v := ⟨_, rfl⟩
          obtain ⟨f0, hf0⟩ : ∃ v, aFree 3 S.xs e.client 0 = v := ⟨_, rfl⟩
          obtain ⟨gt, hgt⟩ : ∃ v, S.got = v := ⟨_, rfl⟩
          have HNX := Lib.hid hnx
          have HF1 := Lib.hid hf1
          have HF0 := Lib.hid hf0
          have HGT := Lib.hid hgt
          have HBE := Lib.hid hbE
          clear hnx hf1 hf0 hgt hbE
          go_wp2_with fail
          refine (lxNext HB6.out e.client nx HNX.out).mono ?_
          rintro y w7 ⟨rfl, k7⟩
          go_wp2_with fail
          refine (lxFree (HB6.out.to k7) e.client 1 f1 HF1.out).mono ?_
          rintro y w8 ⟨rfl, k8⟩
          go_wp2_with fail
          refine (lxFree (HB6.out.to (k7.trans k8)) e.client 0 f0 HF0.out).mono ?_
          rintro y w9 ⟨rfl, k9⟩
          go_wp2_with fail
          refine (lxGot (HB6.out.to ((k7.trans k8).trans k9)) gt HGT.out).mono ?_
          rintro y w10 ⟨rfl, k10⟩
          have cG := ((k7.trans k8).trans k9).trans k10
          have HA10 := Lib.hid (HA6.out.to cG)
          have HB10 := Lib.hid (HB6.out.to cG)
          have HBE2 := Lib.hid (HBE.out.chg cG (by simp))
          clear HA6 HB6 HBE k7 k8 k9 k10 cG x0
          obtain ⟨y0, y1, y2, y3, y4, y5, y6, y7, y8, y9, y10⟩ := ent_cells HBE2.out
          obtain ⟨S', r, hD⟩ : ∃ S' r, lDo 3 S e = (S', r) := ⟨_, _, rfl⟩
          have HDD := Lib.hid hD
          have ht8 : t ≤ 100000 := by omega
          clear hD
          go_wp2_with fail
          refine (lxDo HB10.out ht8 e HE.out S' r HDD.out).mono ?_
          rintro y v11 ⟨a1, d1, FB2, rfl, -, hB11, c11, g11⟩
          have cA : Chg [] v11 (v11.alloc (.cells #[.int .i64 r.code, .int .u64 r.paid, .int .i64 r.id, .slice a1 r.T.length d1] 46)) := (Chg.refl _ _).alloc _
          have hbR : Blk (v11.alloc (.cells #[.int .i64 r.code, .int .u64 r.paid, .int .i64 r.id, .slice a1 r.T.length d1] 46)) v11.heap.size 46 [.int .i64 r.code, .int .u64 r.paid, .int .i64 r.id, .slice a1 r.T.length d1] := Blk.new v11 _ _
          have HB12 := Lib.hid (hB11.to cA)
          have HA12 := Lib.hid ((HA10.out.aside c11 (fun z hz => ⟨fun hm => HD.out z hm hz, (HB10.out.lt z hz).1⟩)).to cA)
          have HLU := Lib.hid (And.intro HB10.out.lsu hB11.lsu)
          have hcl := ((HBE2.out.chg c11 HNB.out).chg cA (by simp))
          have HCL := Lib.hid hcl
          clear HA10 HB10 hB11 c11 g11 cA HBE2 y0 y1 y2 y3 y4 y5 y6 y7 y8 y9 y10 hcl
          go_upto_region 16 with (fail)
          generalize v11.heap.size = gR at *
          generalize v11.alloc _ = W12 at *
          have x0 := HCL.out.at (i := 0) rfl
          have z0 := hbR.at (i := 0) rfl
          obtain ⟨nx', hnx'⟩ : ∃ v, lNextV 3 S' e.client = v := ⟨_, rfl⟩
          obtain ⟨f1', hf1'⟩ : ∃ v, aFree 3 S'.xs e.client 1 = v := ⟨_, rfl⟩
          obtain ⟨f0', hf0'⟩ : ∃ v, aFree 3 S'.xs e.client 0 = v := ⟨_, rfl⟩
          obtain ⟨gt', hgt'⟩ : ∃ v, S'.got = v := ⟨_, rfl⟩
          obtain ⟨cd, hcd⟩ : ∃ v, r.code = v := ⟨_, rfl⟩
          have HTU : Hid (nx' ≠ nx ∨ f1' ≠ f1 ∨ f0' ≠ f0 ∨ gt' ≠ gt ∨ cd = 0 → stB 3 S' ≠ stB 3 S) := fun h => sta_turn HDD.out HLU.out.1 HLU.out.2 (by rw [hnx', hf1', hf0', hgt', hcd, HNX.out, HF1.out, HF0.out, HGT.out]; exact h)
          have HSA : Hid (nx' = nx → f1' = f1 → gt' = gt → cd ≠ 0 → stB 3 S' = stB 3 S) := fun h1 h2 h3 h4 => sta_same HDD.out HLU.out.1 (by rw [hcd]; exact h4) (by rw [hnx', HNX.out]; exact h1) (by rw [hf1', HF1.out]; exact h2) (by rw [hgt', HGT.out]; exact h3)
          have HNX2 := Lib.hid hnx'
          have HF12 := Lib.hid hf1'
          have HF02 := Lib.hid hf0'
          have HGT2 := Lib.hid hgt'
          rw [hcd] at z0
          clear hnx' hf1' hf0' hgt' hcd hbR
          go_cut [18] from 86 to 115 (fun v wx => ∃ b : Bool, v = .bool b ∧ Hid ((b = true → stB 3 S' ≠ stB 3 S) ∧ (b = false → stB 3 S' = stB 3 S)) ∧ Hid (Chg [] W12 wx))
          case first =>
            by_cases q1 : nx' = nx
            · have b1 : (nx' != nx) = false := by simp [q1]
              have HQ1 := Lib.hid q1
              clear q1
              by_cases q2 : f1' = f1
              · have b2 : (f1' != f1) = false := by simp [q2]
                have HQ2 := Lib.hid q2
                clear q2
                by_cases q3 : f0' = f0
                · have b3 : (f0' != f0) = false := by simp [q3]
                  have HQ3 := Lib.hid q3
                  clear q3
                  by_cases q4 : gt' = gt
                  · have b4 : (gt' != gt) = false := by simp [q4]
                    have HQ4 := Lib.hid q4
                    clear q4
                    by_cases q5 : cd = 0
                    · have b5 : (cd == 0) = true := by simp [q5]
                      have HQ := Lib.hid q5
                      clear q5
                      go_wp2_with fail
                      refine (lxNext (HB12.out.to (Chg.refl [] W12)) e.client nx' HNX2.out).mono ?_
                      rintro y k0 ⟨rfl, j0⟩
                      have x0 := (j0).cell x0 (by simp)
                      have z0 := (j0).cell z0 (by simp)
                      go_wp2_with fail
                      refine (lxFree (HB12.out.to ((Chg.refl [] W12).trans j0)) e.client 1 f1' HF12.out).mono ?_
                      rintro y k1 ⟨rfl, j1⟩
                      have x0 := (j1).cell x0 (by simp)
                      have z0 := (j1).cell z0 (by simp)
                      go_wp2_with fail
                      refine (lxFree (HB12.out.to (((Chg.refl [] W12).trans j0).trans j1)) e.client 0 f0' HF02.out).mono ?_
                      rintro y k2 ⟨rfl, j2⟩
                      have x0 := (j2).cell x0 (by simp)
                      have z0 := (j2).cell z0 (by simp)
                      go_wp2_with fail
                      refine (lxGot (HB12.out.to ((((Chg.refl [] W12).trans j0).trans j1).trans j2)) gt' HGT2.out).mono ?_
                      rintro y k3 ⟨rfl, j3⟩
                      have x0 := (j3).cell x0 (by simp)
                      have z0 := (j3).cell z0 (by simp)
                      have HF := Lib.hid (((((Chg.refl [] W12).trans j0).trans j1).trans j2).trans j3)
                      go_wp2_with fail
                      go_meet
                      exact ⟨true, rfl, ⟨fun _ => HTU.out (.inr (.inr (.inr (.inr HQ.out)))), fun h => by cases h⟩, HF⟩
                    · have b5 : (cd == 0) = false := by simp [q5]
                      have HQ := Lib.hid q5
                      clear q5
                      go_wp2_with fail
                      refine (lxNext (HB12.out.to (Chg.refl [] W12)) e.client nx' HNX2.out).mono ?_
                      rintro y k0 ⟨rfl, j0⟩
                      have x0 := (j0).cell x0 (by simp)
                      have z0 := (j0).cell z0 (by simp)
                      go_wp2_with fail
                      refine (lxFree (HB12.out.to ((Chg.refl [] W12).trans j0)) e.client 1 f1' HF12.out).mono ?_
                      rintro y k1 ⟨rfl, j1⟩
                      have x0 := (j1).cell x0 (by simp)
                      have z0 := (j1).cell z0 (by simp)
                      go_wp2_with fail
                      refine (lxFree (HB12.out.to (((Chg.refl [] W12).trans j0).trans j1)) e.client 0 f0' HF02.out).mono ?_
                      rintro y k2 ⟨rfl, j2⟩
                      have x0 := (j2).cell x0 (by simp)
                      have z0 := (j2).cell z0 (by simp)
                      go_wp2_with fail
                      refine (lxGot (HB12.out.to ((((Chg.refl [] W12).trans j0).trans j1).trans j2)) gt' HGT2.out).mono ?_
                      rintro y k3 ⟨rfl, j3⟩
                      have x0 := (j3).cell x0 (by simp)
                      have z0 := (j3).cell z0 (by simp)
                      have HF := Lib.hid (((((Chg.refl [] W12).trans j0).trans j1).trans j2).trans j3)
                      go_wp2_with fail
                      go_meet
                      exact ⟨false, rfl, ⟨fun h => (by cases h), fun _ => HSA.out HQ1.out HQ2.out HQ4.out HQ.out⟩, HF⟩
                  · have b4 : (gt' != gt) = true := by simp [q4]
                    have HQ := Lib.hid q4
                    clear q4
                    go_wp2_with fail
                    refine (lxNext (HB12.out.to (Chg.refl [] W12)) e.client nx' HNX2.out).mono ?_
                    rintro y k0 ⟨rfl, j0⟩
                    have x0 := (j0).cell x0 (by simp)
                    have z0 := (j0).cell z0 (by simp)
                    go_wp2_with fail
                    refine (lxFree (HB12.out.to ((Chg.refl [] W12).trans j0)) e.client 1 f1' HF12.out).mono ?_
                    rintro y k1 ⟨rfl, j1⟩
                    have x0 := (j1).cell x0 (by simp)
                    have z0 := (j1).cell z0 (by simp)
                    go_wp2_with fail
                    refine (lxFree (HB12.out.to (((Chg.refl [] W12).trans j0).trans j1)) e.client 0 f0' HF02.out).mono ?_
                    rintro y k2 ⟨rfl, j2⟩
                    have x0 := (j2).cell x0 (by simp)
                    have z0 := (j2).cell z0 (by simp)
                    go_wp2_with fail
                    refine (lxGot (HB12.out.to ((((Chg.refl [] W12).trans j0).trans j1).trans j2)) gt' HGT2.out).mono ?_
                    rintro y k3 ⟨rfl, j3⟩
                    have x0 := (j3).cell x0 (by simp)
                    have z0 := (j3).cell z0 (by simp)
                    have HF := Lib.hid (((((Chg.refl [] W12).trans j0).trans j1).trans j2).trans j3)
                    go_wp2_with fail
                    go_meet
                    exact ⟨true, rfl, ⟨fun _ => HTU.out (.inr (.inr (.inr (.inl HQ.out)))), fun h => by cases h⟩, HF⟩
                · have b3 : (f0' != f0) = true := by simp [q3]
                  have HQ := Lib.hid q3
                  clear q3
                  go_wp2_with fail
                  refine (lxNext (HB12.out.to (Chg.refl [] W12)) e.client nx' HNX2.out).mono ?_
                  rintro y k0 ⟨rfl, j0⟩
                  have x0 := (j0).cell x0 (by simp)
                  have z0 := (j0).cell z0 (by simp)
                  go_wp2_with fail
                  refine (lxFree (HB12.out.to ((Chg.refl [] W12).trans j0)) e.client 1 f1' HF12.out).mono ?_
                  rintro y k1 ⟨rfl, j1⟩
                  have x0 := (j1).cell x0 (by simp)
                  have z0 := (j1).cell z0 (by simp)
                  go_wp2_with fail
                  refine (lxFree (HB12.out.to (((Chg.refl [] W12).trans j0).trans j1)) e.client 0 f0' HF02.out).mono ?_
                  rintro y k2 ⟨rfl, j2⟩
                  have x0 := (j2).cell x0 (by simp)
                  have z0 := (j2).cell z0 (by simp)
                  have HF := Lib.hid ((((Chg.refl [] W12).trans j0).trans j1).trans j2)
                  go_wp2_with fail
                  go_meet
                  exact ⟨true, rfl, ⟨fun _ => HTU.out (.inr (.inr (.inl HQ.out))), fun h => by cases h⟩, HF⟩
              · have b2 : (f1' != f1) = true := by simp [q2]
                have HQ := Lib.hid q2
                clear q2
                go_wp2_with fail
                refine (lxNext (HB12.out.to (Chg.refl [] W12)) e.client nx' HNX2.out).mono ?_
                rintro y k0 ⟨rfl, j0⟩
                have x0 := (j0).cell x0 (by simp)
                have z0 := (j0).cell z0 (by simp)
                go_wp2_with fail
                refine (lxFree (HB12.out.to ((Chg.refl [] W12).trans j0)) e.client 1 f1' HF12.out).mono ?_
                rintro y k1 ⟨rfl, j1⟩
                have x0 := (j1).cell x0 (by simp)
                have z0 := (j1).cell z0 (by simp)
                have HF := Lib.hid (((Chg.refl [] W12).trans j0).trans j1)
                go_wp2_with fail
                go_meet
                exact ⟨true, rfl, ⟨fun _ => HTU.out (.inr (.inl HQ.out)), fun h => by cases h⟩, HF⟩
            · have b1 : (nx' != nx) = true := by simp [q1]
              have HQ := Lib.hid q1
              clear q1
              go_wp2_with fail
              refine (lxNext (HB12.out.to (Chg.refl [] W12)) e.client nx' HNX2.out).mono ?_
              rintro y k0 ⟨rfl, j0⟩
              have x0 := (j0).cell x0 (by simp)
              have z0 := (j0).cell z0 (by simp)
              have HF := Lib.hid ((Chg.refl [] W12).trans j0)
              go_wp2_with fail
              go_meet
              exact ⟨true, rfl, ⟨fun _ => HTU.out (.inl HQ.out), fun h => by cases h⟩, HF⟩
          case rest =>
            obtain ⟨b, rfl, HBB, HC3⟩ := hcut
            have HA14 := Lib.hid (HA12.out.to HC3.out)
            have HB14 := Lib.hid (HB12.out.to HC3.out)
            clear HA12 HB12 HC3 HTU HSA HCL HD HNB HE HDD HLU x0 z0
            cases b with
            | false =>
              have hs2 : bstr (stB 3 S') = s := by rw [HBB.out.2 rfl]; exact HSS.out
              have HS2 := Lib.hid hs2
              clear hs2 HBB
              go_upto_region 17 with (fail)
              obtain ⟨_, _, _, _, _, _, _, _, _, _, _, _, _, _, _, hpB, _⟩ := HA14.out.parts
              have h4 := hpB.at (i := 4) rfl
              have ht8 : t ≤ 100000 := by omega
              have ht7 : t + 1 ≤ 100000 := by omega
              refine states_no (by intro c a d v w h; cases d <;> exact h) HA14 HB14 h4 ht8 ht7 HSS HS2 ?_
              intro v6 c6
              intros
              go_wp2_with fail
              go_ret
              exact ⟨rfl, (HA14.out.c.trans c6).below⟩
            | true =>
              obtain ⟨s2, hs2⟩ : ∃ x, bstr (stB 3 S') = x := ⟨_, rfl⟩
              have hne : s ≠ s2 := by
                rw [← HSS.out, ← hs2]
                intro h
                exact HBB.out.1 rfl ((bstr_eq (stB_byt2 3 S) (stB_byt2 3 S')).1 h).symm
              have HS2 := Lib.hid hs2
              have HNEQ := Lib.hid hne
              clear hs2 HBB hne
              go_upto_region 17 with (fail)
              obtain ⟨_, _, _, _, _, _, _, _, _, _, _, _, _, _, _, hpB, _⟩ := HA14.out.parts
              have h4 := hpB.at (i := 4) rfl
              have ht8 : t ≤ 100000 := by omega
              have ht7 : t + 1 ≤ 100000 := by omega
              refine states_yes (by intro c a d v w h; cases d <;> exact h) HA14 HB14 h4 ht8 ht7 HSS HS2 (neq_bytes HNEQ.out) ?_
              intro v6 c6
              intros
              go_wp2_with fail
              go_ret
              exact ⟨rfl, (HA14.out.c.trans c6).below⟩
end Go.Proofs.YteabcpmpcbjicaaGreat
