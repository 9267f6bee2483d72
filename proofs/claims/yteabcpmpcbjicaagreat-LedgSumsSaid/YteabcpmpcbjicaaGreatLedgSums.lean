
import Derived.Test.YteabcpmpcbjicaaGreatSumA
import Derived.Test.YteabcpmpcbjicaaGreatShell
import Derived.BigQuiet
import Derived.Deep.QuietTactic
import Derived.Deep.RegionHeld3
namespace Go.Proofs.YteabcpmpcbjicaaGreat
set_option linter.unusedVariables false
set_option linter.unusedSimpArgs false
set_option maxRecDepth 100000
open Go Go.Proofs Go.RowKit
attribute [local go_sem ↓] Go.wp_at_zero Go.wp_at_succ

theorem cells5 {w w' : World} {g h : Nat} {a b c d f : Value} (k : Chg [] w w') (y0 : w.cell? ⟨g, 0, none⟩ = some a) (y1 : w.cell? ⟨g, 1, none⟩ = some b) (y3 : w.cell? ⟨g, 3, none⟩ = some c) (x0 : w.cell? ⟨h, 0, none⟩ = some d) (x2 : w.cell? ⟨h, 2, none⟩ = some f) : w'.cell? ⟨g, 0, none⟩ = some a ∧ w'.cell? ⟨g, 1, none⟩ = some b ∧ w'.cell? ⟨g, 3, none⟩ = some c ∧ w'.cell? ⟨h, 0, none⟩ = some d ∧ w'.cell? ⟨h, 2, none⟩ = some f := ⟨k.cell y0 (by simp), k.cell y1 (by simp), k.cell y3 (by simp), k.cell x0 (by simp), k.cell x2 (by simp)⟩
set_option maxHeartbeats 32000000 in
theorem ledgsums_walk (a0 : Option Addr) (n0 c0 : Nat) (a : Option Addr) (n cap : Nat) (z : List Int) (w : World) (hS : SRec [some .i64, some .u64, some .u64, none, some .i64, some .i64, some .i64, none, some .u64, some .u64, some .i64] w a0 n0 c0) (hn : n = z.length) (hzm : n ≤ 9223372036854775807) (hU : ∀ x ∈ z, U x) (hr0 : Row64 w a z) :
    Calls Tryz.prog 7 #[.slice a0 n0 c0, .slice a n cap] w fun e w' => e = .returned (.bool true) ∧ Below w.heap.size w w' := by
  have HRW := Lib.hid hS
  have HR := Lib.hid hr0
  have HU := Lib.hid hU
  have HNZ := Lib.hid hn
  clear hr0 hU hn hS
  go_enter Tryz.func7, Tryz.ntmps7
  go_wp2_with fail
  refine (ledNew 4 (by omega) (by omega) w).mono ?_
  rintro y w1 ⟨l, F, rfl, h1⟩
  have HX := Lib.hid h1
  have HSU0 := Lib.hid Su.start
  clear h1
  go_wp2_with fail
  go_loopw [6] (fun i wr => ∃ (j : Nat) (F : List Nat) (S : LS) (t : Nat), i = .int .i64 j ∧ j ≤ 61 ∧ t ≤ j ∧ Hid (LedX w wr l 4 F S t) ∧ Hid (Su S)) (fun i _ => 63 - (intOf i).toNat)
  case atStart => exact ⟨0, F, _, 0, rfl, by omega, by omega, HX, HSU0⟩
  case round =>
    clear HX HSU0
    obtain ⟨j, F, S, t, rfl, hj, ht, HX, HSU0⟩ := hrel
    have wj : IntKind.i64.wrap ((j : Int) + 1) = (j : Int) + 1 := by simp [IntKind.wrap, IntKind.bits, IntKind.signed]; omega
    have wj2 : IntKind.i64.wrap ((j : Int) + 2) = ((j + 2 : Nat) : Int) := by simp [IntKind.wrap, IntKind.bits, IntKind.signed]; omega
    by_cases hjn : j + 1 < n ∧ j < 60
    · obtain ⟨hj1, hj2⟩ := hjn
      have i0 : (0 : Int) ≤ (j : Int) := by omega
      have i1 : (j : Int) + 1 < (n : Int) := by omega
      have i2 : (j : Int) < (n : Int) := by omega
      have i3 : (j : Int) < 60 := by omega
      have i4 : (0 : Int) ≤ (j : Int) + 1 := by omega
      have wd : (j : Int).tdiv 2 = ((j / 2 : Nat) : Int) := by rw [Int.tdiv_eq_ediv_of_nonneg (by omega)]; rfl
      have wd2 : IntKind.i64.wrap ((j / 2 : Nat) : Int) = ((j / 2 : Nat) : Int) := IntWalk.i64_in _ (by omega)
      obtain ⟨hh, hhe⟩ : ∃ h, j / 2 = h := ⟨_, rfl⟩
      have hh60 : hh < 60 := by omega
      rw [hhe] at wd wd2
      clear hhe
      obtain ⟨b, off, ea, hcell⟩ := row_cells HR.out (k := j) (by have := HNZ.out; omega)
      obtain ⟨b', off', ea', hcell'⟩ := row_cells HR.out (k := j + 1) (by have := HNZ.out; omega)
      subst ea
      have eb : b = b' ∧ off = off' := by injection ea' with e; injection e with e1 e2 e3; exact ⟨e1, e2⟩
      obtain ⟨rfl, rfl⟩ := eb
      clear ea'
      have s1 := hcell wr HX.out.c.below
      have s2 := hcell' wr HX.out.c.below
      obtain ⟨u1, hu1⟩ : ∃ u, z.getD j 0 = u := ⟨_, rfl⟩
      obtain ⟨u2, hu2⟩ : ∃ u, z.getD (j + 1) 0 = u := ⟨_, rfl⟩
      have HU1 : Hid (U u1) := by show U u1; rw [← hu1]; exact (show U (z.getD j 0) from by
        have hjz : j < z.length := by have := HNZ.out; omega
        rw [show z.getD j 0 = z[j] by simp [List.getD, hjz]]; exact HU.out _ (List.getElem_mem hjz))
      have HU2 : Hid (U u2) := by show U u2; rw [← hu2]; exact (show U (z.getD (j + 1) 0) from by
        have hjz : j + 1 < z.length := by have := HNZ.out; omega
        rw [show z.getD (j + 1) 0 = z[j + 1] by simp [List.getD, hjz]]; exact HU.out _ (List.getElem_mem hjz))
      rw [hu1] at s1 hcell
      rw [hu2] at s2
      have lb := cell_blk3 s1
      have HCE := Lib.hid hcell
      clear hcell hcell' hu1 hu2
      go_upto_region 7 with (fail)
      refine sums_ent (by intro c a d v w h; cases d <;> exact h) HX lb s1 s2 HU1 HU2 i0 i1 i2 i4 wj ?_
      intro v1 gE e0 he hbE c1 hgE
      intros
      have HE0 := Lib.hid he
      have HX1 := Lib.hid (HX.out.to c1)
      have HNE : Hid (gE ∉ F) := fun hm => by have := (HX.out.lt _ hm).2; omega
      have HGW : Hid (w.heap.size ≤ gE) := by show _ ≤ _; have := HX.out.c.size; omega
      have s1 := HCE.out v1 (HX.out.c.trans c1).below
      clear HX s2 lb hgE c1 he
      go_upto_region 8 with (fail)
      go_cut [56] from 43 to 56 (fun v wx => (∃ b : Bool, v = .bool b ∧ (b = true → hh < n0)) ∧ v1 = wx)
      case first =>
        obtain ⟨bt, hbt, lbt⟩ : ∃ f : Nat, bits BinOp.and .u64 (u1 / 4294967296) 3 = f ∧ f < 4 := low_u64 (u1 / 4294967296) 2 (by omega)
        by_cases hraw : hh < n0
        · have d1 : decide ((hh : Int) < (n0 : Int)) = true := by simp; omega
          have d1b : decide (hh < n0) = true := by simp; omega
          go_wp2_with fail
          go_meet
          exact ⟨⟨_, rfl, fun _ => hraw⟩, rfl⟩
        · have d1 : decide ((hh : Int) < (n0 : Int)) = false := by simp; omega
          have d1b : decide (hh < n0) = false := by simp; omega
          go_wp2_with fail
          go_meet
          exact ⟨⟨_, rfl, fun h => by cases h⟩, rfl⟩
      case rest =>
        obtain ⟨⟨b1, rfl, hbr⟩, rfl⟩ := hcut
        go_upto_if 56 with (fail)
        go_cut [6] from 57 to 61 (fun v wx => v = .int .i64 j ∧ ∃ e : Ent, Hid e.Ok ∧ Hid (Blk wx gE 51 (ec e)) ∧ Hid (Chg [gE] v1 wx))
        case first =>
          cases b1 with
          | false =>
            go_wp2_with fail
            go_meet
            exact ⟨rfl, e0, HE0, hbE, Chg.refl _ _⟩
          | true =>
            have hraw := hbr rfl
            obtain ⟨br, orr, e2, er, he2, hc2⟩ := HRW.out.stepE hraw
            subst er
            have HE2 := Lib.hid he2
            obtain ⟨r0, r1, r2, r3, r4, r5, r6, r7, r8, r9, r10⟩ := hc2 v1 HX1.out.c.below
            go_upto_region 9 with (fail)
            have k1 : (0 : Int) ≤ (hh : Int) := by omega
            have k2 : (hh : Int) < (n0 : Int) := by omega
            have k3 : (hh : Int) < 60 := by omega
            have f0 := hbE.free 0
            have y0 := hbE.at (i := 0) rfl
            have f1 := hbE.free 1
            have y1 := hbE.at (i := 1) rfl
            have f2 := hbE.free 2
            have y2 := hbE.at (i := 2) rfl
            have f3 := hbE.free 3
            have y3 := hbE.at (i := 3) rfl
            have f4 := hbE.free 4
            have y4 := hbE.at (i := 4) rfl
            have f5 := hbE.free 5
            have y5 := hbE.at (i := 5) rfl
            have f6 := hbE.free 6
            have y6 := hbE.at (i := 6) rfl
            have f7 := hbE.free 7
            have y7 := hbE.at (i := 7) rfl
            have f8 := hbE.free 8
            have y8 := hbE.at (i := 8) rfl
            have f9 := hbE.free 9
            have y9 := hbE.at (i := 9) rfl
            have f10 := hbE.free 10
            have y10 := hbE.at (i := 10) rfl
            clear i0 i1 i2 i3 i4 wj wj2 HU1 HU2 HR HU HNZ HSU0 HNE HGW
            go_wp2_with fail
            go_meet
            exact ⟨rfl, e2, HE2, (((((((((((hbE.set 0 (.int .i64 e2.client)).set 1 (.int .u64 e2.nonce)).set 2 (.int .u64 e2.fee)).set 3 (.bool e2.good)).set 4 (.int .i64 e2.tx.kind)).set 5 (.int .i64 e2.tx.asset)).set 6 (.int .i64 e2.tx.dst)).set 7 (.bool e2.tx.buy)).set 8 (.int .u64 e2.tx.price)).set 9 (.int .u64 e2.tx.qty)).set 10 (.int .i64 e2.tx.id)), ((((((((((((Chg.refl [gE] v1).setCell ⟨gE, 0, none⟩ (.int .i64 e2.client) (.inl (by simp))).setCell ⟨gE, 1, none⟩ (.int .u64 e2.nonce) (.inl (by simp))).setCell ⟨gE, 2, none⟩ (.int .u64 e2.fee) (.inl (by simp))).setCell ⟨gE, 3, none⟩ (.bool e2.good) (.inl (by simp))).setCell ⟨gE, 4, none⟩ (.int .i64 e2.tx.kind) (.inl (by simp))).setCell ⟨gE, 5, none⟩ (.int .i64 e2.tx.asset) (.inl (by simp))).setCell ⟨gE, 6, none⟩ (.int .i64 e2.tx.dst) (.inl (by simp))).setCell ⟨gE, 7, none⟩ (.bool e2.tx.buy) (.inl (by simp))).setCell ⟨gE, 8, none⟩ (.int .u64 e2.tx.price) (.inl (by simp))).setCell ⟨gE, 9, none⟩ (.int .u64 e2.tx.qty) (.inl (by simp))).setCell ⟨gE, 10, none⟩ (.int .i64 e2.tx.id) (.inl (by simp)))⟩
        case rest =>
          obtain ⟨rfl, e, HE, HBE, HCC⟩ := hcut
          have HX2 := Lib.hid (HX1.out.aside HCC.out (fun z hz => by simp at hz; subst hz; exact ⟨HNE.out, HGW.out⟩))
          clear HX1 HCC hbE HE0 s1 HCE HRW
          have ht8 : t ≤ 100000 := by omega
          obtain ⟨fr, hfr⟩ : ∃ v, aFree 4 S.xs e.client 1 = v := ⟨_, rfl⟩
          obtain ⟨lk, hlk⟩ : ∃ v, lkd e.client 1 S.L + lkd e.client 1 S.M = v := ⟨_, rfl⟩
          obtain ⟨nL0, hlL⟩ : ∃ v, S.L.length = v := ⟨_, rfl⟩
          obtain ⟨nM0, hlM⟩ : ∃ v, S.M.length = v := ⟨_, rfl⟩
          have hlen := (HSU0.out.k.ok).len
          have hkt : S.k ≤ t := by
            obtain ⟨_, _, _, _, _, _, h, _⟩ := HX2.out.partz
            exact h
          have hzL : S.L.length < 1000000000000 := by omega
          have hzM : S.M.length < 1000000000000 := by omega
          have wsum : IntKind.i64.wrap ((nL0 : Int) + (nM0 : Int)) = (nL0 : Int) + (nM0 : Int) := by simp [IntKind.wrap, IntKind.bits, IntKind.signed]; omega
          have HFR := Lib.hid hfr
          have HLK := Lib.hid hlk
          have HLL := Lib.hid (And.intro hlL hlM)
          clear hfr hlk hlen hkt
          have x0 : wc.drew.cell? ⟨gE, 0, none⟩ = some (.int .i64 e.client) := HBE.out.at (i := 0) rfl
          have hXd := HX2.out.to ((Chg.refl [] wc).drew)
          have HBd : Hid (Blk wc.drew gE 51 (ec e)) := HBE.out
          go_upto_region 10 with (fail)
          go_region_held3 (fun w' => w'.cell? ⟨gE, 0, none⟩ = some (.int .i64 e.client)) (first | go_keep | exact q1 | exact q2 | exact q3 | exact q4 | exact q5 | exact q6)
            (first
                    | ((go_at_call 37; (with_reducible refine (lxFree hXd e.client 1 fr HFR.out).mono ?_); rintro y w1 ⟨rfl, k1⟩; have l1 := hXd.to k1; have q1 := k1.cell x0 (by simp)))
                    | ((go_at_call 38; (with_reducible refine (lxLocked l1 ht8 e.client 1 lk HLK.out).mono ?_); rintro y w2 ⟨rfl, k2⟩; have l2 := l1.to k2; have q2 := (k1.trans k2).cell x0 (by simp)))
                    | ((go_at_call 39; (with_reducible refine (lxBook l2).mono ?_); rintro y w3 ⟨kb3, FB3, rfl, k3, b3, -⟩; have l3 := l2.to k3; have q3 := ((k1.trans k2).trans k3).cell x0 (by simp)))
                    | ((go_at_call 40; (with_reducible refine (bBids b3.bk hzL).mono ?_); rintro y w4 ⟨v4, rfl, hO4, k4⟩; obtain ⟨a4, d4, e4, -⟩ := hO4.osn; rw [hlL] at e4; subst e4; have l4 := l3.to k4; have q4 := (((k1.trans k2).trans k3).trans k4).cell x0 (by simp)))
                    | ((go_at_call 39; (with_reducible refine (lxBook l4).mono ?_); rintro y w5 ⟨kb5, FB5, rfl, k5, b5, -⟩; have l5 := l4.to k5; have q5 := ((((k1.trans k2).trans k3).trans k4).trans k5).cell x0 (by simp)))
                    | ((go_at_call 41; (with_reducible refine (bAsks b5.bk hzM).mono ?_); rintro y w6 ⟨v6, rfl, hO6, k6⟩; obtain ⟨a6, d6, e6, -⟩ := hO6.osn; rw [hlM] at e6; subst e6; have l6 := l5.to k6; have q6 := (((((k1.trans k2).trans k3).trans k4).trans k5).trans k6).cell x0 (by simp))))
          all_goals
            have HX3 := Lib.hid l6
            have HBE3 := Lib.hid (HBd.out.chg (((((k1.trans k2).trans k3).trans k4).trans k5).trans k6) (by simp))
            clear l1 l2 l3 l4 l5 l6 b3 b5 hO4 hO6 k1 k2 k3 k4 k5 k6 q1 q2 q3 q4 q5 q6 hXd HBd HBE HX2 x0 hlL hlM hzL hzM
            obtain ⟨y0, y1, y2, y3, y4, y5, y6, y7, y8, y9, y10⟩ := ent_cells3 HBE3.out
            obtain ⟨S', r, hD⟩ : ∃ S' r, lDo 4 S e = (S', r) := ⟨_, _, rfl⟩
            have HDD := Lib.hid hD
            clear hD
            go_wp2_with fail
            refine (lxDo HX3.out ht8 e HE.out S' r HDD.out).mono ?_
            rintro y v11 ⟨a1, d1, F2, rfl, -, hX11, c11, g11⟩
            have cA : Chg [] v11 (v11.alloc (.cells #[.int .i64 r.code, .int .u64 r.paid, .int .i64 r.id, .slice a1 r.T.length d1] 46)) := (Chg.refl _ _).alloc _
            have hbR : Blk (v11.alloc (.cells #[.int .i64 r.code, .int .u64 r.paid, .int .i64 r.id, .slice a1 r.T.length d1] 46)) v11.heap.size 46 [.int .i64 r.code, .int .u64 r.paid, .int .i64 r.id, .slice a1 r.T.length d1] := Blk.new v11 _ _
            have HX12 := Lib.hid (hX11.to cA)
            have HBE12 := Lib.hid ((HBE3.out.chg c11 HNE.out).chg cA (by simp))
            have hst := Su.step HX3.out HSU0.out HE.out HDD.out
            have HST := Lib.hid hst
            clear HX3 hX11 c11 g11 cA HBE3 y0 y1 y2 y3 y4 y5 y6 y7 y8 y9 y10 hst HNE
            go_upto_region 12 with (fail)
            generalize v11.heap.size = gR at *
            generalize v11.alloc _ = W12 at *
            have y0 := hbR.at (i := 0) rfl
            have y1 := hbR.at (i := 1) rfl
            have y3 := hbR.at (i := 3) rfl
            have x0 := HBE12.out.at (i := 0) rfl
            have x2 := HBE12.out.at (i := 2) rfl
            obtain ⟨hSU, hp0, hp1, hbad⟩ := HST.out
            have dp : decide (r.paid > e.fee) = false := by simp; omega
            have dp2 : decide (e.fee < r.paid) = false := by simp; omega
            have HSU := Lib.hid hSU
            have HBAD := Lib.hid hbad
            have HP0 := Lib.hid (And.intro hp0 hp1)
            clear hSU hbad hp0 hp1 HST
            go_cut [129] from 82 to 129 (fun v wx => v = .bool false ∧ Hid (Chg [] W12 wx))
            case first =>
              by_cases hcode : r.code = 0
              · have b1 : (r.code != 0) = false := by rw [hcode]; rfl
                clear hcode
                go_quiet (fail)
                have HQ := Lib.hid ((Chg.refl [] W12).drewN nq)
                clear y0 y1 y3 x0 x2
                generalize W12.drewN nq = wq at *
                go_wp2_with fail
                go_meet
                exact ⟨rfl, HQ⟩
              · have b1 : (r.code != 0) = true := by simp [hcode]
                obtain ⟨hb1, hb2, hb3, hb4⟩ := HBAD.out hcode
                have hfrU : U fr := by rw [← HFR.out]; exact aFree_U HSU0.out.k.g.a _ _
                have hfrV : U (aFree 4 S'.xs e.client 1) := aFree_U HSU.out.k.g.a _ _
                obtain ⟨fr2, hfr2⟩ : ∃ v, aFree 4 S'.xs e.client 1 = v := ⟨_, rfl⟩
                rw [hfr2, HFR.out] at hb1
                rw [hfr2] at hfrV
                have wsub : IntKind.u64.wrap (fr - r.paid) = fr2 := by
                  rw [← hb1]
                  obtain ⟨h1, h2⟩ := hfrV
                  simp [IntKind.wrap, IntKind.bits, IntKind.signed]; omega
                have HFR2 := Lib.hid hfr2
                have HLK2 : Hid (lkd e.client 1 S'.L + lkd e.client 1 S'.M = lk) := by show _ = _; rw [hb2, hb3]; exact HLK.out
                have hlL : S'.L.length = nL0 := by rw [hb2]; exact HLL.out.1
                have hlM : S'.M.length = nM0 := by rw [hb3]; exact HLL.out.2
                rw [hb4] at y3
                have y3 : W12.cell? ⟨gR, 3, none⟩ = some (.slice a1 0 d1) := y3
                have hzz : S'.L.length + S'.M.length ≤ 200000 := by
                  obtain ⟨_, _, _, _, _, _, h, h2, _⟩ := HX12.out.partz
                  omega
                have hzL : S'.L.length < 1000000000000 := by omega
                have hzM : S'.M.length < 1000000000000 := by omega
                have y0d : W12.drew.cell? ⟨gR, 0, none⟩ = some (.int .i64 r.code) := y0
                have y1d : W12.drew.cell? ⟨gR, 1, none⟩ = some (.int .u64 r.paid) := y1
                have y3d : W12.drew.cell? ⟨gR, 3, none⟩ = some (.slice a1 0 d1) := y3
                have x0d : W12.drew.cell? ⟨gE, 0, none⟩ = some (.int .i64 e.client) := x0
                have x2d : W12.drew.cell? ⟨gE, 2, none⟩ = some (.int .u64 e.fee) := x2
                have hXd := HX12.out.to ((Chg.refl [] W12).drew)
                have ht8 : t + 1 ≤ 100000 := by omega
                have q0 := And.intro y0d (And.intro y1d (And.intro y3d (And.intro x0d x2d)))
                clear hb1 hb2 hb3 hb4 hfrU hfrV hfr2 hcode hzz y0 y1 y3 x0 x2 hbR
                go_region_held3 (fun w' => w'.cell? ⟨gR, 0, none⟩ = some (.int .i64 r.code) ∧ w'.cell? ⟨gR, 1, none⟩ = some (.int .u64 r.paid) ∧ w'.cell? ⟨gR, 3, none⟩ = some (.slice a1 0 d1) ∧ w'.cell? ⟨gE, 0, none⟩ = some (.int .i64 e.client) ∧ w'.cell? ⟨gE, 2, none⟩ = some (.int .u64 e.fee)) (first | go_keep | exact q0 | exact q1 | exact q2 | exact q3 | exact q4 | exact q5 | exact q6)
                  (first
                    | ((go_at_call 37; (with_reducible refine (lxFree hXd e.client 1 fr2 HFR2.out).mono ?_); rintro y w1 ⟨rfl, k1⟩; have l1 := hXd.to k1; have q1 := cells5 k1 y0d y1d y3d x0d x2d))
                    | ((go_at_call 38; (with_reducible refine (lxLocked l1 ht8 e.client 1 lk HLK2.out).mono ?_); rintro y w2 ⟨rfl, k2⟩; have l2 := l1.to k2; have q2 := cells5 (k1.trans k2) y0d y1d y3d x0d x2d))
                    | ((go_at_call 39; (with_reducible refine (lxBook l2).mono ?_); rintro y w3 ⟨kb3, FB3, rfl, k3, b3, -⟩; have l3 := l2.to k3; have q3 := cells5 ((k1.trans k2).trans k3) y0d y1d y3d x0d x2d))
                    | ((go_at_call 40; (with_reducible refine (bBids b3.bk hzL).mono ?_); rintro y w4 ⟨v4, rfl, hO4, k4⟩; obtain ⟨a4, d4, e4, -⟩ := hO4.osn; rw [hlL] at e4; subst e4; have l4 := l3.to k4; have q4 := cells5 (((k1.trans k2).trans k3).trans k4) y0d y1d y3d x0d x2d))
                    | ((go_at_call 39; (with_reducible refine (lxBook l4).mono ?_); rintro y w5 ⟨kb5, FB5, rfl, k5, b5, -⟩; have l5 := l4.to k5; have q5 := cells5 ((((k1.trans k2).trans k3).trans k4).trans k5) y0d y1d y3d x0d x2d))
                    | ((go_at_call 41; (with_reducible refine (bAsks b5.bk hzM).mono ?_); rintro y w6 ⟨v6, rfl, hO6, k6⟩; obtain ⟨a6, d6, e6, -⟩ := hO6.osn; rw [hlM] at e6; subst e6; have l6 := l5.to k6; have q6 := cells5 (((((k1.trans k2).trans k3).trans k4).trans k5).trans k6) y0d y1d y3d x0d x2d)))
                all_goals
                  have HQ : Hid (Chg [] W12 w6) := ((Chg.refl [] W12).drew).trans (((((k1.trans k2).trans k3).trans k4).trans k5).trans k6)
                  go_wp2_with fail
                  go_meet
                  exact ⟨rfl, HQ⟩
            case rest =>
              obtain ⟨rfl, HCO⟩ := hcut
              have HL := Lib.hid (HX12.out.to HCO.out)
              obtain ⟨gv0, gv1⟩ := HSU.out.given
              obtain ⟨G0, hG0⟩ : ∃ G, S'.g0 - S'.b0 = G := ⟨_, rfl⟩
              obtain ⟨G1, hG1⟩ : ∃ G, S'.g1 - S'.b1 = G := ⟨_, rfl⟩
              have gs0 := HSU.out.k.g.s0
              have gs1 := HSU.out.k.g.s1
              have gb0 := HSU.out.k.b0
              have gb1 := HSU.out.k.b1
              have gg := HSU.out.k.got
              have hc1 := col_pos HSU.out.k 1 rfl
              have hl1 := lks_pos HSU.out.k 1
              rw [hG0] at gv0 gs0
              rw [hG1] at gv1 gs1
              rw [Int.sub_zero] at gs1
              have HGM : Hid (G0 ≤ 4611686018427387904 ∧ G1 ≤ 4611686018427387904 ∧ 0 ≤ S'.got ∧ S'.got ≤ G1) := ⟨by omega, by omega, gg, by omega⟩
              have HGV0 := Lib.hid gv0
              have HGV1 := Lib.hid gv1
              have HFO0 := Lib.hid (gsum_four (.inl rfl) gs0 HSU.out.k.ok)
              have HFO1 := Lib.hid (gsum_four (.inr rfl) gs1 HSU.out.k.ok)
              have HSM0 := Lib.hid (gsum_in (.inl rfl) HSU.out.k.g.a gs0 HSU.out.k.ok)
              have HSM1 := Lib.hid (gsum_in (.inr rfl) HSU.out.k.g.a gs1 HSU.out.k.ok)
              have hzz : S'.L.length + S'.M.length ≤ 200000 := by
                obtain ⟨_, _, _, _, _, _, h, h2, _⟩ := HL.out.partz
                omega
              have hzL2 : S'.L.length < 1000000000000 := by omega
              have hzM2 : S'.M.length < 1000000000000 := by omega
              have HPD : True := trivial
              clear hG0 hG1 gs0 gs1 gb0 gb1 gg gv0 gv1 hzz hc1 hl1 HX12 HBE12 HDD HE HBAD HP0 y0 y1 y3 x0 x2 dp dp2 hbR HFR HLK HLL wsum
              clear HCO HPD
              go_wp2_with fail
              go_loopw [12] (fun i wr => ∃ (kk : Nat), kk ≤ 2 ∧ (i = .int .i64 0 ∧ kk = 0 ∨ i = .int .i64 1 ∧ kk = 1 ∨ i = .int .i64 2 ∧ kk = 2) ∧ Hid (Chg [] wc wr)) (fun i _ => 2 - (intOf i).toNat)
              case atStart => exact ⟨0, by omega, .inl ⟨rfl, rfl⟩, Chg.refl _ _⟩
              case round =>
                obtain ⟨kk, -, hkk, HC⟩ := hrel
                rcases hkk with ⟨rfl, -⟩ | ⟨rfl, -⟩ | ⟨rfl, -⟩
                · go_wp2_with fail
                  go_loopw [13, 14] (fun vs vc wr => ∃ (c : Nat), c ≤ 4 ∧ vc = .int .i64 c ∧ vs = .int .u64 (psum 0 S'.xs S'.L S'.M c) ∧ Hid (Chg [] wc wr)) (fun _ i _ => 4 - (intOf i).toNat)
                  case atStart => exact ⟨0, by omega, rfl, rfl, HC⟩
                  case round =>
                    clear HC
                    obtain ⟨c, hc, rfl, rfl, HC⟩ := hrel
                    by_cases hc4 : c < 4
                    · have c3 : (c : Int) < 4 := by omega
                      obtain ⟨g1, g2, g3, g4⟩ := HSM0.out c hc4
                      have hps : psum 0 S'.xs S'.L S'.M (c + 1) = psum 0 S'.xs S'.L S'.M c + aFree 4 S'.xs (c : Int) 0 + (lkd (c : Int) 0 S'.L + lkd (c : Int) 0 S'.M) := rfl
                      have HPS := Lib.hid hps
                      clear hps
                      generalize psum 0 S'.xs S'.L S'.M c = ps at *
                      obtain ⟨fr, hfr⟩ : ∃ v, aFree 4 S'.xs (c : Int) 0 = v := ⟨_, rfl⟩
                      obtain ⟨lk, hlk⟩ : ∃ v, lkd (c : Int) 0 S'.L + lkd (c : Int) 0 S'.M = v := ⟨_, rfl⟩
                      rw [hfr] at g2 g4
                      rw [hlk] at g3 g4
                      have hgm := HGM.out
                      have wq1 : IntKind.u64.wrap (ps + fr) = ps + fr := by simp [IntKind.wrap, IntKind.bits, IntKind.signed]; omega
                      have wq2 : IntKind.u64.wrap (ps + fr + lk) = ps + fr + lk := by simp [IntKind.wrap, IntKind.bits, IntKind.signed]; omega
                      have HFR := Lib.hid hfr
                      have HLK := Lib.hid hlk
                      clear hfr hlk g1 g2 g3 g4 hgm
                      go_wp2_with fail
                      refine (lxFree (HL.out.to HC.out) (c : Int) 0 fr HFR.out).mono ?_
                      rintro y w7 ⟨rfl, k7⟩
                      go_wp2_with fail
                      refine (lxLocked ((HL.out.to HC.out).to k7) (by omega) (c : Int) 0 lk HLK.out).mono ?_
                      rintro y w8 ⟨rfl, k8⟩
                      have HC2 := Lib.hid ((HC.out.trans k7).trans k8)
                      clear HC k7 k8
                      go_wp2_with fail
                      go_roundw
                      case rel => exact ⟨c + 1, by omega, by go_num, by rw [HPS.out, HFR.out, HLK.out], HC2⟩
                      case measure => simp [intOf]; omega
                    have hc5 : 4 = c := by omega
                    subst hc5
                    rw [HFO0.out]
                    have HC3 := HC
                    clear hc4 hc HC
                    have hgm := HGM.out
                    clear hgm
                    go_wp2_with fail
                    refine (lxGiven (HL.out.to HC3.out) 0 G0 HGV0.out).mono ?_
                    rintro y w9 ⟨rfl, k9⟩
                    have HC4 := Lib.hid (HC3.out.trans k9)
                    clear HC3 k9
                    go_wp2_with fail
                    go_roundw
                    case rel => exact ⟨1, by omega, .inr (.inl ⟨rfl, rfl⟩), HC4⟩
                    case measure => simp [intOf]
                · go_wp2_with fail
                  go_loopw [13, 14] (fun vs vc wr => ∃ (c : Nat), c ≤ 4 ∧ vc = .int .i64 c ∧ vs = .int .u64 (psum 1 S'.xs S'.L S'.M c) ∧ Hid (Chg [] wc wr)) (fun _ i _ => 4 - (intOf i).toNat)
                  case atStart => exact ⟨0, by omega, rfl, rfl, HC⟩
                  case round =>
                    clear HC
                    obtain ⟨c, hc, rfl, rfl, HC⟩ := hrel
                    by_cases hc4 : c < 4
                    · have c3 : (c : Int) < 4 := by omega
                      obtain ⟨g1, g2, g3, g4⟩ := HSM1.out c hc4
                      have hps : psum 1 S'.xs S'.L S'.M (c + 1) = psum 1 S'.xs S'.L S'.M c + aFree 4 S'.xs (c : Int) 1 + (lkd (c : Int) 1 S'.L + lkd (c : Int) 1 S'.M) := rfl
                      have HPS := Lib.hid hps
                      clear hps
                      generalize psum 1 S'.xs S'.L S'.M c = ps at *
                      obtain ⟨fr, hfr⟩ : ∃ v, aFree 4 S'.xs (c : Int) 1 = v := ⟨_, rfl⟩
                      obtain ⟨lk, hlk⟩ : ∃ v, lkd (c : Int) 1 S'.L + lkd (c : Int) 1 S'.M = v := ⟨_, rfl⟩
                      rw [hfr] at g2 g4
                      rw [hlk] at g3 g4
                      have hgm := HGM.out
                      have wq1 : IntKind.u64.wrap (ps + fr) = ps + fr := by simp [IntKind.wrap, IntKind.bits, IntKind.signed]; omega
                      have wq2 : IntKind.u64.wrap (ps + fr + lk) = ps + fr + lk := by simp [IntKind.wrap, IntKind.bits, IntKind.signed]; omega
                      have HFR := Lib.hid hfr
                      have HLK := Lib.hid hlk
                      clear hfr hlk g1 g2 g3 g4 hgm
                      go_wp2_with fail
                      refine (lxFree (HL.out.to HC.out) (c : Int) 1 fr HFR.out).mono ?_
                      rintro y w7 ⟨rfl, k7⟩
                      go_wp2_with fail
                      refine (lxLocked ((HL.out.to HC.out).to k7) (by omega) (c : Int) 1 lk HLK.out).mono ?_
                      rintro y w8 ⟨rfl, k8⟩
                      have HC2 := Lib.hid ((HC.out.trans k7).trans k8)
                      clear HC k7 k8
                      go_wp2_with fail
                      go_roundw
                      case rel => exact ⟨c + 1, by omega, by go_num, by rw [HPS.out, HFR.out, HLK.out], HC2⟩
                      case measure => simp [intOf]; omega
                    have hc5 : 4 = c := by omega
                    subst hc5
                    rw [HFO1.out]
                    have HC3 := HC
                    clear hc4 hc HC
                    have hgm := HGM.out
                    have wq : IntKind.u64.wrap (G1 - S'.got + S'.got) = G1 := by simp [IntKind.wrap, IntKind.bits, IntKind.signed]; omega
                    have wq2 : IntKind.u64.wrap G1 = G1 := by simp [IntKind.wrap, IntKind.bits, IntKind.signed]; omega
                    clear hgm
                    go_wp2_with fail
                    refine (lxGot (HL.out.to HC3.out) _ rfl).mono ?_
                    rintro y w10 ⟨rfl, k10⟩
                    replace HC3 := Lib.hid (HC3.out.trans k10)
                    clear k10
                    go_wp2_with fail
                    refine (lxGiven (HL.out.to HC3.out) 1 G1 HGV1.out).mono ?_
                    rintro y w9 ⟨rfl, k9⟩
                    have HC4 := Lib.hid (HC3.out.trans k9)
                    clear HC3 k9
                    go_wp2_with fail
                    go_roundw
                    case rel => exact ⟨2, by omega, .inr (.inr ⟨rfl, rfl⟩), HC4⟩
                    case measure => simp [intOf]
                · have HL2 := Lib.hid (HL.out.to HC.out)
                  clear HL HC
                  go_wp2_with fail
                  refine (lxBook HL2.out).mono ?_
                  rintro y w3 ⟨kb3, FB3, rfl, k3, b3, -⟩
                  go_wp2_with fail
                  refine (bBids b3.bk hzL2).mono ?_
                  rintro y w4 ⟨v4, rfl, hO4, k4⟩
                  obtain ⟨a4, d4, rfl, hX4⟩ := hO4.osn
                  have HL4 := Lib.hid ((HL2.out.to k3).to k4)
                  clear HL2 k3 b3 hO4
                  go_wp2_with fail
                  refine (lxBook HL4.out).mono ?_
                  rintro y w5 ⟨kb5, FB5, rfl, k5, b5, -⟩
                  go_wp2_with fail
                  refine (bAsks b5.bk hzM2).mono ?_
                  rintro y w6 ⟨v6, rfl, hO6, k6⟩
                  obtain ⟨a6, d6, rfl, hY6⟩ := hO6.osn
                  have HL6 := Lib.hid ((HL4.out.to k5).to k6)
                  have hX6 := (hX4.chg0 k5).chg0 k6
                  clear HL4 k5 k6 b5 hO6 hX4 k4
                  obtain ⟨nL, hnL⟩ : ∃ m, S'.L.length = m := ⟨_, rfl⟩
                  obtain ⟨nM, hnM⟩ : ∃ m, S'.M.length = m := ⟨_, rfl⟩
                  rw [hnL, hnM]
                  have HNL := Lib.hid hnL
                  have HNM := Lib.hid hnM
                  clear hnL hnM hzL2 hzM2
                  go_upto_region 27 with (fail)
                  rcases Nat.eq_zero_or_pos nM with h9 | h9
                  · subst h9
                    go_quiet (fail)
                    have HL7 := Lib.hid (HL6.out.to ((Chg.refl [] w6).drewN nq))
                    clear HL6 hX6 hY6
                    go_wp2_with fail
                    go_roundw
                    case rel => exact ⟨j + 2, F2, S', t + 1, by go_num, by omega, by omega, HL7, HSU⟩
                    case measure => simp [intOf]; omega
                  · have e2 : decide (0 < nM) = true := by simp; omega
                    have e2' : decide ((0 : Int) < (nM : Int)) = true := by simp; omega
                    rcases Nat.eq_zero_or_pos nL with h0 | h0
                    · subst h0
                      go_quiet (fail)
                      have HL7 := Lib.hid (HL6.out.to ((Chg.refl [] w6).drewN nq))
                      clear HL6 hX6 hY6
                      go_wp2_with fail
                      go_roundw
                      case rel => exact ⟨j + 2, F2, S', t + 1, by go_num, by omega, by omega, HL7, HSU⟩
                      case measure => simp [intOf]; omega
                    · have e1 : decide (0 < nL) = true := by simp; omega
                      have e1' : decide ((0 : Int) < (nL : Int)) = true := by simp; omega
                      have l1 : 0 < S'.L.length := by rw [HNL.out]; exact h0
                      have l2 : 0 < S'.M.length := by rw [HNM.out]; exact h9
                      obtain ⟨ga, rfl, _, xa⟩ := hX6.cells l1
                      obtain ⟨gb, rfl, _, xb⟩ := hY6.cells l2
                      have hun := HSU.out.k.un _ (getD_mem l1) _ (getD_mem l2)
                      generalize S'.L.getD 0 Ord.zero = ua at *
                      generalize S'.M.getD 0 Ord.zero = ub at *
                      have x3 := xa.c3
                      have x4 := xb.c3
                      simp only [Nat.zero_mul, Nat.zero_add] at x3 x4
                      have i8 : (0 : Int) < (nL : Int) := by omega
                      have i9 : (0 : Int) < (nM : Int) := by omega
                      have hd3 : decide (ub.price ≤ ua.price) = false := by simp; omega
                      clear xa xb hX6 hY6 l1 l2
                      go_quiet (fail)
                      have HL7 := Lib.hid (HL6.out.to ((Chg.refl [] w6).drewN nq))
                      clear HL6 x3 x4
                      go_wp2_with fail
                      go_roundw
                      case rel => exact ⟨j + 2, F2, S', t + 1, by go_num, by omega, by omega, HL7, HSU⟩
                      case measure => simp [intOf]; omega
    · have hex : ¬ (j + 1 < n ∧ j < 60) := hjn
      go_upto_region 5 with (fail)
      go_cut [28] from 20 to 28 (fun v wx => v = .bool false ∧ wr = wx)
      case first =>
        rcases Nat.lt_or_ge (j + 1) n with hh | hh
        · have h6 : ¬ j < 60 := fun h7 => hex ⟨hh, h7⟩
          have d6 : decide ((j : Int) < 60) = false := by simp; omega
          have d7 : decide ((j : Int) + 1 < (n : Int)) = true := by simp; omega
          go_wp2_with fail
          go_meet
          exact ⟨rfl, rfl⟩
        · have d7 : decide ((j : Int) + 1 < (n : Int)) = false := by simp; omega
          go_wp2_with fail
          go_meet
          exact ⟨rfl, rfl⟩
      case rest =>
        obtain ⟨rfl, rfl⟩ := hcut
        clear hex hjn wj wj2
        go_wp2_with fail
        refine (awake12 _).mono ?_
        rintro y v6 ⟨rfl, c6⟩
        go_wp2_with fail
        go_ret
        exact ⟨rfl, (HX.out.c.trans c6).below⟩
end Go.Proofs.YteabcpmpcbjicaaGreat
