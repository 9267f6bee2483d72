
import Derived.Test.YteabcpmpcbjicaaAwake14
import Derived.Test.YteabcpmpcbjicaaRow4
import Derived.Test.YteabcpmpcbjicaaPoolDrops
import Derived.Deep.RegionHeld3
namespace Go.Proofs.Yteabcpmpcbjicaa
set_option linter.unusedVariables false
set_option maxRecDepth 100000
open Go Go.Proofs Go.RowKit Go.Maps
attribute [local go_sem ↓] Go.wp_at_zero Go.wp_at_succ

/-- A step's three numbers that are read, in this and later worlds. -/
structure Step14 (w : World) (b o : Nat) (cl p q : Int) : Prop where
  c : ∀ wr, Below w.heap.size w wr → wr.cell? ⟨b, o + 1, none⟩ = some (.int .i64 cl) ∧ wr.cell? ⟨b, o + 2, none⟩ = some (.int .u64 p) ∧ wr.cell? ⟨b, o + 3, none⟩ = some (.int .u64 q)
theorem SRec.step14 {w : World} {a : Option Addr} {len cap : Nat} (h : SRec [some .i64, some .i64, some .u64, some .u64] w a len cap) {i : Nat} (hi : i < len) :
    ∃ b off cl p q, a = some ⟨b, off, none⟩ ∧ Step14 w b (off + i * 4) cl p q := by
  obtain ⟨b, off, ha, hc⟩ := h.at hi
  obtain ⟨v1, c1, f1⟩ := hc 1 _ rfl
  obtain ⟨v2, c2, f2⟩ := hc 2 _ rfl
  obtain ⟨v3, c3, f3⟩ := hc 3 _ rfl
  obtain ⟨x1, rfl, h1⟩ := fits_i64 f1
  obtain ⟨x2, rfl, h2⟩ := fits_u64 f2
  obtain ⟨x3, rfl, h3⟩ := fits_u64 f3
  exact ⟨b, off, x1, x2, x3, ha, ⟨fun wr hb => ⟨below_cell hb c1, below_cell hb c2, below_cell hb c3⟩⟩⟩
theorem WldX.lenL {w wr : World} {g : Nat} {F : List Nat} {W : WS} {t : Nat} (h : WldX w wr g F W t) : W.L.length ≤ t := by
  obtain ⟨tb, tm, sb, sm, vb, Ft, Fs, Fv, h, rfl⟩ := h
  exact h.bd.2.1
/-- What waits: pairs of a client and a nonce once each, all known. -/
structure PoK (W : WS) (L : List Env) : Prop where
  pw : Ppw L
  len : L.length ≤ 12
  ok : ∀ x ∈ L, x.Ok
  kn : ∀ x ∈ L, Known W x
theorem PoK.add {W : WS} {L : List Env} (h : PoK W L) {e : Env} (he : e.Ok) (s : Nat) {r : Int × List Env} (hr : pAddV 4 (LS1 4) 12 L true e = r) : PoK (mkW W e s) r.2 := by
  obtain ⟨h1, h2⟩ := h.pw.add hr
  have h3 := pAdd_len (by have := h.len; omega) hr
  refine ⟨h1, by have := h3.1; omega, fun x hx => ?_, fun x hx => ?_⟩
  · rcases h2 x hx with q | q
    · exact h.ok x q
    · rw [q]; exact he
  · rcases h2 x hx with q | q
    · exact (h.kn x q).make _ _
    · rw [q]; exact Known.new _ _ _
/-- Of those that are chosen: each is there once, and none is skipped. -/
theorem bat_at {L : List Env} {b : Nat → Bool} {f i : Nat} (h : Ppw L) (hi : i < (bat f (rsB L b L.length)).length) : ∃ j, j < L.length ∧ b j = false ∧ L.getD j Env.zero = (bat f (rsB L b L.length)).getD i Env.zero ∧ ∀ k, k < L.length → L.getD k Env.zero = (bat f (rsB L b L.length)).getD i Env.zero → k = j := by
  have hm := bat_sub _ _ _ (getD_memE hi)
  obtain ⟨j, hj, hb, he⟩ := rsB_mem hm
  exact ⟨j, hj, hb, he, fun k hk hke => getD_inj h.nodup hk hj (hke.trans he.symm)⟩
theorem bat_up {L : List Env} {b : Nat → Bool} {f i k : Nat} (h : Ppw L) (hi : i < (bat f (rsB L b L.length)).length) (hk : k < i) (hc : ((bat f (rsB L b L.length)).getD k Env.zero).client = ((bat f (rsB L b L.length)).getD i Env.zero).client) : ((bat f (rsB L b L.length)).getD k Env.zero).nonce < ((bat f (rsB L b L.length)).getD i Env.zero).nonce := by
  have hp := bat_rise f (rsB L b L.length) (h.sub rsB_sub)
  rw [List.pairwise_iff_getElem] at hp
  have hk2 : k < (bat f (rsB L b L.length)).length := by omega
  have e1 : (bat f (rsB L b L.length)).getD k Env.zero = (bat f (rsB L b L.length))[k] := by simp [List.getD, hk2]
  have e2 : (bat f (rsB L b L.length)).getD i Env.zero = (bat f (rsB L b L.length))[i] := by simp [List.getD, hi]
  rw [e1, e2] at hc ⊢
  exact hp k i hk2 hi hk hc
set_option maxHeartbeats 16000000 in
theorem poolbatch_walk (a0 : Option Addr) (n0 cap0 : Nat) (n skip : Int) (w : World) (hS : SRec [some .i64, some .i64, some .u64, some .u64] w a0 n0 cap0) :
    Calls Try.prog 5 #[.slice a0 n0 cap0, .int .i64 n, .int .i64 skip] w fun e w' => e = .returned (.bool true) ∧ Below w.heap.size w w' := by
  have H1 := Lib.hid hS
  clear hS
  go_enter Try.func5, Try.ntmps5
  go_wp2_with fail
  refine (enNew 1 (by omega) (by omega) w).mono ?_
  rintro y w1 ⟨g, FE, rfl, h1⟩
  go_wp2_with fail
  refine (ledNew 4 (by omega) (by omega) w1).mono ?_
  rintro y w2 ⟨l, FL, rfl, h2⟩
  go_wp2_with fail
  refine (pNew w2 g 12 (by omega) (by omega)).mono ?_
  rintro y w3 ⟨rfl, h3, c3⟩
  have HX : Hid (PX w w3 g l w2.heap.size 4 FE FL [w2.heap.size] W0 (LS1 4) 12 [] 0 0) := PX.start h1 h2 h3 c3
  clear h1 h2 h3 c3
  generalize w2.heap.size = p at *
  go_wp2_with fail
  go_loopw [10] (fun i wr => ∃ (k : Nat) (FE FP : List Nat) (W : WS) (L : List Env) (t : Nat), k ≤ n0 ∧ k ≤ 20 ∧ i = .int .i64 k ∧ t ≤ 4 * k ∧ Hid (PX w wr g l p 4 FE FL FP W (LS1 4) 12 L t 0) ∧ Hid (PoK W L)) (fun i _ => 20 - (intOf i).toNat)
  case atStart =>
    exact ⟨0, FE, [p], W0, [], 0, by omega, by omega, rfl, by omega, HX, ⟨.nil, by simp, by simp, by simp⟩⟩
  case round =>
    clear HX
    obtain ⟨k, FE, FP, W, L, t, hk, hk2, rfl, ht, HX, HP⟩ := hrel
    have j3 : (k : Int) ≤ 20 := by omega
    by_cases hkn : k < n0 ∧ k < 20
    · obtain ⟨hm1, hm2⟩ := hkn
      obtain ⟨b1, off, cl, nn, fe, rfl, Q⟩ := H1.out.step14 hm1
      obtain ⟨f1, e1, l1⟩ := and3_i64 cl
      obtain ⟨f2, e2, l2⟩ := and7_u64 nn
      obtain ⟨f3, e3, l3⟩ := and63_u64 fe
      have wq : IntKind.u64.wrap ((f3 : Int) + 1) = (f3 : Int) + 1 := by simp [IntKind.wrap, IntKind.bits, IntKind.signed]; omega
      have i1 : (0 : Int) ≤ (k : Int) := by omega
      have i2 : (k : Int) < (n0 : Int) := by omega
      have i3 : (k : Int) < 20 := by omega
      obtain ⟨e, he⟩ : ∃ e : Env, e = ⟨f1, f2, (f3 : Int) + 1, (W.L.length : Int) + 1⟩ := ⟨_, rfl⟩
      have hlL := HX.out.e.lenL
      have hok : e.Ok := by rw [he]; exact ⟨⟨by dsimp only; omega, by dsimp only; omega⟩, ⟨by dsimp only; omega, by dsimp only; omega⟩, ⟨by dsimp only; omega, by dsimp only; omega⟩, ⟨by dsimp only; omega, by dsimp only; omega⟩⟩
      have hin : inR e = true := by rw [he]; simp [inR]; omega
      obtain ⟨r, hr⟩ : ∃ r, pAddV 4 (LS1 4) 12 L true e = r := ⟨_, rfl⟩
      have HE := Lib.hid he
      have HR : Hid (pAddV 4 (LS1 4) 12 L true e = (r.1, r.2)) := hr
      have HK := Lib.hid (fun s => HP.out.add hok s hr)
      have HOI := Lib.hid (And.intro hok hin)
      have hlen : L.length ≤ 1000 := by have := HP.out.len; omega
      clear he hok hin hr hlL
      obtain ⟨s1, s2, s3⟩ := Q.c wr HX.out.e.c.below
      have HQ := Lib.hid Q
      clear Q
      have hXd := HX.out.to ((Chg.refl [] wr).drew)
      have u1 : wr.drew.cell? ⟨b1, off + k * 4 + 1, none⟩ = some (.int .i64 cl) := s1
      have u2 : wr.drew.cell? ⟨b1, off + k * 4 + 2, none⟩ = some (.int .u64 nn) := s2
      have u3 : wr.drew.cell? ⟨b1, off + k * 4 + 3, none⟩ = some (.int .u64 fe) := s3
      have ht1 : t ≤ 900000 := by omega
      have ht2 : t + 3 ≤ 900000 := by omega
      have hc0 : (0 : Int) ≤ (f1 : Int) := by omega
      have hc1 : (f1 : Int) ≤ 999 := by omega
      have hun : U (f2 : Int) := ⟨by omega, by omega⟩
      have huq : U ((f3 : Int) + 1) := ⟨by omega, by omega⟩
      have hm12 : (12 : Int) ≤ 1000 := by omega
      go_upto_region 10 with (fail)
      go_region_held3 (fun w' => w'.cell? ⟨b1, off + k * 4 + 1, none⟩ = some (.int .i64 cl) ∧ w'.cell? ⟨b1, off + k * 4 + 2, none⟩ = some (.int .u64 nn) ∧ w'.cell? ⟨b1, off + k * 4 + 3, none⟩ = some (.int .u64 fe)) (first | go_keep | exact qS)
        (first
          | ((go_at_call 18; (with_reducible refine (enMake hXd.e ht1 (f1 : Int) (f2 : Int) ((f3 : Int) + 1) hc0 hc1 hun huq e HE.out).mono ?_); rintro y v1 ⟨rfl, FE1, sb, hE, hC, hG⟩; have hX1 := hXd.env hE hC hG; have qS := HQ.out.c v1 hX1.e.c.below))
          | ((go_at_call 19; (with_reducible refine (addK hX1 ht2 hlen hm12 e HOI.out.1 HOI.out.2 HP.out.ok (Known.new _ _ _) r.1 r.2 HR.out).mono ?_); rintro y v2 ⟨rfl, FE2, FP2, hX2, hC2, hG2⟩; have qS := HQ.out.c v2 hX2.e.c.below)))
      all_goals
        have HX2 := Lib.hid hX2
        clear hE hC hG hX1 hX2 hC2 hG2 hXd HX qS s1 s2 s3 u1 u2 u3 e1 e2 e3
        go_wp2_with fail
        go_roundw
        case rel => exact ⟨k + 1, FE2, FP2, _, r.2, _, by omega, by omega, by go_num, by omega, HX2, HK.out sb⟩
        case measure => simp [intOf]; omega
    · have hex : ¬ (k < n0 ∧ k < 20) := hkn
      go_upto_region 8 with (fail)
      go_cut [39] from 32 to 39 (fun v wx => v = .bool false ∧ wr = wx)
      case first =>
        rcases Nat.lt_or_ge k n0 with hh | hh
        · have h6 : ¬ k < 20 := fun h7 => hex ⟨hh, h7⟩
          have d6 : decide ((k : Int) < 20) = false := by simp; omega
          go_wp2_with fail
          go_meet
          exact ⟨rfl, rfl⟩
        · have d6 : decide ((k : Int) < (n0 : Int)) = false := by simp; omega
          go_wp2_with fail
          go_meet
          exact ⟨rfl, rfl⟩
      case rest =>
        obtain ⟨rfl, rfl⟩ := hcut
        have ht9 : t ≤ 1000 := by omega
        clear hex hkn H1 hk hk2 j3
        obtain ⟨m, hm⟩ : ∃ m, L.length = m := ⟨_, rfl⟩
        have hm12 : m ≤ 12 := by have := HP.out.len; omega
        have HM := Lib.hid hm
        clear hm
        go_wp2_with fail
        refine (pAll HX.out.p HM.out (by omega)).mono ?_
        rintro y u1 ⟨v11, rfl, ho, c1⟩
        obtain ⟨a11, c11, rfl, -, -, -⟩ := own_nsl ho
        have HX1 := Lib.hid (HX.out.to c1)
        have h11 : Erw u1 (.slice a11 m c11) L := by
          show World.ownsRow _ _ _ _ _ _ _
          rw [HM.out]
          exact own_low ho (Nat.zero_le _)
        have HJ1 : Hid (Dj3 w.heap.size (pxF FE FL FP) (obl (.slice a11 m c11)) [] []) := by
          refine ⟨fun z hz => ⟨fun hm => ?_, by simp, by simp⟩, by simp, by simp, fun z hz => ?_, by simp, by simp⟩
          · have h1 := own_base ho z (by simpa using hz)
            have := (HX.out.ltF z hm).2; omega
          · have h1 := own_base ho z (by simpa using hz)
            have h2 := HX.out.e.c.size; omega
        have H11 := Lib.hid h11
        clear ho c1 HX h11 ht
        go_wp2_with fail
        go_loopw [12, 13, 14] (fun v12 v13 v14 wr => ∃ (u12 : Value) (j q : Nat), u12 = v12 ∧ j ≤ m ∧ q ≤ j ∧ v14 = .int .i64 j ∧ v13 = .int .i64 q ∧ Hid ((rsB L (gb skip) j).length = q) ∧ Hid (Irw wr v12 (zsB W.T L (gb skip) j)) ∧ Hid (PX w wr g l p 4 FE FL FP W (LS1 4) 12 L t 0) ∧ Hid (Erw wr (.slice a11 m c11) L) ∧ Hid (Dj3 w.heap.size (pxF FE FL FP) (obl (.slice a11 m c11)) [] (obl v12))) (fun _ _ i _ => m - (intOf i).toNat)
        case atStart => exact ⟨_, 0, 0, rfl, by omega, by omega, rfl, rfl, rfl, Irw.nil _, HX1, H11, HJ1⟩
        case round =>
          clear HX1 H11 HJ1
          obtain ⟨v12, j, q, rfl, hj, hq, rfl, rfl, HQL, H12, HX, H11, HJ⟩ := hrel
          by_cases hjm : j < m
          · have j1 : (j : Int) < (m : Int) := by omega
            have j2 : (j : Int) < 12 := by omega
            have j0 : (0 : Int) ≤ (j : Int) := by omega
            have q2 : (q : Int) ≤ 12 := by omega
            have wk : IntKind.u64.wrap (j : Int) = j := by simp [IntKind.wrap, IntKind.bits, IntKind.signed]; omega
            have wq : IntKind.i64.wrap ((q : Int) + 1) = ((q + 1 : Nat) : Int) := by simp [IntKind.wrap, IntKind.bits, IntKind.signed]; omega
            have hjL : j < L.length := by rw [HM.out]; exact hjm
            by_cases hbit : gb skip j = true
            · have hb1 : (bits BinOp.and IntKind.i64 (skip / 2 ^ j) 1 == 1) = true := by unfold gb at hbit; simpa using hbit
              have HBIT := Lib.hid hbit
              clear hbit
              obtain ⟨s11, e11, hr11⟩ := nsl_at (H11.out.nsl).1 hjL
              subst e11
              obtain ⟨x0, x1, x2, x3⟩ := Nrow.at hr11 hjL
              obtain ⟨x, hx⟩ : ∃ x, L.getD j Env.zero = x := ⟨_, rfl⟩
              have hxm : x ∈ L := by rw [← hx]; exact getD_memE hjL
              rw [hx] at x0 x1 x2 x3
              have HGX := Lib.hid hx
              have HXM := Lib.hid hxm
              clear hr11 hx hxm hjL
              go_wp2_with fail
              refine (wDigX HX.out.e (by omega) x (HP.out.ok x HXM.out) (HP.out.kn x HXM.out).mem (ePos W.T x) rfl).mono ?_
              rintro y u4 ⟨rfl, c4⟩
              have HX5 := Lib.hid (HX.out.to c4)
              have H112 := Lib.hid (H11.out.chg c4 (by simp))
              have H122 := Lib.hid (H12.out.chg c4 (by simp))
              clear HX H11 H12 c4 x0 x1 x2 x3
              have hsz4 : w.heap.size ≤ u4.heap.size := HX5.out.e.c.size
              have cB := fun ob => (Chg.refl [] u4).alloc ob
              have H123 := fun ob => H122.out.chg (cB ob) (by simp)
              go_wp2_with (at_builtin; refine app_int rfl (.tmp 80) (.tmp 87) rfl rfl (H123 _) u4.heap.size 1 (ePos W.T x) rfl (Blk.new u4 [.int .i64 (ePos W.T x)] 3) (by have := zsB_len W.T L (gb skip) j; omega) ?_)
              intro g12 c12 u5 h127 c127 hat12
              have hat12' : g12 ∈ obl v12 ∨ u4.heap.size ≤ g12 := hat12.imp (fun q => by simp [obl, q]) (fun q => by omega)
              have cT : Chg (obl v12) u4 u5 := ((cB _).mono (by simp)).trans c127
              have HX6 := Lib.hid (HX5.out.away cT (fun z hz => ⟨HJ.out.c z hz, HJ.out.lo.2.2 z hz⟩))
              have HJ6 := Lib.hid (HJ.out.gC hat12' hsz4 (fun z hz => (HX5.out.ltF z hz).2) H112.out.lt (by simp))
              have H113 := Lib.hid (H112.out.chg cT (fun z hz hm => (HJ.out.a z hz).2.2 hm))
              have h128 : Irw u5 (.slice (some ⟨g12, 0, none⟩) ((zsB W.T L (gb skip) j).length + 1) c12) (zsB W.T L (gb skip) (j + 1)) := by
                rw [zsB_succ, if_pos HBIT.out, HGX.out]; exact h127
              have H128 := Lib.hid h128
              have HQ2 : Hid ((rsB L (gb skip) (j + 1)).length = q) := by show _ = _; rw [rsB_succ, if_pos HBIT.out]; exact HQL.out
              clear H123 cB c127 hat12 hat12' h127 h128 cT HX5 HJ H112 H122 HQL
              go_wp2_with fail
              go_roundw
              case rel => exact ⟨_, j + 1, q, rfl, by omega, by omega, by go_num, rfl, HQ2, H128, HX6, H113, HJ6⟩
              case measure => simp [intOf]; omega
            · have hb1 : (bits BinOp.and IntKind.i64 (skip / 2 ^ j) 1 == 1) = false := by unfold gb at hbit; simpa using hbit
              have HQ2 : Hid ((rsB L (gb skip) (j + 1)).length = q + 1) := by show _ = _; rw [rsB_succ, if_neg hbit, List.length_append, HQL.out]; rfl
              have H128 : Hid (Irw wr v12 (zsB W.T L (gb skip) (j + 1))) := by show Irw _ _ _; rw [zsB_succ, if_neg hbit]; exact H12.out
              clear hbit hjL H12 HQL
              go_wp2_with fail
              go_roundw
              case rel => exact ⟨_, j + 1, q + 1, rfl, by omega, by omega, by go_num, rfl, HQ2, H128, HX, H11, HJ⟩
              case measure => simp [intOf]; omega
          · have hjm2 : j = m := by omega
            subst hjm2
            obtain ⟨f, hf, hf16⟩ := and15_i64 n
            obtain ⟨a12, c12, e12, hI12, -⟩ := H12.out.sl
            subst e12
            obtain ⟨R, hR⟩ : ∃ R, bat f (rsB L (gb skip) L.length) = R := ⟨_, rfl⟩
            have HR := Lib.hid hR
            have HB := Lib.hid (pBatch HX.out (by omega) (by rw [HM.out]; omega) (fun x hx => ⟨HP.out.ok x hx, (HP.out.kn x hx).mem⟩) (f : Int) (by omega) a12 (zsB W.T L (gb skip) j) _ c12 rfl (by have := zsB_len W.T L (gb skip) j; omega) hI12 R (by
              have h1 := skip_law HP.out.pw.nodup (fun x hx => (HP.out.kn x hx).mem) (gb skip)
              rw [HM.out] at h1
              rw [h1, ← hR, HM.out, Int.toNat_natCast]))
            clear hI12 hR hjm hj
            go_wp2_with fail
            refine HB.out.mono ?_
            rintro y u2 ⟨v15, rfl, ho, c2⟩
            obtain ⟨r, hr⟩ : ∃ r, R.length = r := ⟨_, rfl⟩
            rw [hr] at ho
            obtain ⟨a15, c15, rfl, -, hN15, -⟩ := own_nsl ho
            have HX2 := Lib.hid (HX.out.to c2)
            have hN11 := (H11.out.chg c2 (by simp)).nsl.1
            have HN15 := Lib.hid hN15
            have HN11 := Lib.hid hN11
            have HRL := Lib.hid hr
            have hmin : min (f : Int) (q : Int) = (r : Int) := by
              have h1 := bat_len f (rsB L (gb skip) L.length)
              rw [HR.out, hr, HM.out, HQL.out] at h1
              omega
            have hr12 : r ≤ 12 := by omega
            have hm0 : ((j : Int) != (j : Int)) = false := by simp
            have hr0 : ((r : Int) != (r : Int)) = false := by simp
            have hml : ((L.length : Nat) : Int) = (j : Int) := by rw [HM.out]
            have h12 : decide ((j : Int) > 12) = false := by simp; omega
            have h12b : decide ((12 : Int) < (j : Int)) = false := by simp; omega
            have h12c : decide (12 < j) = false := by simp; omega
            clear ho c2 HX H11 HJ H12 HB hr hN15 hN11
            go_upto_region 22 with (fail)
            go_cut [114] from 97 to 114 (fun v wx => v = .bool false ∧ u2 = wx)
            case first =>
              go_wp2_with fail
              all_goals (try (exfalso; omega))
              all_goals
                refine (pLen HX2.out.p (j : Int) hml).mono ?_
                rintro y uL ⟨rfl, rfl⟩
                go_wp2_with fail
                all_goals
                  go_meet
                  exact ⟨rfl, rfl⟩
            case rest =>
              obtain ⟨rfl, rfl⟩ := hcut
              clear hmin hm0 hr0 hml h12 h12b h12c
              go_wp2_with fail
              go_loopw [16] (fun i wr => ∃ (i0 : Nat), i0 ≤ r ∧ i = .int .i64 i0 ∧ Hid (Chg [] u2 wr)) (fun i _ => r - (intOf i).toNat)
              case atStart => exact ⟨0, by omega, rfl, Chg.refl _ _⟩
              case round =>
                obtain ⟨i0, hi0, rfl, HC⟩ := hrel
                have i6 : (i0 : Int) ≤ 12 := by omega
                by_cases hir : i0 < r
                · have i1 : (i0 : Int) < (r : Int) := by omega
                  have i2 : (0 : Int) ≤ (i0 : Int) := by omega
                  obtain ⟨jx, jx1, jx2, jx3, jx4⟩ := bat_at HP.out.pw (b := gb skip) (f := f) (i := i0) (by rw [HR.out, HRL.out]; exact hir)
                  rw [HR.out] at jx3 jx4
                  rw [HM.out] at jx1 jx4
                  have hiR : i0 < R.length := by rw [HRL.out]; exact hir
                  have HUP : Hid (∀ k, k < i0 → (R.getD k Env.zero).client = (R.getD i0 Env.zero).client → (R.getD k Env.zero).nonce < (R.getD i0 Env.zero).nonce) := fun k hk hc => by
                    have h1 := bat_up HP.out.pw (b := gb skip) (f := f) (i := i0) (k := k) (by rw [HR.out]; exact hiR) hk
                    rw [HR.out] at h1
                    exact h1 hc
                  have HJ4 := Lib.hid jx4
                  have HJ3 := Lib.hid jx3
                  have HJ2 := Lib.hid jx2
                  clear jx4 jx3 jx2
                  go_wp2_with fail
                  go_loopw [17, 18] (fun vi vk wr => ∃ (ui : Value) (k : Nat), ui = vi ∧ k ≤ j ∧ vk = .int .i64 k ∧ ((vi = .int .i64 0 ∧ k ≤ jx) ∨ (vi = .int .i64 1 ∧ jx < k)) ∧ Hid (Chg [] u2 wr)) (fun _ i _ => j - (intOf i).toNat)
                  case atStart => exact ⟨_, 0, rfl, by omega, rfl, .inl ⟨rfl, by omega⟩, HC⟩
                  case round =>
                    clear HC
                    obtain ⟨vi, k, rfl, hk, rfl, hvi, HC⟩ := hrel
                    have k6 : (k : Int) ≤ 12 := by omega
                    have k0 : (0 : Int) ≤ (k : Int) := by omega
                    by_cases hkj : k < j
                    · have k1 : (k : Int) < (j : Int) := by omega
                      have wk : IntKind.u64.wrap (k : Int) = k := by simp [IntKind.wrap, IntKind.bits, IntKind.signed]; omega
                      obtain ⟨s11, e11, hr11⟩ := nsl_at (HN11.out.chg HC.out (by simp)) (k := k) (by rw [HM.out]; exact hkj)
                      obtain ⟨s15, e15, hr15⟩ := nsl_at (HN15.out.chg HC.out (by simp)) (k := i0) hiR
                      obtain ⟨x0, x1, x2, x3⟩ := Nrow.at hr11 (show k < _ by rw [HM.out]; exact hkj)
                      obtain ⟨z0, z1, z2, z3⟩ := Nrow.at hr15 hiR
                      subst e11 e15
                      clear hr11 hr15
                      by_cases hkx : k = jx
                      · subst hkx
                        have hv0 : vi = .int .i64 0 := by
                          rcases hvi with q | q
                          · exact q.1
                          · exact absurd q.2 (Nat.lt_irrefl _)
                        subst hv0
                        rw [HJ3.out] at x0 x1 x2 x3
                        have hb1 : (bits BinOp.and IntKind.i64 (skip / 2 ^ k) 1 == 0) = true := by
                          have h1 := HJ2.out
                          unfold gb at h1
                          simp only [decide_eq_false_iff_not] at h1
                          obtain ⟨q, q1, q2⟩ := and1_i64 (skip / 2 ^ k)
                          rcases (by omega : q = 0 ∨ q = 1) with rfl | rfl
                          · rw [q1]; rfl
                          · exact absurd q1 h1
                        generalize R.getD i0 Env.zero = x at *
                        go_upto_region 31 with (fail)
                        go_quiet (fail)
                        have HC2 := Lib.hid (HC.out.trans ((Chg.refl [] wr).drewN nq))
                        clear HC x0 x1 x2 x3 z0 z1 z2 z3
                        generalize wr.drewN nq = wq at *
                        go_wp2_with fail
                        go_roundw
                        case rel => exact ⟨_, k + 1, rfl, by omega, by go_num, .inr ⟨rfl, by omega⟩, HC2⟩
                        case measure => simp [intOf]; omega
                      · have hne : L.getD k Env.zero ≠ R.getD i0 Env.zero := fun h => hkx (HJ4.out k hkj h)
                        have hvn : (vi = .int .i64 0 ∧ k + 1 ≤ jx) ∨ (vi = .int .i64 1 ∧ jx < k + 1) := by
                          rcases hvi with q | q
                          · exact .inl ⟨q.1, by omega⟩
                          · exact .inr ⟨q.1, by omega⟩
                        have HVN := Lib.hid hvn
                        have HKX := Lib.hid hkx
                        generalize L.getD k Env.zero = y at *
                        generalize hRx : R.getD i0 Env.zero = x at *
                        have hne4 : ¬ (y.client = x.client ∧ y.nonce = x.nonce ∧ y.fee = x.fee ∧ y.cipher = x.cipher) := fun h => hne ((envEq_iff y x).2 h)
                        clear hne hvn hvi hkx
                        by_cases h0 : y.client = x.client
                        · rw [h0] at x0
                          by_cases h1 : y.nonce = x.nonce
                          · rw [h1] at x1
                            by_cases h2 : y.fee = x.fee
                            · rw [h2] at x2
                              have h3 : ¬ y.cipher = x.cipher := fun q => hne4 ⟨h0, h1, h2, q⟩
                              have hb : (y.cipher == x.cipher) = false := by simp [h3]
                              have hd : decide (y.cipher = x.cipher) = false := by simp [h3]
                              clear hne4
                              go_upto_region 31 with (fail)
                              go_quiet (fail)
                              have HC2 := Lib.hid (HC.out.trans ((Chg.refl [] wr).drewN nq))
                              clear HC x0 x1 x2 x3 z0 z1 z2 z3
                              generalize wr.drewN nq = wq at *
                              go_wp2_with fail
                              go_roundw
                              case rel => exact ⟨_, k + 1, rfl, by omega, by go_num, HVN.out, HC2⟩
                              case measure => simp [intOf]; omega
                            · have hb : (y.fee == x.fee) = false := by simp [h2]
                              have hd : decide (y.fee = x.fee) = false := by simp [h2]
                              clear hne4
                              go_upto_region 31 with (fail)
                              go_quiet (fail)
                              have HC2 := Lib.hid (HC.out.trans ((Chg.refl [] wr).drewN nq))
                              clear HC x0 x1 x2 x3 z0 z1 z2 z3
                              generalize wr.drewN nq = wq at *
                              go_wp2_with fail
                              go_roundw
                              case rel => exact ⟨_, k + 1, rfl, by omega, by go_num, HVN.out, HC2⟩
                              case measure => simp [intOf]; omega
                          · have hb : (y.nonce == x.nonce) = false := by simp [h1]
                            have hd : decide (y.nonce = x.nonce) = false := by simp [h1]
                            clear hne4
                            go_upto_region 31 with (fail)
                            go_quiet (fail)
                            have HC2 := Lib.hid (HC.out.trans ((Chg.refl [] wr).drewN nq))
                            clear HC x0 x1 x2 x3 z0 z1 z2 z3
                            generalize wr.drewN nq = wq at *
                            go_wp2_with fail
                            go_roundw
                            case rel => exact ⟨_, k + 1, rfl, by omega, by go_num, HVN.out, HC2⟩
                            case measure => simp [intOf]; omega
                        · have hb : (y.client == x.client) = false := by simp [h0]
                          have hd : decide (y.client = x.client) = false := by simp [h0]
                          clear hne4
                          go_upto_region 31 with (fail)
                          go_quiet (fail)
                          have HC2 := Lib.hid (HC.out.trans ((Chg.refl [] wr).drewN nq))
                          clear HC x0 x1 x2 x3 z0 z1 z2 z3
                          generalize wr.drewN nq = wq at *
                          go_wp2_with fail
                          go_roundw
                          case rel => exact ⟨_, k + 1, rfl, by omega, by go_num, HVN.out, HC2⟩
                          case measure => simp [intOf]; omega
                    · have hv1 : vi = .int .i64 1 := by
                        rcases hvi with q | q
                        · omega
                        · exact q.1
                      subst hv1
                      have hkj2 : k = j := by omega
                      subst hkj2
                      clear hkj hk hvi
                      go_wp2_with fail
                      go_loopw [19] (fun vk wr => ∃ (q : Nat), q ≤ i0 ∧ vk = .int .i64 q ∧ Hid (Chg [] u2 wr)) (fun i _ => i0 - (intOf i).toNat)
                      case atStart => exact ⟨0, by omega, rfl, HC⟩
                      case round =>
                        clear HC
                        obtain ⟨q4, hq4, rfl, HC⟩ := hrel
                        have q6 : (q4 : Int) ≤ 12 := by omega
                        have q0 : (0 : Int) ≤ (q4 : Int) := by omega
                        by_cases hqi : q4 < i0
                        · have q1 : (q4 : Int) < (i0 : Int) := by omega
                          have q5 : (q4 : Int) < (r : Int) := by omega
                          obtain ⟨s15, e15, hr15⟩ := nsl_at (HN15.out.chg HC.out (by simp)) (k := i0) hiR
                          obtain ⟨x0, x1, x2, x3⟩ := Nrow.at hr15 (show q4 < _ by omega)
                          obtain ⟨z0, z1, z2, z3⟩ := Nrow.at hr15 hiR
                          subst e15
                          have hup := HUP.out q4 hqi
                          clear hr15
                          generalize R.getD q4 Env.zero = y at *
                          generalize hRx : R.getD i0 Env.zero = x at *
                          by_cases hcl : y.client = x.client
                          · have hlt := hup hcl
                            have c1 : (y.client == x.client) = true := by simp [hcl]
                            have d1 : decide (y.nonce ≥ x.nonce) = false := by simp; omega
                            have d2 : decide (x.nonce ≤ y.nonce) = false := by simp; omega
                            clear hup hcl hlt
                            go_upto_region 36 with (fail)
                            go_quiet (fail)
                            have HC2 := Lib.hid (HC.out.trans ((Chg.refl [] wr).drewN nq))
                            clear HC x0 x1 x2 x3 z0 z1 z2 z3
                            generalize wr.drewN nq = wq at *
                            go_wp2_with fail
                            go_roundw
                            case rel => exact ⟨q4 + 1, by omega, by go_num, HC2⟩
                            case measure => simp [intOf]; omega
                          · have c1 : (y.client == x.client) = false := by simp [hcl]
                            clear hup hcl
                            go_upto_region 36 with (fail)
                            go_quiet (fail)
                            have HC2 := Lib.hid (HC.out.trans ((Chg.refl [] wr).drewN nq))
                            clear HC x0 x1 x2 x3 z0 z1 z2 z3
                            generalize wr.drewN nq = wq at *
                            go_wp2_with fail
                            go_roundw
                            case rel => exact ⟨q4 + 1, by omega, by go_num, HC2⟩
                            case measure => simp [intOf]; omega
                        · have hqi2 : q4 = i0 := by omega
                          subst hqi2
                          clear hqi hq4
                          go_wp2_with fail
                          go_roundw
                          case rel => exact ⟨q4 + 1, by omega, by go_num, HC⟩
                          case measure => simp [intOf]; omega
                · have hir2 : i0 = r := by omega
                  subst hir2
                  clear hir hi0
                  go_wp2_with fail
                  refine (awake14 _).mono ?_
                  rintro y u9 ⟨rfl, cA⟩
                  go_wp2_with fail
                  go_ret
                  exact ⟨rfl, ((HX2.out.e.c.trans HC.out).trans cA).below⟩

end Go.Proofs.Yteabcpmpcbjicaa
