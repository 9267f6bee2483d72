
import Derived.Test.YteabcpmpcbjicaaPool4
import Derived.Test.YteabcpmpcbjicaaLedK
namespace Go.Proofs.Yteabcpmpcbjicaa
set_option linter.unusedVariables false
set_option maxRecDepth 100000
open Go Go.Proofs Go.RowKit Go.Maps
attribute [local go_sem ↓] Go.wp_at_zero Go.wp_at_succ

/-- A world of envelopes, a ledger, a pool. -/
structure PX (w wr : World) (g l p nl : Nat) (FE FL FP : List Nat) (W : WS) (S : LS) (most : Int) (L : List Env) (t tl : Nat) : Prop where
  e : WldX w wr g FE W t
  l : LedX w wr l nl FL S tl
  p : PoM wr g p FP most L
  d1 : ∀ z ∈ FE, z ∉ FL ∧ z ∉ FP
  d2 : ∀ z ∈ FL, z ∉ FP
  lo : ∀ z ∈ FP, w.heap.size ≤ z
theorem PX.aside {w wr w' : World} {g l p nl : Nat} {FE FL FP R : List Nat} {W : WS} {S : LS} {most : Int} {L : List Env} {t tl : Nat} (h : PX w wr g l p nl FE FL FP W S most L t tl) (c : Chg R wr w') (hR : ∀ z ∈ R, z ∉ FE ∧ z ∉ FL ∧ z ∉ FP ∧ w.heap.size ≤ z) : PX w w' g l p nl FE FL FP W S most L t tl :=
  ⟨h.e.aside c (fun z hz => ⟨(hR z hz).1, (hR z hz).2.2.2⟩), h.l.aside c (fun z hz => ⟨(hR z hz).2.1, (hR z hz).2.2.2⟩), h.p.aside c (fun z hz => (hR z hz).2.2.1), h.d1, h.d2, h.lo⟩
theorem PX.to {w wr w' : World} {g l p nl : Nat} {FE FL FP : List Nat} {W : WS} {S : LS} {most : Int} {L : List Env} {t tl : Nat} (h : PX w wr g l p nl FE FL FP W S most L t tl) (c : Chg [] wr w') : PX w w' g l p nl FE FL FP W S most L t tl := h.aside c (by simp)
theorem PX.env {w wr w' : World} {g l p nl : Nat} {FE FL FP FE' : List Nat} {W W' : WS} {S : LS} {most : Int} {L : List Env} {t t' tl : Nat} (h : PX w wr g l p nl FE FL FP W S most L t tl) (k : WldX w w' g FE' W' t') (c : Chg FE wr w') (r : Grw wr.heap.size FE FE') : PX w w' g l p nl FE' FL FP W' S most L t' tl := by
  refine ⟨k, h.l.aside c (fun z hz => ⟨(h.d1 z hz).1, (h.e.lt z hz).1⟩), h.p.aside c (fun z hz => (h.d1 z hz).2), fun z hz => ?_, h.d2, h.lo⟩
  rcases r z hz with q | q
  · exact h.d1 z q
  · exact ⟨fun hm => by have := (h.l.lt z hm).2; omega, fun hm => by have := h.p.lt z hm; omega⟩
theorem PX.pool {w wr w' : World} {g l p nl : Nat} {FE FL FP FP' : List Nat} {W : WS} {S : LS} {most : Int} {L L' : List Env} {t tl : Nat} (h : PX w wr g l p nl FE FL FP W S most L t tl) (k : PoM w' g p FP' most L') (c : Chg FP wr w') (r : Grw wr.heap.size FP FP') : PX w w' g l p nl FE FL FP' W S most L' t tl := by
  have hsz : w.heap.size ≤ wr.heap.size := h.e.c.size
  refine ⟨h.e.aside c (fun z hz => ⟨fun hm => (h.d1 z hm).2 hz, h.lo z hz⟩), h.l.aside c (fun z hz => ⟨fun hm => h.d2 z hm hz, h.lo z hz⟩), k, fun z hz => ⟨(h.d1 z hz).1, fun hm => ?_⟩, fun z hz hm => ?_, fun z hz => ?_⟩
  · rcases r z hm with q | q
    · exact (h.d1 z hz).2 q
    · have := (h.e.lt z hz).2; omega
  · rcases r z hm with q | q
    · exact h.d2 z hz q
    · have := (h.l.lt z hz).2; omega
  · rcases r z hz with q | q
    · exact h.lo z q
    · omega
theorem PX.led {w wr w' : World} {g l p nl : Nat} {FE FL FP FL' : List Nat} {W : WS} {S S' : LS} {most : Int} {L : List Env} {t tl tl' : Nat} (h : PX w wr g l p nl FE FL FP W S most L t tl) (k : LedX w w' l nl FL' S' tl') (c : Chg FL wr w') (r : Grw wr.heap.size FL FL') : PX w w' g l p nl FE FL' FP W S' most L t tl' := by
  refine ⟨h.e.aside c (fun z hz => ⟨fun hm => (h.d1 z hm).1 hz, (h.l.lt z hz).1⟩), k, h.p.aside c (fun z hz => h.d2 z hz), fun z hz => ⟨fun hm => ?_, (h.d1 z hz).2⟩, fun z hz hm => ?_, h.lo⟩
  · rcases r z hm with q | q
    · exact (h.d1 z hz).1 q
    · have := (h.e.lt z hz).2; omega
  · rcases r z hz with q | q
    · exact h.d2 z q hm
    · have := h.p.lt z hm; omega
/-- What Add tells, and what waits behind it. -/
def pAddV (nl : Nat) (S : LS) (most : Int) (L : List Env) (ok : Bool) (e : Env) : Int × List Env :=
  if ok = false then (8, L)
  else if L.any (tkn e) = true then (10, L)
  else if e.nonce < lNextV nl S e.client ∨ 15 < e.nonce - lNextV nl S e.client then (9, L)
  else if e.fee = 0 ∨ cSumB (fsE e L) = false ∨ aFree nl S.xs e.client 1 < cSumN (fsE e L) then (4, L)
  else if most ≤ (L.length : Int) then
    (if bst L L.length < 0 ∨ e.fee ≤ (L.getD (bst L L.length).toNat Env.zero).fee then (11, L) else (0, L.eraseIdx (bst L L.length).toNat ++ [e]))
  else (0, L ++ [e])
/-- How Add leaves all. -/
def AddR (w wr : World) (g l p nl : Nat) (FE FL FP : List Nat) (W : WS) (S : LS) (most : Int) (r : Int × List Env) (e : Env) (t tl : Nat) (y : Ending) (w' : World) : Prop :=
  y = .returned (.int .i64 r.1) ∧ ∃ FE' FP', PX w w' g l p nl FE' FL FP' { W with T := eIns W.T e } S most r.2 (t + 1) tl ∧ Chg (FE ++ FP) wr w' ∧ Grw wr.heap.size (FE ++ FP) (FE' ++ FP')
theorem grw_two {B B2 : Nat} {A A' C C' : List Nat} (h : Grw B A A') (k : Grw B2 C C') (hB : B ≤ B2) : Grw B (A ++ C) (A' ++ C') := fun z hz => by
  rcases List.mem_append.1 hz with q | q
  · exact (h z q).imp (fun z => by simp [z]) id
  · exact (k z q).imp (fun z => by simp [z]) (fun z => Nat.le_trans hB z)
theorem AddR.of {w wr w' : World} {g l p nl : Nat} {FE FL FP FE' FP' : List Nat} {W : WS} {S : LS} {most : Int} {L' : List Env} {r : Int × List Env} {e : Env} {t tl : Nat} {c : Int} (hX : PX w w' g l p nl FE' FL FP' { W with T := eIns W.T e } S most L' (t + 1) tl) (k : Chg (FE ++ FP) wr w') (q : Grw wr.heap.size (FE ++ FP) (FE' ++ FP')) (hr : r = (c, L')) :
    AddR w wr g l p nl FE FL FP W S most r e t tl (.returned (.int .i64 c)) w' := by
  subst hr
  exact ⟨rfl, FE', FP', hX, k, q⟩
theorem PX.aok {w wr : World} {g l p nl : Nat} {FE FL FP : List Nat} {W : WS} {S : LS} {most : Int} {L : List Env} {t tl : Nat} (h : PX w wr g l p nl FE FL FP W S most L t tl) : AOk nl S.xs := by
  obtain ⟨ab, s, fb, mb, x, kb, ns, F0, m, h, e0, e1, e2⟩ := h.l
  exact h.ex.a.ok
theorem PX.nxU {w wr : World} {g l p nl : Nat} {FE FL FP : List Nat} {W : WS} {S : LS} {most : Int} {L : List Env} {t tl : Nat} (h : PX w wr g l p nl FE FL FP W S most L t tl) (c : Int) : U (lNextV nl S c) := by
  obtain ⟨ab, s, fb, mb, x, kb, ns, F0, m, h, e0, e1, e2⟩ := h.l
  unfold lNextV
  split
  · by_cases hc : c.toNat < S.nx.length
    · exact h.nu _ (by simp [List.getD, hc])
    · simp [List.getD, hc, U]
  · simp [U]
/-- A pool's row has grown. -/
theorem PoM.push {w w3 : World} {g p : Nat} {F : List Nat} {most : Int} {L M : List Env} {v v3 : Value} (h : PoM w g p F most L) (hb : Blk w p 125 [.pointer (some ⟨g, 0, none⟩), .int .i64 most, v]) (hv : ∀ k, v.ownBlock = some k → k ∈ F)
    (c : Chg (p :: v.ownBlock.toList) w w3) (hb3 : Blk w3 p 125 [.pointer (some ⟨g, 0, none⟩), .int .i64 most, v3]) (ho : w3.ownsRow (p + 1) 32 4 v3 M.length (flat nc M)) (hat : ∀ k, v3.ownBlock = some k → k ∈ F ∨ w.heap.size ≤ k) :
    ∃ F3, PoM w3 g p F3 most M ∧ Chg F w w3 ∧ Grw w.heap.size F F3 := by
  refine ⟨p :: v3.ownBlock.toList, ⟨⟨v3, hb3, ho, fun k hk => by simp [hk]⟩, by simp, fun z hz => ?_, fun z hz => ?_⟩, c.mono (fun z hz => ?_), fun z hz => ?_⟩
  · rcases List.mem_cons.1 hz with q | q
    · omega
    · have := own_base ho z (by simpa using q); omega
  · rcases List.mem_cons.1 hz with q | q
    · rw [q]; exact hb3.lt
    · exact (ho.lt z (by simpa using q)).2
  · rcases List.mem_cons.1 hz with q | q
    · rw [q]; exact h.inF
    · exact hv z (by simpa using q)
  · rcases List.mem_cons.1 hz with q | q
    · rw [q]; exact .inl h.inF
    · exact hat z (by simpa using q)
set_option maxHeartbeats 8000000 in
theorem pAdd {w wr : World} {g l p nl : Nat} {FE FL FP : List Nat} {W : WS} {S : LS} {most : Int} {L : List Env} {t tl : Nat} (h : PX w wr g l p nl FE FL FP W S most L t tl) (ht : t ≤ 900000) (hL : L.length ≤ 1000) (hm : most ≤ 1000) (e : Env) (he : e.Ok) (hr : inR e = true) (hLo : ∀ x ∈ L, x.Ok) :
    Calls Try.prog 19 #[.pointer (some ⟨p, 0, none⟩), nv e, .pointer (some ⟨l, 0, none⟩)] wr fun y w' => AddR w wr g l p nl FE FL FP W S most (pAddV nl S most L (sgnd W e) e) e t tl y w' := by
  have HV : Hid (∀ r, pAddV nl S most L (sgnd W e) e = r → pAddV nl S most L (sgnd W e) e = r) := fun _ q => q
  obtain ⟨ok, hok⟩ : ∃ b, sgnd W e = b := ⟨_, rfl⟩
  obtain ⟨R, hR⟩ : ∃ r, pAddV nl S most L ok e = r := ⟨_, rfl⟩
  rw [hok, hR]
  have HR := Lib.hid hR
  have hbx : Blk (wr.alloc (.cells #[.int .i64 e.client, .int .u64 e.nonce, .int .u64 e.fee, .int .i64 e.cipher] 32)) wr.heap.size 32 (nc e) := Blk.new wr (nc e) 32
  have cA : Chg [] wr (wr.alloc (.cells #[.int .i64 e.client, .int .u64 e.nonce, .int .u64 e.fee, .int .i64 e.cipher] 32)) := (Chg.refl _ _).alloc _
  have hsA : (wr.alloc (.cells #[.int .i64 e.client, .int .u64 e.nonce, .int .u64 e.fee, .int .i64 e.cipher] 32)).heap.size = wr.heap.size + 1 := by simp
  have hbF : ∀ z, z ∈ FE ∨ z ∈ FL ∨ z ∈ FP → wr.heap.size ≠ z := fun z hz e => by
    rcases hz with q | q | q
    · have := (h.e.lt z q).2; omega
    · have := (h.l.lt z q).2; omega
    · have := h.p.lt z q; omega
  have HH := Lib.hid h
  have HE := Lib.hid he
  have HOK := Lib.hid hok
  have HLO := Lib.hid hLo
  clear h he hok hLo hR HV
  go_enter Try.func19, Try.ntmps19
  go_upto_region 1 with (fail)
  obtain ⟨b4, hb4⟩ : ∃ b, wr.heap.size = b := ⟨_, rfl⟩
  rw [hb4] at hbx hsA
  simp only [hb4] at hbF
  have HB4 := Lib.hid hb4
  (try simp only [hb4])
  have hX1 := HH.out.to cA
  have HA := Lib.hid cA
  clear hb4 cA
  generalize wr.alloc _ = w1 at *
  have HS1 := Lib.hid hsA
  obtain ⟨v, hpd, hpo, hpv⟩ := hX1.p.hd
  have p0 := hpd.at (i := 0) rfl
  have y0 := hbx.at (i := 0) rfl
  have y1 := hbx.at (i := 1) rfl
  have y2 := hbx.at (i := 2) rfl
  have y3 := hbx.at (i := 3) rfl
  have nb : b4 ∉ FE := fun hm => hbF b4 (.inl hm) rfl
  have np : p ∉ FE := fun hm => (HH.out.d1 p hm).2 HH.out.p.inF
  have hE1 := hX1.e.to ((Chg.refl [] w1).drew)
  have HX1 := Lib.hid hX1
  clear hsA hpd hpo hpv hX1
  go_region_held3 (fun w' => w'.cell? ⟨b4, 0, none⟩ = some (.int .i64 e.client) ∧ w'.cell? ⟨b4, 1, none⟩ = some (.int .u64 e.nonce) ∧ w'.cell? ⟨b4, 2, none⟩ = some (.int .u64 e.fee) ∧ w'.cell? ⟨b4, 3, none⟩ = some (.int .i64 e.cipher) ∧ w'.cell? ⟨p, 0, none⟩ = some (.pointer (some ⟨g, 0, none⟩))) (first | go_keep | exact qS)
    (first
      | ((go_at_call 59; (with_reducible refine (enOk hE1 ht e HE.out hr ok HOK.out).mono ?_); rintro y w2 ⟨rfl, FE', hE2, c2, r2⟩; have qS := And.intro (c2.cell y0 nb) (And.intro (c2.cell y1 nb) (And.intro (c2.cell y2 nb) (And.intro (c2.cell y3 nb) (c2.cell p0 np)))))))
  all_goals
    have HX := Lib.hid ((HX1.out.to ((Chg.refl [] w1).drew)).env hE2 c2 r2)
    have HB := Lib.hid ((hbx.drew).chg c2 nb)
    have HC := Lib.hid (((HA.out.drew).mono (by simp) : Chg (FE ++ FP) wr w1.drew).trans (c2.mono (fun z hz => by simp [hz])))
    have HG : Hid (Grw wr.heap.size (FE ++ FP) (FE' ++ FP)) := fun z hz => by
      rcases List.mem_append.1 hz with q | q
      · rcases r2 z q with q2 | q2
        · exact .inl (by simp [q2])
        · have := HA.out.drew.size; exact .inr (by omega)
      · exact .inl (by simp [q])
    clear hbx p0 y0 y1 y2 y3 hE1 hE2 c2 r2 qS nb np
    cases ok
    · skip
      go_wp2_with fail
      go_ret
      exact AddR.of HX.out HC.out HG.out (by rw [← HR.out]; unfold pAddV; rfl)
    · have x0 := HB.out.at (i := 0) rfl
      have x1 := HB.out.at (i := 1) rfl
      have x2 := HB.out.at (i := 2) rfl
      have x3 := HB.out.at (i := 3) rfl
      obtain ⟨tk, htk⟩ : ∃ b, L.any (tkn e) = b := ⟨_, rfl⟩
      have HTK := Lib.hid htk
      clear htk
      go_wp2_with fail
      refine (pTaken HX.out.p (by omega) e tk HTK.out).mono ?_
      rintro y w3 ⟨rfl, cc⟩
      replace HX := Lib.hid (HX.out.to cc)
      replace HB := Lib.hid (HB.out.chg cc (by simp))
      replace HC := Lib.hid (HC.out.trans (cc.mono (by simp)))
      clear cc x0 x1 x2 x3
      cases tk
      · have x0 := HB.out.at (i := 0) rfl
        go_wp2_with fail
        refine (lxNext HX.out.l e.client _ rfl).mono ?_
        have hnx := HX.out.nxU e.client
        obtain ⟨nx, hnx9⟩ : ∃ n, lNextV nl S e.client = n := ⟨_, rfl⟩
        rw [hnx9] at hnx ⊢
        have HNX := Lib.hid hnx9
        rintro y w4 ⟨rfl, cc⟩
        replace HX := Lib.hid (HX.out.to cc)
        replace HB := Lib.hid (HB.out.chg cc (by simp))
        replace HC := Lib.hid (HC.out.trans (cc.mono (by simp)))
        have hNU := HE.out.nonce
        obtain ⟨nu0, nu1⟩ := hNU
        obtain ⟨nx0, nx1⟩ := hnx
        clear cc x0 hnx9
        have x1 := HB.out.at (i := 1) rfl
        by_cases hlt : e.nonce < nx
        · have dlt : decide (e.nonce < nx) = true := by simpa using hlt
          have HLT := Lib.hid hlt
          clear hlt
          go_wp2_with fail
          go_ret
          exact AddR.of HX.out HC.out HG.out (by rw [← HR.out]; unfold pAddV; rw [if_neg (by decide), HTK.out, if_neg (by decide), HNX.out, if_pos (.inl HLT.out)])
        · have dlt : decide (e.nonce < nx) = false := by simpa using hlt
          have wq : IntKind.u64.wrap (e.nonce - nx) = e.nonce - nx := by simp [IntKind.wrap, IntKind.bits, IntKind.signed]; omega
          have HLT := Lib.hid hlt
          clear hlt
          by_cases hgt : 15 < e.nonce - nx
          · have dgt : decide (15 < e.nonce - nx) = true := by simpa using hgt
            have dgt' : decide (e.nonce - nx > 15) = true := by simpa using hgt
            have HGT := Lib.hid hgt
            clear hgt
            go_wp2_with fail
            go_ret
            exact AddR.of HX.out HC.out HG.out (by rw [← HR.out]; unfold pAddV; rw [if_neg (by decide), HTK.out, if_neg (by decide), HNX.out, if_pos (.inr HGT.out)])
          · have dgt : decide (15 < e.nonce - nx) = false := by simpa using hgt
            have dgt' : decide (e.nonce - nx > 15) = false := by simpa using hgt
            have HGT := Lib.hid hgt
            clear hgt
            have HR2 : Hid (R = if e.fee = 0 ∨ cSumB (fsE e L) = false ∨ aFree nl S.xs e.client 1 < cSumN (fsE e L) then (4, L) else if most ≤ (L.length : Int) then (if bst L L.length < 0 ∨ e.fee ≤ (L.getD (bst L L.length).toNat Env.zero).fee then (11, L) else (0, L.eraseIdx (bst L L.length).toNat ++ [e])) else (0, L ++ [e])) := by
              show _ = _
              rw [← HR.out]
              unfold pAddV
              rw [if_neg (by decide), HTK.out, if_neg (by decide), HNX.out, if_neg (by rintro (z | z); exact HLT.out z; exact HGT.out z)]
            have x0 := HB.out.at (i := 0) rfl
            have x2 := HB.out.at (i := 2) rfl
            have x3 := HB.out.at (i := 3) rfl
            go_wp2_with fail
            refine (pFees HX.out.p (by omega) e HE.out.fee (fun x hx => (HLO.out x hx).fee)).mono ?_
            obtain ⟨sn, hsn⟩ : ∃ n, cSumN (fsE e L) = n := ⟨_, rfl⟩
            obtain ⟨sb, hsb⟩ : ∃ n, cSumB (fsE e L) = n := ⟨_, rfl⟩
            rw [hsn, hsb] at HR2 ⊢
            rintro y w5 ⟨rfl, cc⟩
            replace HX := Lib.hid (HX.out.to cc)
            replace HB := Lib.hid (HB.out.chg cc (by simp))
            replace HC := Lib.hid (HC.out.trans (cc.mono (by simp)))
            clear cc x0 x1 x2 x3 hsn hsb
            have x2 := HB.out.at (i := 2) rfl
            have x0 := HB.out.at (i := 0) rfl
            by_cases hf0 : e.fee = 0
            · have df : (e.fee == 0) = true := by simpa using hf0
              have HF0 := Lib.hid hf0
              clear hf0
              go_wp2_with fail
              go_ret
              exact AddR.of HX.out HC.out HG.out (by rw [HR2.out, if_pos (.inl HF0.out)])
            · have df : (e.fee == 0) = false := by simpa using hf0
              have HF0 := Lib.hid hf0
              clear hf0
              cases sb
              · skip
                go_wp2_with fail
                go_ret
                exact AddR.of HX.out HC.out HG.out (by rw [HR2.out, if_pos (by simp)])
              · obtain ⟨fr, hfr⟩ : ∃ n, aFree nl S.xs e.client 1 = n := ⟨_, rfl⟩
                rw [hfr] at HR2
                have HFR := Lib.hid hfr
                clear hfr
                go_wp2_with fail
                refine (lxFree HX.out.l e.client 1 fr HFR.out).mono ?_
                rintro y w6 ⟨rfl, cc⟩
                replace HX := Lib.hid (HX.out.to cc)
                replace HB := Lib.hid (HB.out.chg cc (by simp))
                replace HC := Lib.hid (HC.out.trans (cc.mono (by simp)))
                clear cc x0 x2
                by_cases hsf : fr < sn
                · have dsf : decide (fr < sn) = true := by simpa using hsf
                  have dsf' : decide (sn > fr) = true := by simpa using hsf
                  have HSF := Lib.hid hsf
                  clear hsf
                  go_wp2_with fail
                  go_ret
                  exact AddR.of HX.out HC.out HG.out (by rw [HR2.out, if_pos (.inr (.inr HSF.out))])
                · have dsf : decide (fr < sn) = false := by simpa using hsf
                  have dsf' : decide (sn > fr) = false := by simpa using hsf
                  have HR3 : Hid (R = if most ≤ (L.length : Int) then (if bst L L.length < 0 ∨ e.fee ≤ (L.getD (bst L L.length).toNat Env.zero).fee then (11, L) else (0, L.eraseIdx (bst L L.length).toNat ++ [e])) else (0, L ++ [e])) := by
                    have := HR2.out
                    rw [if_neg (by rintro (z | z | z); exact HF0.out z; exact absurd z (by decide); exact hsf z)] at this
                    exact this
                  clear hsf
                  obtain ⟨v, hd, ho, hv⟩ := HX.out.p.hd
                  obtain ⟨n, hn⟩ : ∃ n, L.length = n := ⟨_, rfl⟩
                  rw [hn] at ho hL HR3
                  have HN := Lib.hid hn
                  obtain ⟨a, c, hve, -, hns, -⟩ := own_nsl ho
                  subst hve
                  have p1 := hd.at (i := 1) rfl
                  have p2 := hd.at (i := 2) rfl
                  have HO := Lib.hid ho
                  have HVF := Lib.hid hv
                  have HNS := Lib.hid hns
                  have HD := Lib.hid hd
                  clear hn ho hv hns hd
                  go_upto_region 11 with (fail)
                  by_cases hml : most ≤ (n : Int)
                  · have dml : decide (most ≤ (n : Int)) = true := by simpa using hml
                    have dml' : decide ((n : Int) ≥ most) = true := by simpa using hml
                    have HML := Lib.hid hml
                    clear hml
                    go_quiet (fail)
                    have cW : Chg [] w6 (w6.drewN nq) := (Chg.refl _ _).drewN _
                    replace HX := Lib.hid (HX.out.to cW)
                    replace HB := Lib.hid (HB.out.chg cW (by simp))
                    replace HC := Lib.hid (HC.out.trans (cW.mono (by simp)))
                    clear cW p1 p2 HO HVF HNS HD
                    generalize w6.drewN nq = W7 at *
                    go_wp2_with fail
                    refine (pLeast HX.out.p (by rw [HN.out]; omega)).mono ?_
                    rw [HN.out]
                    obtain ⟨b, hb⟩ : ∃ b, bst L n = b := ⟨_, rfl⟩
                    have hrg := bst_rng L n
                    rw [hb] at HR3 hrg ⊢
                    have HBS := Lib.hid hb
                    rintro y w8 ⟨rfl, cc⟩
                    replace HX := Lib.hid (HX.out.to cc)
                    replace HB := Lib.hid (HB.out.chg cc (by simp))
                    replace HC := Lib.hid (HC.out.trans (cc.mono (by simp)))
                    clear cc hb
                    by_cases hbn : b < 0
                    · have dbn : decide (b < 0) = true := by simpa using hbn
                      have HBN := Lib.hid hbn
                      clear hbn hrg
                      go_upto_region 13 with (fail)
                      go_quiet (fail)
                      have cW : Chg [] w8 (w8.drewN nq) := (Chg.refl _ _).drewN _
                      replace HX := Lib.hid (HX.out.to cW)
                      replace HC := Lib.hid (HC.out.trans (cW.mono (by simp)))
                      clear cW
                      generalize w8.drewN nq = W9 at *
                      go_wp2_with fail
                      go_ret
                      exact AddR.of HX.out HC.out HG.out (by rw [HR3.out, if_pos HML.out, if_pos (.inl HBN.out)])
                    · obtain ⟨j, rfl⟩ : ∃ j : Nat, b = j := ⟨b.toNat, by omega⟩
                      have hjn : j < n := by omega
                      have dbn : decide ((j : Int) < 0) = false := by simp
                      have hjn2 : (j : Int) < (n : Int) := by omega
                      have hj0 : (0 : Int) ≤ (j : Int) := by omega
                      have hj1 : (j : Int) < 1000 := by omega
                      obtain ⟨v, hd, ho, hv⟩ := HX.out.p.hd
                      rw [HN.out] at ho
                      rcases own_erow ho with ⟨-, h0, -⟩ | ⟨gr, cp, hve, hgr, -, hE⟩
                      · omega
                      subst hve
                      obtain ⟨-, -, e2, -⟩ := Nrow.at hE.beg (show j < L.length by rw [HN.out]; exact hjn)
                      have HR4 : Hid (R = if e.fee ≤ (L.getD j Env.zero).fee then (11, L) else (0, L.eraseIdx j ++ [e])) := by
                        have := HR3.out
                        rw [if_pos HML.out, show ((j : Int)).toNat = j from by omega] at this
                        show _ = _
                        rw [this]
                        by_cases q : e.fee ≤ (L.getD j Env.zero).fee
                        · rw [if_pos (.inr q), if_pos q]
                        · rw [if_neg (by rintro (z | z); omega; exact q z), if_neg q]
                      have p2 := hd.at (i := 2) rfl
                      have x2 := HB.out.at (i := 2) rfl
                      have HD := Lib.hid hd
                      have HVF := Lib.hid hv
                      have HEr := Lib.hid hE
                      generalize L.getD j Env.zero = lx at *
                      clear hd ho hv hE hbn hrg
                      go_upto_region 13 with (fail)
                      by_cases hge : e.fee ≤ lx.fee
                      · have dge : decide (e.fee ≤ lx.fee) = true := by simpa using hge
                        have dge' : decide (lx.fee ≥ e.fee) = true := by simpa using hge
                        have HGE := Lib.hid hge
                        clear hge
                        go_quiet (fail)
                        have cW : Chg [] w8 (w8.drewN nq) := (Chg.refl _ _).drewN _
                        replace HX := Lib.hid (HX.out.to cW)
                        replace HC := Lib.hid (HC.out.trans (cW.mono (by simp)))
                        clear cW p2 e2 x2 HD HVF HEr
                        generalize w8.drewN nq = W9 at *
                        go_wp2_with fail
                        go_ret
                        exact AddR.of HX.out HC.out HG.out (by rw [HR4.out, if_pos HGE.out])
                      · have dge : decide (e.fee ≤ lx.fee) = false := by simpa using hge
                        have dge' : decide (lx.fee ≥ e.fee) = false := by simpa using hge
                        have HRR : Hid (R = (0, L.eraseIdx j ++ [e])) := by have := HR4.out; rw [if_neg hge] at this; exact this
                        clear hge HR4 HR3
                        go_quiet (fail)
                        have cW : Chg [] w8 (w8.drewN nq) := (Chg.refl _ _).drewN _
                        replace HX := Lib.hid (HX.out.to cW)
                        replace HB := Lib.hid (HB.out.chg cW (by simp))
                        replace HC := Lib.hid (HC.out.trans (cW.mono (by simp)))
                        replace HD := Lib.hid (HD.out.chg cW (by simp))
                        replace HEr := Lib.hid (HEr.out.chg cW (by simp))
                        clear cW p2 e2 x2
                        generalize w8.drewN nq = W9 at *
                        have p2 := HD.out.at (i := 2) rfl
                        have wj : IntKind.i64.wrap ((j : Int) + 1) = (j : Int) + 1 := by simp [IntKind.wrap, IntKind.bits, IntKind.signed]; omega
                        go_upto_region 15 with (fail)
                        go_wp2_with fail
                        refine (envDelete HEr.out HN.out j hjn).mono ?_
                        rintro y w10 ⟨rfl, hE10, c10⟩
                        have hpg : p ≠ gr := by omega
                        have hD10 := HD.out.chg c10 (by simp; exact hpg)
                        have q2 := hD10.at (i := 2) rfl
                        have qf := hD10.free 2
                        have hb11 := hD10.set 2 (.slice (some ⟨gr, 0, none⟩) (n - 1) cp)
                        have hle : (L.eraseIdx j).length = n - 1 := by rw [List.length_eraseIdx, HN.out, if_pos hjn]
                        have gk : ∀ {k : Nat}, Value.ownBlock (.slice (some ⟨gr, 0, none⟩) (n - 1) cp) = some k → k ≠ p := fun {k} hk => by
                          have hk2 : gr = k := by simpa [Value.ownBlock] using hk
                          omega
                        have ho11 : (w10.setCell ⟨p, 2, none⟩ (.slice (some ⟨gr, 0, none⟩) (n - 1) cp)).ownsRow (p + 1) 32 4 (.slice (some ⟨gr, 0, none⟩) (n - 1) cp) (L.eraseIdx j).length (flat nc (L.eraseIdx j)) := by
                          have h1 := own_sto (p := ⟨p, 2, none⟩) (u := .slice (some ⟨gr, 0, none⟩) (n - 1) cp) (hE10.own hgr hle) (fun k hk => gk hk)
                          rw [← hle] at h1
                          rw [← hle]
                          exact h1
                        have c11 : Chg (p :: (Value.slice (some ⟨gr, 0, none⟩) n cp).ownBlock.toList) W9 (w10.setCell ⟨p, 2, none⟩ (.slice (some ⟨gr, 0, none⟩) (n - 1) cp)) := (c10.mono (fun z hz => by simp at hz; simp [hz, Value.ownBlock])).setCell _ _ (.inl (by simp))
                        obtain ⟨FP1, hP1, hcP1, hgP1⟩ := HX.out.p.push (M := L.eraseIdx j) HD.out HVF.out c11 hb11 ho11 (fun k hk => .inl (HVF.out k hk))
                        have hX1' := HX.out.pool hP1 hcP1 hgP1
                        have nbF : b4 ∉ FP := fun hm => hbF b4 (.inr (.inr hm)) rfl
                        have HB1' := HB.out.chg hcP1 nbF
                        have HC1' : Chg (FE ++ FP) wr (w10.setCell ⟨p, 2, none⟩ (.slice (some ⟨gr, 0, none⟩) (n - 1) cp)) := HC.out.trans (hcP1.mono (fun z hz => by simp [hz]))
                        have HG1' : Grw wr.heap.size (FE ++ FP) (FE' ++ FP1) := fun z hz => by
                          rcases List.mem_append.1 hz with q | q
                          · exact HG.out z (by simp [q])
                          · rcases hgP1 z q with q2 | q2
                            · exact .inl (by simp [q2])
                            · have := HC.out.size; exact .inr (by omega)
                        replace HX := Lib.hid hX1'
                        replace HB := Lib.hid HB1'
                        replace HC := Lib.hid HC1'
                        replace HG := Lib.hid HG1'
                        have hL1 : Hid ((L.eraseIdx j).length ≤ 1000) := by show _ ≤ _; rw [hle]; omega
                        clear hE10 c10 hD10 hb11 ho11 c11 hP1 hcP1 hgP1 hX1' HB1' HC1' HG1' hle HD HEr HVF p2
                        go_upto_region 16 with (fail)
                        clear q2 qf
                        generalize w10.setCell _ _ = wc at *
                        obtain ⟨v1, hd1, ho1, hv1⟩ := HX.out.p.hd
                        have hmL : (L.eraseIdx j).length ≤ 1000 := hL1.out
                        obtain ⟨m1, hm1⟩ : ∃ m, (L.eraseIdx j).length = m := ⟨_, rfl⟩
                        rw [hm1] at ho1 hmL
                        have HM1 := Lib.hid hm1
                        clear hm1
                        have dA : ∀ ob, (wc.alloc ob).cell? ⟨p, 2, none⟩ = some v1 := fun ob => (hd1.alloc ob).at (i := 2) rfl
                        have p2 := hd1.at (i := 2) rfl
                        have x0 := HB.out.at (i := 0) rfl
                        have x1 := HB.out.at (i := 1) rfl
                        have x2 := HB.out.at (i := 2) rfl
                        have x3 := HB.out.at (i := 3) rfl
                        have hpl := hd1.lt
                        have news : ∀ (j : Nat) (u : Value), (nc e)[j]? = some u → ((wc.alloc (.cells #[.int .i64 e.client, .int .u64 e.nonce, .int .u64 e.fee, .int .i64 e.cipher] 32)).drew).cell? ((Addr.mk wc.heap.size 0 none).add j) = some u := fun j u hu => by rw [add_none, Nat.zero_add]; exact (Blk.new wc (nc e) 32).at hu
                        have none1 : ∀ u ∈ nc e, u.oneCell' = true := fun u hu => flat_one [e] u (by simpa [flat] using hu)
                        obtain ⟨i0, hi, hz0, hz1, hz2⟩ := info_parts info_env
                        go_region_law (refine step_append_own _ rfl (.tmp 99) (.tmp 101) 29 rfl (p + 1) 32 i0 (nv Env.zero) 4 32 Try.underlying29 hi hz0 hz1 hz2 rfl (by decide) v1 m1 (flat nc (L.eraseIdx j)) rfl ((ho1.alloc _).drew) ⟨wc.heap.size, 0, none⟩ 1 1 (nc e) rfl rfl news none1 (by unfold maxLen; omega) (by omega) (by simp; omega) ?_; intro v3 w3 hown3 hg3 hat3; obtain ⟨a3, c3, rfl⟩ := own_slice hown3; have hE3 : w3.heap[p]? = wc.heap[p]? := (hg3.block p (by simp; omega) (fun q => by have := own_base ho1 p q.symm; omega)).trans (Below.heap_alloc _ _ _ hpl); have c32 := (hd1.same hE3).at (i := 2) rfl; have hf3 := (hd1.same hE3).free 2)
                        all_goals
                          have hF3 : Chg (p :: v1.ownBlock.toList) wc w3 := (((Chg.refl _ wc).alloc _).drew).grown hg3 (fun k hk => .inl (by simp [hk]))
                          have hb3 := (hd1.same hE3).set 2 (.slice a3 (m1 + 1) c3)
                          have hF4 := hF3.setCell ⟨p, 2, none⟩ (.slice a3 (m1 + 1) c3) (.inl (by simp))
                          have ho3 : (w3.setCell ⟨p, 2, none⟩ (.slice a3 (m1 + 1) c3)).ownsRow (p + 1) 32 4 (.slice a3 (m1 + 1) c3) (L.eraseIdx j ++ [e]).length (flat nc (L.eraseIdx j ++ [e])) := by
                            rw [List.length_append, HM1.out, flat_append]
                            exact own_sto hown3 (fun k hk => by have := own_base hown3 k hk; show k ≠ p; omega)
                          have hat4 : ∀ k, Value.ownBlock (.slice a3 (m1 + 1) c3) = some k → k ∈ FP1 ∨ wc.heap.size ≤ k := fun k hk => hat3.elim (fun q => .inl (hv1 k (q ▸ hk))) (fun q => .inr (by rw [hk] at q; injection q with q; rw [q]; simp))
                          obtain ⟨FP3, hP3, hcP, hgP⟩ := HX.out.p.push hd1 hv1 hF4 hb3 ho3 hat4
                          have hX3 := HX.out.pool hP3 hcP hgP
                          have hC3 : Chg (FE ++ FP) wr (w3.setCell ⟨p, 2, none⟩ (.slice a3 (m1 + 1) c3)) := HC.out.trans' hcP (fun z hz => (HG.out z (by simp [hz])))
                          have hG3 : Grw wr.heap.size (FE ++ FP) (FE' ++ FP3) := fun z hz => by
                            rcases List.mem_append.1 hz with q | q
                            · exact HG.out z (by simp [q])
                            · rcases hgP z q with q2 | q2
                              · exact HG.out z (by simp [q2])
                              · have := HC.out.size; exact .inr (by omega)
                          go_wp2_with fail
                          go_ret
                          exact AddR.of hX3 hC3 hG3 HRR.out
                  · have dml : decide (most ≤ (n : Int)) = false := by simpa using hml
                    have dml' : decide ((n : Int) ≥ most) = false := by simpa using hml
                    have HRR : Hid (R = (0, L ++ [e])) := by have := HR3.out; rw [if_neg hml] at this; exact this
                    clear hml HR3
                    go_quiet (fail)
                    have cW : Chg [] w6 (w6.drewN nq) := (Chg.refl _ _).drewN _
                    replace HX := Lib.hid (HX.out.to cW)
                    replace HB := Lib.hid (HB.out.chg cW (by simp))
                    replace HC := Lib.hid (HC.out.trans (cW.mono (by simp)))
                    have hL1 : Hid (L.length ≤ 1000) := by show _ ≤ _; rw [HN.out]; exact hL
                    clear cW p1 p2 HO HVF HNS HD
                    generalize w6.drewN nq = wc at *
                    go_upto_region 16 with (fail)
                    obtain ⟨v1, hd1, ho1, hv1⟩ := HX.out.p.hd
                    have hmL : (L).length ≤ 1000 := hL1.out
                    obtain ⟨m1, hm1⟩ : ∃ m, (L).length = m := ⟨_, rfl⟩
                    rw [hm1] at ho1 hmL
                    have HM1 := Lib.hid hm1
                    clear hm1
                    have dA : ∀ ob, (wc.alloc ob).cell? ⟨p, 2, none⟩ = some v1 := fun ob => (hd1.alloc ob).at (i := 2) rfl
                    have p2 := hd1.at (i := 2) rfl
                    have x0 := HB.out.at (i := 0) rfl
                    have x1 := HB.out.at (i := 1) rfl
                    have x2 := HB.out.at (i := 2) rfl
                    have x3 := HB.out.at (i := 3) rfl
                    have hpl := hd1.lt
                    have news : ∀ (j : Nat) (u : Value), (nc e)[j]? = some u → ((wc.alloc (.cells #[.int .i64 e.client, .int .u64 e.nonce, .int .u64 e.fee, .int .i64 e.cipher] 32)).drew).cell? ((Addr.mk wc.heap.size 0 none).add j) = some u := fun j u hu => by rw [add_none, Nat.zero_add]; exact (Blk.new wc (nc e) 32).at hu
                    have none1 : ∀ u ∈ nc e, u.oneCell' = true := fun u hu => flat_one [e] u (by simpa [flat] using hu)
                    obtain ⟨i0, hi, hz0, hz1, hz2⟩ := info_parts info_env
                    go_region_law (refine step_append_own _ rfl (.tmp 99) (.tmp 101) 29 rfl (p + 1) 32 i0 (nv Env.zero) 4 32 Try.underlying29 hi hz0 hz1 hz2 rfl (by decide) v1 m1 (flat nc (L)) rfl ((ho1.alloc _).drew) ⟨wc.heap.size, 0, none⟩ 1 1 (nc e) rfl rfl news none1 (by unfold maxLen; omega) (by omega) (by simp; omega) ?_; intro v3 w3 hown3 hg3 hat3; obtain ⟨a3, c3, rfl⟩ := own_slice hown3; have hE3 : w3.heap[p]? = wc.heap[p]? := (hg3.block p (by simp; omega) (fun q => by have := own_base ho1 p q.symm; omega)).trans (Below.heap_alloc _ _ _ hpl); have c32 := (hd1.same hE3).at (i := 2) rfl; have hf3 := (hd1.same hE3).free 2)
                    all_goals
                      have hF3 : Chg (p :: v1.ownBlock.toList) wc w3 := (((Chg.refl _ wc).alloc _).drew).grown hg3 (fun k hk => .inl (by simp [hk]))
                      have hb3 := (hd1.same hE3).set 2 (.slice a3 (m1 + 1) c3)
                      have hF4 := hF3.setCell ⟨p, 2, none⟩ (.slice a3 (m1 + 1) c3) (.inl (by simp))
                      have ho3 : (w3.setCell ⟨p, 2, none⟩ (.slice a3 (m1 + 1) c3)).ownsRow (p + 1) 32 4 (.slice a3 (m1 + 1) c3) (L ++ [e]).length (flat nc (L ++ [e])) := by
                        rw [List.length_append, HM1.out, flat_append]
                        exact own_sto hown3 (fun k hk => by have := own_base hown3 k hk; show k ≠ p; omega)
                      have hat4 : ∀ k, Value.ownBlock (.slice a3 (m1 + 1) c3) = some k → k ∈ FP ∨ wc.heap.size ≤ k := fun k hk => hat3.elim (fun q => .inl (hv1 k (q ▸ hk))) (fun q => .inr (by rw [hk] at q; injection q with q; rw [q]; simp))
                      obtain ⟨FP3, hP3, hcP, hgP⟩ := HX.out.p.push hd1 hv1 hF4 hb3 ho3 hat4
                      have hX3 := HX.out.pool hP3 hcP hgP
                      have hC3 : Chg (FE ++ FP) wr (w3.setCell ⟨p, 2, none⟩ (.slice a3 (m1 + 1) c3)) := HC.out.trans' hcP (fun z hz => (HG.out z (by simp [hz])))
                      have hG3 : Grw wr.heap.size (FE ++ FP) (FE' ++ FP3) := fun z hz => by
                        rcases List.mem_append.1 hz with q | q
                        · exact HG.out z (by simp [q])
                        · rcases hgP z q with q2 | q2
                          · exact HG.out z (by simp [q2])
                          · have := HC.out.size; exact .inr (by omega)
                      go_wp2_with fail
                      go_ret
                      exact AddR.of hX3 hC3 hG3 HRR.out
      · skip
        go_wp2_with fail
        go_ret
        exact AddR.of HX.out HC.out HG.out (by rw [← HR.out]; unfold pAddV; rw [if_neg (by decide), if_pos HTK.out])
end Go.Proofs.Yteabcpmpcbjicaa
