import Derived.Test.YtofcphfgpnobnaaBook2
import Derived.Deep.CutBlock
import Derived.Deep.DeepCutAuto
import Derived.Deep.LoopGhost
import Derived.BigQuiet
namespace Go.Proofs.Ytofcphfgpnobnaa
set_option linter.unusedVariables false
open Go Go.Proofs Go.RowKit
attribute [local go_sem ↓] Go.wp_at_zero Go.wp_at_succ

theorem info_trd : (Try.prog.info? 61).map (fun i => (i.zero, i.size, i.bytes)) = some (some (tv Trd.zero), 6, 48) := by kernel_rfl

/-- One side of a book; the book again, when it has turned. -/
theorem Bok.side {w : World} {F : List Nat} {k : Nat} {L M : List Ord} (h : Bok w F k L M) (buy : Bool) : ∃ bq sq up, bq < w.heap.size ∧ sq < w.heap.size ∧ Que w bq sq up (if buy = true then M else L) ∧
    (buy = false → w.cell? ⟨k, 0, none⟩ = some (.pointer (some ⟨bq, 0, none⟩))) ∧ (∃ b, w.cell? ⟨k, 0, none⟩ = some (.pointer (some ⟨b, 0, none⟩))) ∧ (buy = true → w.cell? ⟨k, 1, none⟩ = some (.pointer (some ⟨bq, 0, none⟩))) ∧
    ∀ (w' : World) Q', Que w' bq sq up Q' → Chg [bq, sq] w w' → Bok w' F k (if buy = true then L else Q') (if buy = true then Q' else M) ∧ Chg F w w' := by
  obtain ⟨b1, s1, b2, s2, rfl, hb, h1, h2, n1, n2, n3, n4, n5, n6, n7, n8⟩ := h.all
  have l1 := h1.lt
  have l2 := h2.lt
  have l3 := hb.lt
  cases buy
  · refine ⟨b1, s1, false, l1.1, l1.2, h1, fun _ => hb.at (i := 0) rfl, ⟨b1, hb.at (i := 0) rfl⟩, by simp, fun w' Q' hq c => ⟨?_, c.mono (by simp)⟩⟩
    exact ⟨b1, s1, b2, s2, rfl, hb.chg c (by simp; omega), hq, h2.chg c (by simp; omega) (by simp; omega), n1, n2, n3, n4, n5, n6, n7, n8⟩
  · refine ⟨b2, s2, true, l2.1, l2.2, h2, by simp, ⟨b1, hb.at (i := 0) rfl⟩, fun _ => hb.at (i := 1) rfl, fun w' Q' hq c => ⟨?_, c.mono (by simp)⟩⟩
    exact ⟨b1, s1, b2, s2, rfl, hb.chg c (by simp; omega), h1.chg c (by simp; omega) (by simp; omega), hq, n1, n2, n3, n4, n5, n6, n7, n8⟩

def mres (o : Ord) (L M : List Ord) : List Trd × Int × List Ord := mch o o.qty (if o.buy = true then M else L)
def mL (o : Ord) (L M : List Ord) : List Ord := if o.buy = true then L else (mres o L M).2.2
def mM (o : Ord) (L M : List Ord) : List Ord := if o.buy = true then (mres o L M).2.2 else M
/-- So far: what was traded, what is left, what stands. -/
def MchIs (o : Ord) (q0 : Int) (Q0 : List Ord) (T : List Trd) (q : Int) (Q : List Ord) : Prop := mch o q0 Q0 = (T ++ (mch o q Q).1, (mch o q Q).2.1, (mch o q Q).2.2)
theorem MchIs.start (o : Ord) (q : Int) (Q : List Ord) : MchIs o q Q [] q Q := rfl
theorem MchIs.part {o : Ord} {q0 q : Int} {Q0 Q : List Ord} {T : List Trd} {x : Ord} (h : MchIs o q0 Q0 T q (x :: Q)) (hq : 0 < q) (g : meet o x = true) (k : q < x.qty) : MchIs o q0 Q0 (T ++ [trd o x q]) 0 ({ x with qty := x.qty - q } :: Q) := by
  unfold MchIs at h ⊢
  rw [h, mch_part hq g k, mch_zero]
  simp
theorem MchIs.all {o : Ord} {q0 q : Int} {Q0 Q : List Ord} {T : List Trd} {x : Ord} (h : MchIs o q0 Q0 T q (x :: Q)) (hq : 0 < q) (g : meet o x = true) (k : x.qty ≤ q) : MchIs o q0 Q0 (T ++ [trd o x x.qty]) (q - x.qty) Q := by
  unfold MchIs at h ⊢
  rw [h, mch_all hq g k]
  simp
theorem MchIs.zero {o : Ord} {q0 : Int} {Q0 Q : List Ord} {T : List Trd} (h : MchIs o q0 Q0 T 0 Q) : mch o q0 Q0 = (T, 0, Q) := by rw [show mch o q0 Q0 = _ from h, mch_zero]; simp
theorem MchIs.nil {o : Ord} {q0 q : Int} {Q0 : List Ord} {T : List Trd} (h : MchIs o q0 Q0 T q []) : mch o q0 Q0 = (T, q, []) := by rw [show mch o q0 Q0 = _ from h]; simp [mch]
theorem MchIs.no {o : Ord} {q0 q : Int} {Q0 Q : List Ord} {T : List Trd} {x : Ord} (h : MchIs o q0 Q0 T q (x :: Q)) (g : meet o x = false) : mch o q0 Q0 = (T, q, x :: Q) := by
  rw [show mch o q0 Q0 = _ from h, mch_no (by simp [g])]; simp
theorem MchIs.len {o : Ord} {q0 q : Int} {Q0 Q : List Ord} {T : List Trd} (h : MchIs o q0 Q0 T q Q) : T.length ≤ Q0.length := by
  have := (mch_len o Q0 q0).1
  rw [show mch o q0 Q0 = _ from h] at this
  simp at this
  omega

/-- What Match leaves in memory. -/
structure MchPost (w w' : World) (F : List Nat) (k : Nat) (o : Ord) (L M : List Ord) (a : Option Addr) : Prop where
  tr : NewF tc w' w.heap.size 61 a (mres o L M).1
  bk : Bok w' F k (mL o L M) (mM o L M)
  chg : Chg F w w'
theorem MchPost.of {w w' : World} {F : List Nat} {k : Nat} {o : Ord} {L M : List Ord} {a : Option Addr} {T : List Trd} {q : Int} {Q : List Ord} (h : mres o L M = (T, q, Q)) (hN : NewF tc w' w.heap.size 61 a T)
    (hb : Bok w' F k (if o.buy = true then L else Q) (if o.buy = true then Q else M) ∧ Chg F w w') : MchPost w w' F k o L M a :=
  ⟨by rw [h]; exact hN, by unfold mL mM; rw [h]; exact hb.1, hb.2⟩
/-- A round's state in memory. -/
structure MSt (w : World) (g bq sq : Nat) (up : Bool) (oi ol : Int) (ob : Bool) (op : Int) (wr : World) (v : Value) (T : List Trd) (q : Int) (Q : List Ord) : Prop where
  own : wr.ownsRow (g + 1) 61 6 v T.length (flat tc T)
  box : Blk wr g 28 (oc ⟨oi, ol, ob, op, q⟩)
  que : Que wr bq sq up Q
  chg : Chg [bq, sq] w wr
  ne : bq < g ∧ sq < g ∧ w.heap.size = g
theorem MSt.to {w : World} {g bq sq : Nat} {up : Bool} {oi ol : Int} {ob : Bool} {op : Int} {wr w' : World} {v : Value} {T : List Trd} {q : Int} {Q : List Ord} (h : MSt w g bq sq up oi ol ob op wr v T q Q) (c : Chg [] wr w') : MSt w g bq sq up oi ol ob op w' v T q Q :=
  ⟨own_chg h.own c (by simp), h.box.chg c (by simp), h.que.chg c (by simp) (by simp), h.chg.trans (c.mono (by simp)), h.ne⟩
theorem MSt.grown {w : World} {g bq sq : Nat} {up : Bool} {oi ol : Int} {ob : Bool} {op : Int} {wr w' : World} {v v' : Value} {T T' : List Trd} {q : Int} {Q : List Ord} (h : MSt w g bq sq up oi ol ob op wr v T q Q) (hg : wr.grownBy w' v.ownBlock)
    (ho : w'.ownsRow (g + 1) 61 6 v' T'.length (flat tc T')) : MSt w g bq sq up oi ol ob op w' v' T' q Q := by
  have hb := own_base h.own
  obtain ⟨n1, n2, n3⟩ := h.ne
  have c : ∀ x, x ≤ g → ∀ y, w'.heap[x]? = some y ↔ wr.heap[x]? = some y := fun x hx y => by
    rcases Nat.lt_or_ge x wr.heap.size with h1 | h1
    · rw [hg.block x h1 (fun e => by have := hb x e.symm; omega)]
    · have := h.box.lt; omega
  have cc : Chg (match v.ownBlock with | some k => [k] | none => []) wr w' := (Chg.refl _ wr).grown hg (fun k hk => by rw [hk]; simp)
  have hm : ∀ x, x ≤ g → x ∉ (match v.ownBlock with | some k => [k] | none => []) := fun x hx => by
    cases e : v.ownBlock with
    | none => simp
    | some k => have := hb k e; simp; omega
  exact ⟨ho, h.box.chg cc (hm g (by omega)), h.que.chg cc (hm _ (by omega)) (hm _ (by omega)), h.chg.grown hg (fun k hk => .inr (by have := hb k hk; omega)), h.ne⟩
theorem MSt.store {w : World} {g bq sq : Nat} {up : Bool} {oi ol : Int} {ob : Bool} {op : Int} {wr : World} {v : Value} {T : List Trd} {q : Int} {Q : List Ord} (h : MSt w g bq sq up oi ol ob op wr v T q Q) (q' : Int) : MSt w g bq sq up oi ol ob op (wr.setCell ⟨g, 4, none⟩ (.int .u64 q')) v T q' Q := by
  obtain ⟨n1, n2, n3⟩ := h.ne
  have c : Chg [g] wr (wr.setCell ⟨g, 4, none⟩ (.int .u64 q')) := (Chg.refl _ _).setCell _ _ (by simp)
  exact ⟨own_chg h.own c (by simp), h.box.set 4 _, h.que.chg c (by simp; omega) (by simp; omega), h.chg.setCell _ _ (.inr (by show _ ≤ g; omega)), h.ne⟩
theorem MSt.queue {w : World} {g bq sq : Nat} {up : Bool} {oi ol : Int} {ob : Bool} {op : Int} {wr w' : World} {v : Value} {T : List Trd} {q : Int} {Q Q' : List Ord} (h : MSt w g bq sq up oi ol ob op wr v T q Q) (hq : Que w' bq sq up Q') (c : Chg [bq, sq] wr w') : MSt w g bq sq up oi ol ob op w' v T q Q' := by
  obtain ⟨n1, n2, n3⟩ := h.ne
  exact ⟨own_chg h.own c (by simp; omega), h.box.chg c (by simp; omega), hq, h.chg.trans c, h.ne⟩

set_option maxRecDepth 100000 in
set_option maxHeartbeats 4000000 in
/-- Match. -/
theorem bMatch {w : World} {F : List Nat} {k : Nat} {L M : List Ord} (h : Bok w F k L M) {o : Ord} (ho : o.Ok) (zL : L.length < 999999999) (zM : M.length < 999999999) :
    Calls Try.prog 28 #[.pointer (some ⟨k, 0, none⟩), ov o] w fun e w' => ∃ a c, e = .returned (.tuple #[.slice a (mres o L M).1.length c, .int .u64 (mres o L M).2.1]) ∧ MchPost w w' F k o L M a := by
  obtain ⟨i0, hi, iz0, iz1, iz2⟩ := info_parts info_trd
  obtain ⟨oi, ol, ob, op, oq⟩ := o
  obtain ⟨bq, sq, up, lb, ls, hQ, hc0, ⟨bb, hc1⟩, hc2, hback⟩ := h.side ob
  have HB := Lib.hid hback
  have HR : Hid (mres ⟨oi, ol, ob, op, oq⟩ L M = mch ⟨oi, ol, ob, op, oq⟩ oq (if ob = true then M else L)) := rfl
  have HL : Hid (mL ⟨oi, ol, ob, op, oq⟩ L M = if ob = true then L else (mres ⟨oi, ol, ob, op, oq⟩ L M).2.2) := rfl
  have HM : Hid (mM ⟨oi, ol, ob, op, oq⟩ L M = if ob = true then (mres ⟨oi, ol, ob, op, oq⟩ L M).2.2 else M) := rfl
  have zQ : (if ob = true then M else L).length < 999999999 := by split <;> assumption
  generalize hQ0 : (if ob = true then M else L) = Q0 at *
  have HI : Hid (MchIs ⟨oi, ol, ob, op, oq⟩ oq Q0 [] oq Q0) := MchIs.start _ _ _
  have HO := Lib.hid ho
  obtain ⟨u1, u2⟩ := ho.qty
  dsimp only at u1 u2
  have b1 := Blk.new w (oc ⟨oi, ol, ob, op, oq⟩) 28
  have c1 := (Chg.refl [] w).alloc (.cells #[.int .i64 oi, .int .i64 ol, .bool ob, .int .u64 op, .int .u64 oq] 28)
  have hQ1 := hQ.alloc (.cells #[.int .i64 oi, .int .i64 ol, .bool ob, .int .u64 op, .int .u64 oq] 28)
  have k0 := c1.cell hc1 (by simp)
  have K0 := Lib.hid hc0
  have K1 := Lib.hid hc2
  have HC := Lib.hid c1
  clear hQ0 ho h hback hQ hc0 hc1 hc2 zL zM
  go_enter Try.func28, Try.ntmps28
  go_upto_if 16 with (fail)
  have B1 : Blk (w.alloc (.cells #[.int .i64 oi, .int .i64 ol, .bool ob, .int .u64 op, .int .u64 oq] 28)) w.heap.size 28 (oc ⟨oi, ol, ob, op, oq⟩) := b1
  clear b1
  obtain ⟨g, hg⟩ : ∃ g, w.heap.size = g := ⟨_, rfl⟩
  rw [hg] at B1 lb ls ⊢
  have HG := Lib.hid hg
  clear hg
  go_cut [6] from 17 to 20 (fun v wx => v = .pointer (some ⟨bq, 0, none⟩) ∧ w.alloc (.cells #[.int .i64 oi, .int .i64 ol, .bool ob, .int .u64 op, .int .u64 oq] 28) = wx)
  case first =>
    cases ob
    · have e := HC.out.cell (K0.out rfl) (by simp)
      rw [k0] at e
      injection e with e
      injection e with e
      injection e with e
      injection e with e
      subst e
      clear c1
      go_wp2_with fail
      go_meet
      exact ⟨rfl, rfl⟩
    · have e := HC.out.cell (K1.out rfl) (by simp)
      clear c1
      go_wp2_with fail
      go_meet
      exact ⟨rfl, rfl⟩
  case rest =>
    obtain ⟨rfl, rfl⟩ := hcut
    clear k0 K0 K1
    generalize w.alloc _ = W0 at *
    go_wp2_with fail
    have hS0 : MSt w g bq sq up oi ol ob op W0 (.slice none 0 0) [] oq Q0 := ⟨World.ownsRow_nil _ _ _ _, B1, hQ1, c1.mono (by simp), lb, ls, HG.out⟩
    clear B1 hQ1 c1 HC
    go_loopg [7] (2 * Q0.length + 1) (fun n v wr => ∃ (T : List Trd) (q : Int) (Q : List Ord), MSt w g bq sq up oi ol ob op wr v T q Q ∧ Hid (MchIs ⟨oi, ol, ob, op, oq⟩ oq Q0 T q Q) ∧ 0 ≤ q ∧ q ≤ oq ∧ Q.length ≤ Q0.length ∧ Hid (2 * Q.length + (if 0 < q then 1 else 0) ≤ n))
    case atStart => exact ⟨[], oq, Q0, hS0, HI, u1, Int.le_refl _, Nat.le_refl _, by show _ ≤ _; split <;> omega⟩
    case round =>
      clear hS0 HI
      obtain ⟨T, q, Q, hS, hI, q1, q2, q3, hn⟩ := hrel
      have hTl := hI.out.len
      by_cases h0 : 0 < q
      · cases Q with
        | nil =>
          have h4 := hS.box.at (i := 4) rfl
          have HF := Lib.hid hI.out.nil
          clear hI
          go_wp2_with fail
          refine (qPeek_nil hS.que).mono ?_
          rintro e w2 ⟨rfl, c2⟩
          have c2b := c2.alloc (.cells #[.int .i64 0, .int .i64 0, .bool false, .int .u64 0, .int .u64 0] 28)
          have hS2 := hS.to c2b
          clear hS c2 c2b h4
          go_upto_region 7 with (fail)
          generalize w2.alloc _ = W2 at *
          have z4 := hS2.box.at (i := 4) rfl
          have HST := Lib.hid hS2
          obtain ⟨a, cap, rfl, hN⟩ := own_new HST.out.own
          have HNN := Lib.hid hN
          clear hN hS2
          go_wp2_with fail
          go_quiet (fail)
          go_wp2_with fail
          have hfin : mres ⟨oi, ol, ob, op, oq⟩ L M = (T, q, []) := HR.out.trans HF.out
          have hret : Ending.returned (.tuple #[.slice a T.length cap, .int .u64 q]) = Ending.returned (.tuple #[.slice a (mres ⟨oi, ol, ob, op, oq⟩ L M).1.length cap, .int .u64 (mres ⟨oi, ol, ob, op, oq⟩ L M).2.1]) := by rw [hfin]
          have hpost := MchPost.of (F := F) (k := k) hfin (by rw [HG.out]; exact (HNN.out.mono (Nat.le_succ g)).chg0 ((Chg.refl [] _).drewN nq)) (HB.out _ _ (HST.out.que.drewN nq) (HST.out.chg.drewN nq))
          go_ret2
          exact ⟨a, cap, hret, hpost⟩
        | cons x Q =>
          have hx := hS.que.ok x (by simp)
          obtain ⟨x1, x2⟩ := hx.qty
          have h4 := hS.box.at (i := 4) rfl
          go_wp2_with fail
          refine (qPeek_cons hS.que).mono ?_
          rintro e w2 ⟨rfl, c2⟩
          have c2b := c2.alloc (.cells #[.int .i64 x.id, .int .i64 x.client, .bool x.buy, .int .u64 x.price, .int .u64 x.qty] 28)
          have hBX : Blk (w2.alloc (.cells #[.int .i64 x.id, .int .i64 x.client, .bool x.buy, .int .u64 x.price, .int .u64 x.qty] 28)) w2.heap.size 28 (oc x) := Blk.new w2 (oc x) 28
          have hS2 := hS.to c2b
          have hgx : g < w2.heap.size := by have := c2.size; have := hS.box.lt; omega
          have hog := Lib.hid fun k hk => Nat.lt_of_lt_of_le (hS.own.lt k hk).2 c2.size
          clear hS c2 c2b h4
          go_upto_region 7 with (fail)
          generalize w2.heap.size = gx at *
          generalize w2.alloc _ = W2 at *
          have b0 := hS2.box.at (i := 0) rfl
          have b1 := hS2.box.at (i := 1) rfl
          have b2 := hS2.box.at (i := 2) rfl
          have b3 := hS2.box.at (i := 3) rfl
          have b4 := hS2.box.at (i := 4) rfl
          have y0 := hBX.at (i := 0) rfl
          have y1 := hBX.at (i := 1) rfl
          have y2 := hBX.at (i := 2) rfl
          have y3 := hBX.at (i := 3) rfl
          have y4 := hBX.at (i := 4) rfl
          cases hmt : meet ⟨oi, ol, ob, op, oq⟩ x with
          | false =>
            have HMT : Hid (meet ⟨oi, ol, ob, op, q⟩ x = false) := hmt
            have HF := Lib.hid (hI.out.no hmt)
            clear hI hmt
            go_wp2_with fail
            refine (bMeets ⟨oi, ol, ob, op, q⟩ x _).mono ?_
            rw [HMT.out]
            rintro e w3 ⟨rfl, c3⟩
            have hS3 := hS2.to c3
            clear hS2 c3 b0 b1 b2 b3 b4 y0 y1 y2 y3 y4 hBX
            have z4 := hS3.box.at (i := 4) rfl
            have HST := Lib.hid hS3
            obtain ⟨a, cap, rfl, hN⟩ := own_new HST.out.own
            have HNN := Lib.hid hN
            clear hN hS3
            go_wp2_with fail
            go_quiet (fail)
            go_wp2_with fail
            have hfin : mres ⟨oi, ol, ob, op, oq⟩ L M = (T, q, (x :: Q)) := HR.out.trans HF.out
            have hret : Ending.returned (.tuple #[.slice a T.length cap, .int .u64 q]) = Ending.returned (.tuple #[.slice a (mres ⟨oi, ol, ob, op, oq⟩ L M).1.length cap, .int .u64 (mres ⟨oi, ol, ob, op, oq⟩ L M).2.1]) := by rw [hfin]
            have hpost := MchPost.of (F := F) (k := k) hfin (by rw [HG.out]; exact (HNN.out.mono (Nat.le_succ g)).chg0 ((Chg.refl [] _).drewN nq)) (HB.out _ _ (HST.out.que.drewN nq) (HST.out.chg.drewN nq))
            go_ret2
            exact ⟨a, cap, hret, hpost⟩
          | true =>
            by_cases hlt : q < x.qty
            · have HI2 := Lib.hid (hI.out.part h0 hmt hlt)
              clear hI
              obtain ⟨t, ht⟩ : ∃ t, trd ⟨oi, ol, ob, op, oq⟩ x q = t := ⟨_, rfl⟩
              have HTT : Hid (trd ⟨oi, ol, ob, op, q⟩ x q = t) := ht
              have HT := Lib.hid ht
              have HMT : Hid (meet ⟨oi, ol, ob, op, q⟩ x = true) := hmt
              have HMQ := Lib.hid hmt
              clear hmt ht
              go_wp2_with fail
              refine (bMeets ⟨oi, ol, ob, op, q⟩ x _).mono ?_
              rw [HMT.out]
              rintro e w3 ⟨rfl, c3⟩
              have hS3 := hS2.to c3
              have hB3 := hBX.chg c3 (by simp)
              clear hS2 c3 b0 b1 b2 b3 b4 y0 y1 y2 y3 y4 hBX
              have b0 := hS3.box.at (i := 0) rfl
              have b1 := hS3.box.at (i := 1) rfl
              have b2 := hS3.box.at (i := 2) rfl
              have b3 := hS3.box.at (i := 3) rfl
              have b4 := hS3.box.at (i := 4) rfl
              have y0 := hB3.at (i := 0) rfl
              have y1 := hB3.at (i := 1) rfl
              have y2 := hB3.at (i := 2) rfl
              have y3 := hB3.at (i := 3) rfl
              have y4 := hB3.at (i := 4) rfl
              go_wp2_with fail
              refine (bTrade ⟨oi, ol, ob, op, q⟩ x q _).mono ?_
              rw [HTT.out]
              rintro e w4 ⟨rfl, c4⟩
              have hS4 := hS3.to c4
              have hB4 := hB3.chg c4 (by simp)
              clear hS3 c4 b0 b1 b2 b3 b4 y0 y1 y2 y3 y4 hB3
              have hown := hS4.own
              go_wp2_with (at_builtin; refine wpList_append_own _ rfl (.tmp 42) (.tmp 47) 57 rfl (g + 1) 61 i0 (tv Trd.zero) 6 48 Try.underlying57 hi iz0 iz1 iz2 rfl (by decide) _ _ _ rfl (hown.alloc _) ⟨w4.heap.size, 0, none⟩ 1 1 (tc t) rfl rfl ?c1 ?c2 ?c3 ?c4 ?c5 ?_)
              case c1 => exact news_new w4 _ _
              case c2 => simp [tc, Value.oneCell']
              case c3 => unfold maxLen; omega
              case c4 => omega
              case c5 => have := hS4.box.lt; simp; omega
              intro v' w5 hown1 hg1 _
              rw [← flat_snoc] at hown1
              have c5 := (Chg.refl [] w4).alloc (.cells #[.int .i64 t.maker, .int .i64 t.taker, .int .i64 t.buyer, .int .i64 t.seller, .int .u64 t.price, .int .u64 t.qty] 61)
              have hB5 : Blk w5 gx 28 (oc x) := (hB4.chg c5 (by simp)).grown hg1 (fun e => by have := hog.out _ e; omega)
              have hS5 : MSt w g bq sq up oi ol ob op w5 v' (T ++ [t]) q (x :: Q) := (hS4.to c5).grown hg1 (by simpa using hown1)
              clear hS4 hB4 hown hown1 hg1 c5
              have b4 := hS5.box.at (i := 4) rfl
              have f4 := hS5.box.free 4
              have HI3 : Hid (MchIs ⟨oi, ol, ob, op, oq⟩ oq Q0 (T ++ [t]) 0 ({ x with qty := x.qty - q } :: Q)) := by have := HI2.out; rwa [HT.out] at this
              have HCQ : Hid (cutQ q (x :: Q) = { x with qty := x.qty - q } :: Q) := by show _ = _; rw [cutQ_cons, if_pos (by omega)]
              have hS6 := hS5.store 0
              have hB6 := hB5.put ⟨g, 4, none⟩ (.int .u64 0) (by show gx ≠ g; omega)
              clear hS5 hB5 HI2
              go_wp2_with fail
              generalize w5.setCell _ _ = W6 at *
              refine (qCut hS6.que q ⟨by omega, by omega⟩).mono ?_
              rw [HCQ.out]
              rintro e w7 ⟨rfl, hq7, c7⟩
              have hS7 := hS6.queue hq7 (c7.mono (by simp))
              have hB7 := hB6.chg c7 (by simp; have := hS6.ne; omega)
              have y4 := hB7.at (i := 4) rfl
              clear hS6 hB6 hq7 c7
              have hne : (q == x.qty) = false := beq_eq_false_iff_ne.2 (by omega)
              go_wp2_with fail
              go_roundg (gk - 1)
              case measure => have := hn.out; simp at this; omega
              case rel => exact ⟨T ++ [t], 0, _, hS7, HI3, by omega, by omega, by simpa using q3, by have := hn.out; rw [if_pos h0] at this; show _ ≤ _; simp at this ⊢; omega⟩
            · rcases (by omega : q = x.qty ∨ x.qty < q) with rfl | hgt
              · have HI2 := Lib.hid (hI.out.all h0 hmt (by omega))
                clear hI
                obtain ⟨t, ht⟩ : ∃ t, trd ⟨oi, ol, ob, op, oq⟩ x x.qty = t := ⟨_, rfl⟩
                have HTT : Hid (trd ⟨oi, ol, ob, op, x.qty⟩ x x.qty = t) := ht
                have HT := Lib.hid ht
                have HMT : Hid (meet ⟨oi, ol, ob, op, x.qty⟩ x = true) := hmt
                have HMQ := Lib.hid hmt
                clear hmt ht
                go_wp2_with fail
                refine (bMeets ⟨oi, ol, ob, op, x.qty⟩ x _).mono ?_
                rw [HMT.out]
                rintro e w3 ⟨rfl, c3⟩
                have hS3 := hS2.to c3
                have hB3 := hBX.chg c3 (by simp)
                clear hS2 c3 b0 b1 b2 b3 b4 y0 y1 y2 y3 y4 hBX
                have b0 := hS3.box.at (i := 0) rfl
                have b1 := hS3.box.at (i := 1) rfl
                have b2 := hS3.box.at (i := 2) rfl
                have b3 := hS3.box.at (i := 3) rfl
                have b4 := hS3.box.at (i := 4) rfl
                have y0 := hB3.at (i := 0) rfl
                have y1 := hB3.at (i := 1) rfl
                have y2 := hB3.at (i := 2) rfl
                have y3 := hB3.at (i := 3) rfl
                have y4 := hB3.at (i := 4) rfl
                go_wp2_with fail
                refine (bTrade ⟨oi, ol, ob, op, x.qty⟩ x x.qty _).mono ?_
                rw [HTT.out]
                rintro e w4 ⟨rfl, c4⟩
                have hS4 := hS3.to c4
                have hB4 := hB3.chg c4 (by simp)
                clear hS3 c4 b0 b1 b2 b3 b4 y0 y1 y2 y3 y4 hB3
                have hown := hS4.own
                go_wp2_with (at_builtin; refine wpList_append_own _ rfl (.tmp 42) (.tmp 47) 57 rfl (g + 1) 61 i0 (tv Trd.zero) 6 48 Try.underlying57 hi iz0 iz1 iz2 rfl (by decide) _ _ _ rfl (hown.alloc _) ⟨w4.heap.size, 0, none⟩ 1 1 (tc t) rfl rfl ?c1 ?c2 ?c3 ?c4 ?c5 ?_)
                case c1 => exact news_new w4 _ _
                case c2 => simp [tc, Value.oneCell']
                case c3 => unfold maxLen; omega
                case c4 => omega
                case c5 => have := hS4.box.lt; simp; omega
                intro v' w5 hown1 hg1 _
                rw [← flat_snoc] at hown1
                have c5 := (Chg.refl [] w4).alloc (.cells #[.int .i64 t.maker, .int .i64 t.taker, .int .i64 t.buyer, .int .i64 t.seller, .int .u64 t.price, .int .u64 t.qty] 61)
                have hB5 : Blk w5 gx 28 (oc x) := (hB4.chg c5 (by simp)).grown hg1 (fun e => by have := hog.out _ e; omega)
                have hS5 : MSt w g bq sq up oi ol ob op w5 v' (T ++ [t]) x.qty (x :: Q) := (hS4.to c5).grown hg1 (by simpa using hown1)
                clear hS4 hB4 hown hown1 hg1 c5
                have b4 := hS5.box.at (i := 4) rfl
                have f4 := hS5.box.free 4
                have HI3 : Hid (MchIs ⟨oi, ol, ob, op, oq⟩ oq Q0 (T ++ [t]) 0 Q) := by have := HI2.out; rwa [HT.out, Int.sub_self] at this
                have HCQ : Hid (cutQ x.qty (x :: Q) = { x with qty := x.qty - x.qty } :: Q) := by show _ = _; rw [cutQ_cons, if_pos (by omega)]
                have hS6 := hS5.store 0
                have hB6 := hB5.put ⟨g, 4, none⟩ (.int .u64 0) (by show gx ≠ g; omega)
                clear hS5 hB5 HI2
                go_wp2_with fail
                generalize w5.setCell _ _ = W6 at *
                refine (qCut hS6.que x.qty ⟨by omega, by omega⟩).mono ?_
                rw [HCQ.out]
                rintro e w7 ⟨rfl, hq7, c7⟩
                have hS7 := hS6.queue hq7 (c7.mono (by simp))
                have hB7 := hB6.chg c7 (by simp; have := hS6.ne; omega)
                have y4 := hB7.at (i := 4) rfl
                clear hS6 hB6 hq7 c7
                go_wp2_with fail
                refine (qPop_cons hS7.que (by simp at q3; omega)).mono ?_
                rintro e w8 ⟨rfl, hq8, c8⟩
                have hS8 := hS7.queue hq8 c8
                clear hS7 hq8 c8 hB7 y4
                go_wp2_with fail
                go_roundg (gk - 1)
                case measure => have := hn.out; simp at this; omega
                case rel => exact ⟨T ++ [t], 0, Q, hS8, HI3, by omega, by omega, by simp at q3; omega, by have := hn.out; rw [if_pos h0] at this; show _ ≤ _; simp at this ⊢; (first | omega | (split <;> omega))⟩
              · have HI2 := Lib.hid (hI.out.all h0 hmt (by omega))
                clear hI
                obtain ⟨t, ht⟩ : ∃ t, trd ⟨oi, ol, ob, op, oq⟩ x x.qty = t := ⟨_, rfl⟩
                have HTT : Hid (trd ⟨oi, ol, ob, op, q⟩ x x.qty = t) := ht
                have HT := Lib.hid ht
                have HMT : Hid (meet ⟨oi, ol, ob, op, q⟩ x = true) := hmt
                have HMQ := Lib.hid hmt
                clear hmt ht
                go_wp2_with fail
                refine (bMeets ⟨oi, ol, ob, op, q⟩ x _).mono ?_
                rw [HMT.out]
                rintro e w3 ⟨rfl, c3⟩
                have hS3 := hS2.to c3
                have hB3 := hBX.chg c3 (by simp)
                clear hS2 c3 b0 b1 b2 b3 b4 y0 y1 y2 y3 y4 hBX
                have b0 := hS3.box.at (i := 0) rfl
                have b1 := hS3.box.at (i := 1) rfl
                have b2 := hS3.box.at (i := 2) rfl
                have b3 := hS3.box.at (i := 3) rfl
                have b4 := hS3.box.at (i := 4) rfl
                have y0 := hB3.at (i := 0) rfl
                have y1 := hB3.at (i := 1) rfl
                have y2 := hB3.at (i := 2) rfl
                have y3 := hB3.at (i := 3) rfl
                have y4 := hB3.at (i := 4) rfl
                go_wp2_with fail
                refine (bTrade ⟨oi, ol, ob, op, q⟩ x x.qty _).mono ?_
                rw [HTT.out]
                rintro e w4 ⟨rfl, c4⟩
                have hS4 := hS3.to c4
                have hB4 := hB3.chg c4 (by simp)
                clear hS3 c4 b0 b1 b2 b3 b4 y0 y1 y2 y3 y4 hB3
                have hown := hS4.own
                go_wp2_with (at_builtin; refine wpList_append_own _ rfl (.tmp 42) (.tmp 47) 57 rfl (g + 1) 61 i0 (tv Trd.zero) 6 48 Try.underlying57 hi iz0 iz1 iz2 rfl (by decide) _ _ _ rfl (hown.alloc _) ⟨w4.heap.size, 0, none⟩ 1 1 (tc t) rfl rfl ?c1 ?c2 ?c3 ?c4 ?c5 ?_)
                case c1 => exact news_new w4 _ _
                case c2 => simp [tc, Value.oneCell']
                case c3 => unfold maxLen; omega
                case c4 => omega
                case c5 => have := hS4.box.lt; simp; omega
                intro v' w5 hown1 hg1 _
                rw [← flat_snoc] at hown1
                have c5 := (Chg.refl [] w4).alloc (.cells #[.int .i64 t.maker, .int .i64 t.taker, .int .i64 t.buyer, .int .i64 t.seller, .int .u64 t.price, .int .u64 t.qty] 61)
                have hB5 : Blk w5 gx 28 (oc x) := (hB4.chg c5 (by simp)).grown hg1 (fun e => by have := hog.out _ e; omega)
                have hS5 : MSt w g bq sq up oi ol ob op w5 v' (T ++ [t]) q (x :: Q) := (hS4.to c5).grown hg1 (by simpa using hown1)
                clear hS4 hB4 hown hown1 hg1 c5
                have b4 := hS5.box.at (i := 4) rfl
                have f4 := hS5.box.free 4
                have HI3 : Hid (MchIs ⟨oi, ol, ob, op, oq⟩ oq Q0 (T ++ [t]) (q - x.qty) Q) := by have := HI2.out; rwa [HT.out] at this
                have HCQ : Hid (cutQ x.qty (x :: Q) = { x with qty := x.qty - x.qty } :: Q) := by show _ = _; rw [cutQ_cons, if_pos (by omega)]
                have hS6 := hS5.store (q - x.qty)
                have hB6 := hB5.put ⟨g, 4, none⟩ (.int .u64 (q - x.qty)) (by show gx ≠ g; omega)
                clear hS5 hB5 HI2
                go_wp2_with fail
                generalize w5.setCell _ _ = W6 at *
                refine (qCut hS6.que x.qty ⟨by omega, by omega⟩).mono ?_
                rw [HCQ.out]
                rintro e w7 ⟨rfl, hq7, c7⟩
                have hS7 := hS6.queue hq7 (c7.mono (by simp))
                have hB7 := hB6.chg c7 (by simp; have := hS6.ne; omega)
                have y4 := hB7.at (i := 4) rfl
                clear hS6 hB6 hq7 c7
                go_wp2_with fail
                refine (qPop_cons hS7.que (by simp at q3; omega)).mono ?_
                rintro e w8 ⟨rfl, hq8, c8⟩
                have hS8 := hS7.queue hq8 c8
                clear hS7 hq8 c8 hB7 y4
                go_wp2_with fail
                go_roundg (gk - 1)
                case measure => have := hn.out; simp at this; omega
                case rel => exact ⟨T ++ [t], q - x.qty, Q, hS8, HI3, by omega, by omega, by simp at q3; omega, by have := hn.out; rw [if_pos h0] at this; show _ ≤ _; simp at this ⊢; (first | omega | (split <;> omega))⟩
      · obtain rfl : q = 0 := by omega
        have HF := Lib.hid hI.out.zero
        clear hI
        have z4 := hS.box.at (i := 4) rfl
        have HST := Lib.hid hS
        obtain ⟨a, cap, rfl, hN⟩ := own_new HST.out.own
        have HNN := Lib.hid hN
        clear hN hS
        go_wp2_with fail
        go_quiet (fail)
        go_wp2_with fail
        have hfin : mres ⟨oi, ol, ob, op, oq⟩ L M = (T, 0, Q) := HR.out.trans HF.out
        have hret : Ending.returned (.tuple #[.slice a T.length cap, .int .u64 0]) = Ending.returned (.tuple #[.slice a (mres ⟨oi, ol, ob, op, oq⟩ L M).1.length cap, .int .u64 (mres ⟨oi, ol, ob, op, oq⟩ L M).2.1]) := by rw [hfin]
        have hpost := MchPost.of (F := F) (k := k) hfin (by rw [HG.out]; exact (HNN.out.mono (Nat.le_succ g)).chg0 ((Chg.refl [] _).drewN nq)) (HB.out _ _ (HST.out.que.drewN nq) (HST.out.chg.drewN nq))
        go_ret2
        exact ⟨a, cap, hret, hpost⟩
end Go.Proofs.Ytofcphfgpnobnaa
