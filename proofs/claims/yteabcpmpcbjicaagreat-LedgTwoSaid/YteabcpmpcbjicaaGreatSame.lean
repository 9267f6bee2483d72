
import Derived.Test.YteabcpmpcbjicaaGreatEntw
import Derived.Test.YteabcpmpcbjicaaGreatPlawS
import Derived.BigQuiet
import Derived.Deep.QuietTactic
namespace Go.Proofs.YteabcpmpcbjicaaGreat
set_option linter.unusedVariables false
set_option maxRecDepth 100000
open Go Go.Proofs Go.RowKit
attribute [local go_sem ↓] Go.wp_at_zero Go.wp_at_succ

theorem LedX.rebase2 {w w1 wr : World} {l n : Nat} {F : List Nat} {S : LS} {t : Nat} (h : LedX w1 wr l n F S t) (c : Chg [] w w1) : LedX w wr l n F S t := by
  obtain ⟨ab, s, fb, mb, x, kb, ns, F0, m, h, e0, e1, e2⟩ := h
  have hs := c.size
  exact ⟨ab, s, fb, mb, x, kb, ns, F0, m, ⟨h.hd, ⟨h.ex.e, h.ex.a, ⟨h.ex.b.bk, c.trans h.ex.b.c, fun z hz => by have := h.ex.b.lo z hz; omega⟩, h.ex.ne, ⟨by have := h.ex.lo.1; omega, by have := h.ex.lo.2.1; omega, by have := h.ex.lo.2.2; omega⟩, h.ex.ok⟩, h.fe, h.nx, h.nl, h.nu, h.ug, h.ne, fun z hz => ⟨(h.off z hz).1, (h.off z hz).2.1, (h.off z hz).2.2.1, (h.off z hz).2.2.2.1, by have := (h.off z hz).2.2.2.2; omega⟩⟩, e0, e1, e2⟩
theorem sameT2 {w : World} {B1 B2 : Nat} {a1 a2 : Option Addr} {c1 c2 : Nat} {T : List Trd} (h1 : NewF tc w B1 99 a1 T) (h2 : NewF tc w B2 99 a2 T) (n : Nat) (hn : T.length = n) (hm : n ≤ 1000000000000) :
    Calls Tryz.prog 86 #[.slice a1 n c1, .slice a2 n c2] w fun e w' => e = .returned (.bool true) ∧ Chg [] w w' := by
  have HN := Lib.hid hn
  clear hn
  go_enter Tryz.func86, Tryz.ntmps86
  go_wp2_with fail
  go_loopw [5] (fun i wr => ∃ j : Nat, j ≤ n ∧ i = .int .i64 j ∧ Chg [] w wr) (fun i _ => n - (intOf i).toNat)
  case atStart => exact ⟨0, by omega, rfl, Chg.refl _ _⟩
  case round =>
    obtain ⟨j, hj, rfl, hc⟩ := hrel
    by_cases hlt : j < n
    · have hl : j < T.length := by rw [HN.out]; exact hlt
      obtain ⟨g1, rfl, -, -, x0, x1, x2, x3, x4, x5⟩ := tr_at (h1.chg0 hc) hl
      obtain ⟨g2, rfl, -, -, y0, y1, y2, y3, y4, y5⟩ := tr_at (h2.chg0 hc) hl
      generalize T.getD j Trd.zero = u at *
      have i1 : (0 : Int) ≤ (j : Int) := by omega
      have i2 : (j : Int) < (n : Int) := by omega
      clear hl
      go_wp2_with fail
      go_quiet (fail)
      go_wp2_with fail
      go_roundw
      case rel => exact ⟨j + 1, by omega, by go_num, hc.drewN _⟩
      case measure => simp [intOf]; omega
    · go_wp2_with fail
      go_ret
      exact ⟨rfl, hc⟩
theorem lAct_T (n : Nat) (S : LS) (c : Int) (t : Txx) : (lAct n S c t).2.T.length ≤ S.L.length + S.M.length := by
  unfold lAct lDep lWd lTr lLim lNow lCan
  repeat' split
  all_goals first | exact Nat.zero_le _ | exact mres_len _ _ _
theorem lDo_T (n : Nat) (S : LS) (e : Ent) : (lDo n S e).2.T.length ≤ S.L.length + S.M.length := by
  have h1 : ∀ r : LS × Rcp, (lEnd n r e.client).2.T = r.2.T := fun r => by unfold lEnd; split <;> rfl
  unfold lDo
  rw [h1]
  unfold lDone
  repeat' split
  all_goals first | exact Nat.zero_le _ | exact lAct_T _ _ _ _
set_option maxHeartbeats 2000000 in
theorem same_rec {w : World} {B1 B2 : Nat} {a1 a2 : Option Addr} {c1 c2 n : Nat} {r : Rcp} (h1 : NewF tc w B1 99 a1 r.T) (h2 : NewF tc w B2 99 a2 r.T) (hn : r.T.length = n) (hm : n ≤ 1000000000) :
    Calls Tryz.prog 33 #[rcv r a1 n c1, rcv r a2 n c2] w fun y w' => y = .returned (.bool true) ∧ Chg [] w w' := by
  have b1 : Blk ((w.alloc (.cells #[.int .i64 r.code, .int .u64 r.paid, .int .i64 r.id, .slice a1 n c1] 46)).alloc (.cells #[.int .i64 r.code, .int .u64 r.paid, .int .i64 r.id, .slice a2 n c2] 46)) w.heap.size 46 [.int .i64 r.code, .int .u64 r.paid, .int .i64 r.id, .slice a1 n c1] := (Blk.new w _ _).alloc _
  have b2 : Blk ((w.alloc (.cells #[.int .i64 r.code, .int .u64 r.paid, .int .i64 r.id, .slice a1 n c1] 46)).alloc (.cells #[.int .i64 r.code, .int .u64 r.paid, .int .i64 r.id, .slice a2 n c2] 46)) (w.heap.size + 1) 46 [.int .i64 r.code, .int .u64 r.paid, .int .i64 r.id, .slice a2 n c2] := by
    have := Blk.new (w.alloc (.cells #[.int .i64 r.code, .int .u64 r.paid, .int .i64 r.id, .slice a1 n c1] 46)) [.int .i64 r.code, .int .u64 r.paid, .int .i64 r.id, .slice a2 n c2] 46
    rwa [World.size_alloc] at this
  have cA : Chg [] w ((w.alloc (.cells #[.int .i64 r.code, .int .u64 r.paid, .int .i64 r.id, .slice a1 n c1] 46)).alloc (.cells #[.int .i64 r.code, .int .u64 r.paid, .int .i64 r.id, .slice a2 n c2] 46)) := ((Chg.refl _ _).alloc _).alloc _
  have H1 := Lib.hid (h1.chg0 cA)
  have H2 := Lib.hid (h2.chg0 cA)
  have HC := Lib.hid cA
  have HN := Lib.hid hn
  clear h1 h2 cA hn
  go_enter Tryz.func33, Tryz.ntmps33
  go_upto_region 1 with (fail)
  obtain ⟨g1, hg1⟩ : ∃ g, w.heap.size = g := ⟨_, rfl⟩
  rw [hg1] at b1 b2
  (try simp only [hg1])
  clear hg1
  obtain ⟨g2, hg2⟩ : ∃ g, g1 + 1 = g := ⟨_, rfl⟩
  rw [hg2] at b2
  (try simp only [hg2])
  clear hg2
  generalize (w.alloc _).alloc _ = W at *
  have x0 := b1.at (i := 0) rfl
  have x1 := b1.at (i := 1) rfl
  have x2 := b1.at (i := 2) rfl
  have x3 := b1.at (i := 3) rfl
  have y0 := b2.at (i := 0) rfl
  have y1 := b2.at (i := 1) rfl
  have y2 := b2.at (i := 2) rfl
  have y3 := b2.at (i := 3) rfl
  go_wp2_with fail
  refine (sameT2 H1.out H2.out n HN.out (by omega)).mono ?_
  rintro y w2 ⟨rfl, c2⟩
  go_wp2_with fail
  go_ret
  exact ⟨rfl, HC.out.trans c2⟩
/-- Of two rows of bytes, whether they are the same. -/
theorem bstr_eq {l m : List Int} (hl : Byt l) (hm : Byt m) : bstr l = bstr m ↔ l = m := by
  constructor
  · intro h
    unfold bstr at h
    have h1 : (ub l).toArray = (ub m).toArray := congrArg ByteArray.data h
    exact ub_inj hl hm (by simpa using h1)
  · intro h; rw [h]
end Go.Proofs.YteabcpmpcbjicaaGreat
