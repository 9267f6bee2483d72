
import Derived.Test.YteabcpmpcbjicaaPool8
namespace Go.Proofs.Yteabcpmpcbjicaa
set_option linter.unusedVariables false
set_option maxRecDepth 100000
open Go Go.Proofs Go.RowKit Go.Maps
attribute [local go_sem ↓] Go.wp_at_zero Go.wp_at_succ

/-! What is made is signed, and stays so. -/
theorem eIns_mem (T : List Env) (e : Env) : e ∈ eIns T e := by unfold eIns; split <;> simp_all
theorem eIns_in {T : List Env} {e : Env} (h : e ∈ T) : eIns T e = T := by unfold eIns; rw [if_pos h]
theorem eIns_sub {T : List Env} {e x : Env} (h : x ∈ T) : x ∈ eIns T e := by unfold eIns; split <;> simp_all
theorem ePos_ins {T : List Env} {e x : Env} (h : x ∈ T) : ePos (eIns T e) x = ePos T x := by
  unfold ePos
  rw [if_pos h, if_pos (eIns_sub h)]
  unfold eIns
  split
  · rfl
  · rw [List.idxOf_append, if_pos h]
structure Known (W : WS) (e : Env) : Prop where
  mem : e ∈ W.T
  sg : sgnd W e = true
theorem sgnd_iff {W : WS} {e : Env} (h : e ∈ W.T) : sgnd W e = decide (1000 + e.client ∈ W.f (ePos W.T e)) := by unfold sgnd; rw [eIns_in h]
theorem mem_updL {f : Int → List Int} {d w x y : Int} (h : y ∈ f x) : y ∈ updL f d w x := by
  unfold updL
  split
  · exact mem_sadd.2 (.inl h)
  · exact h
theorem Known.new (W : WS) (e : Env) (sb : Nat) : Known (mkW W e sb) e := by
  have h : e ∈ (mkW W e sb).T := eIns_mem W.T e
  refine ⟨h, ?_⟩
  rw [sgnd_iff h]
  refine decide_eq_true ?_
  show 1000 + e.client ∈ updL W.f (ePos (eIns W.T e) e) (1000 + e.client) (ePos (eIns W.T e) e)
  unfold updL
  rw [if_pos rfl]
  exact mem_sadd.2 (.inr rfl)
theorem Known.make {W : WS} {x : Env} (h : Known W x) (e : Env) (sb : Nat) : Known (mkW W e sb) x := by
  have hm : x ∈ (mkW W e sb).T := eIns_sub h.mem
  refine ⟨hm, ?_⟩
  have h1 := h.sg
  rw [sgnd_iff h.mem] at h1
  rw [sgnd_iff hm]
  refine decide_eq_true ?_
  show 1000 + x.client ∈ updL W.f (ePos (eIns W.T e) e) (1000 + e.client) (ePos (eIns W.T e) x)
  rw [ePos_ins h.mem]
  exact mem_updL (of_decide_eq_true h1)
theorem Known.ins {W : WS} {x : Env} (h : Known W x) (e : Env) : Known { W with T := eIns W.T e } x := by
  have hm : x ∈ ({ W with T := eIns W.T e } : WS).T := eIns_sub h.mem
  refine ⟨hm, ?_⟩
  have h1 := h.sg
  rw [sgnd_iff h.mem] at h1
  rw [sgnd_iff hm]
  refine decide_eq_true ?_
  show 1000 + x.client ∈ W.f (ePos (eIns W.T e) x)
  rw [ePos_ins h.mem]
  exact of_decide_eq_true h1
theorem ws_in {W : WS} {e : Env} (h : e ∈ W.T) : ({ W with T := eIns W.T e } : WS) = W := by rw [eIns_in h]
theorem envEq_iff (x y : Env) : x = y ↔ x.client = y.client ∧ x.nonce = y.nonce ∧ x.fee = y.fee ∧ x.cipher = y.cipher := by
  cases x; cases y; simp
set_option maxHeartbeats 4000000 in
/-- Two rows of envelopes are the same. -/
theorem envSame {w : World} {a b : Option Addr} {n m c d : Nat} {L M : List Env} (hn : L.length = n) (hm : M.length = m) (hb : n ≤ 1000000) (hb2 : m ≤ 1000000) (ha : Nsl w a c L) (hbb : Nsl w b d M) (heq : L = M) :
    Calls Try.prog 65 #[.slice a n c, .slice b m d] w fun y w' => y = .returned (.bool true) ∧ Chg [] w w' := by
  have hnm : n = m := by rw [← hn, ← hm, heq]
  subst hnm
  have HA := Lib.hid ha
  have HB := Lib.hid hbb
  have HN := Lib.hid hn
  have HEQ := Lib.hid heq
  have d0 : ((n : Int) != (n : Int)) = false := by simp
  clear ha hbb hn hm heq
  go_enter Try.func65, Try.ntmps65
  go_wp2_with fail
  go_loopw [5] (fun i wr => ∃ j : Nat, j ≤ n ∧ i = .int .i64 j ∧ Hid (Chg [] w wr)) (fun i _ => n - (intOf i).toNat)
  case atStart => exact ⟨0, by omega, rfl, Chg.refl _ _⟩
  case round =>
    obtain ⟨j, hj, rfl, HC⟩ := hrel
    by_cases hlt : j < n
    · have hjL : j < L.length := by rw [HN.out]; exact hlt
      have i1 : (0 : Int) ≤ (j : Int) := by omega
      have i2 : (j : Int) < (n : Int) := by omega
      have i3 : (j : Int) < 1000000 := by omega
      obtain ⟨g1, rfl, r1⟩ := nsl_at HA.out hjL
      obtain ⟨g2, rfl, r2⟩ := nsl_at HB.out (by rw [← HEQ.out]; exact hjL)
      rw [← HEQ.out] at r2
      obtain ⟨c0, c1, c2, c3⟩ := Nrow.at (Beg.chg r1 HC.out (by simp)) hjL
      obtain ⟨e0, e1, e2, e3⟩ := Nrow.at (Beg.chg r2 HC.out (by simp)) hjL
      generalize L.getD j Env.zero = x at *
      clear r1 r2 hjL hlt
      go_upto_region 6 with (fail)
      go_quiet (fail)
      have HC2 := Lib.hid (HC.out.drewN nq)
      clear HC c0 c1 c2 c3 e0 e1 e2 e3
      go_wp2_with fail
      go_roundw
      case rel => exact ⟨j + 1, by omega, by go_num, HC2⟩
      case measure => simp [intOf]; omega
    · have e9 : n = j := by omega
      subst e9
      go_wp2_with fail
      go_ret
      exact ⟨rfl, HC.out⟩
end Go.Proofs.Yteabcpmpcbjicaa
