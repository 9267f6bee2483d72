
import Derived.Test.YteabcpmpcbjicaaGreatSta
import Derived.Test.YteabcpmpcbjicaaGreatTerm
import Derived.Test.YteabcpmpcbjicaaGreatAwake12
namespace Go.Proofs.YteabcpmpcbjicaaGreat
set_option linter.unusedVariables false
set_option maxRecDepth 100000
open Go Go.Proofs Go.RowKit
attribute [local go_sem ↓] Go.wp_at_zero Go.wp_at_succ

theorem stB_byt (n : Nat) (S : LS) : Byt (stB n S) := by
  have ho : ∀ L : List Ord, Byt (L.flatMap onum) := fun L x hx => by
    obtain ⟨o, _, hx⟩ := List.mem_flatMap.1 hx
    unfold onum at hx
    simp only [List.mem_append] at hx
    rcases hx with ((h | h) | h) | h <;> exact num8_byt _ x h
  unfold stB
  refine byt_append (byt_append (byt_append ?_ ?_) ?_) ?_
  · intro x hx
    unfold cliB at hx
    obtain ⟨j, _, hx⟩ := List.mem_flatMap.1 hx
    unfold cnum at hx
    simp only [List.mem_append] at hx
    rcases hx with (h | h) | h <;> exact num8_byt _ x h
  · intro x hx
    unfold midB at hx
    simp only [List.mem_append] at hx
    rcases hx with ((((h | h) | h) | h) | h) | h <;> exact num8_byt _ x h
  · exact byt_append (num8_byt _) (ho _)
  · exact byt_append (num8_byt _) (ho _)
/-- string(l.State()) where it was told. -/
theorem st_str {w : World} {n : Nat} {S : LS} {gg c : Nat} (h : Beg w gg 5 (bys (stB n S))) : (convert 95 9 (.slice (some ⟨gg, 0, none⟩) (stB n S).length c)).run Tryz.prog w = .ok (.string (bstr (stB n S))) w := conv_str (stB_byt n S) rfl h
/-- A row of trades, whatever they are. -/
def RowT (w : World) (g : Nat) (a : Option Addr) (n : Nat) : Prop := n = 0 ∨ (a = some ⟨g, 0, none⟩ ∧ ∃ c, Beg w g 99 c ∧ c.length = n * 6)
theorem RowT.chg {w w' : World} {g : Nat} {a : Option Addr} {n : Nat} {S : List Nat} (h : RowT w g a n) (c : Chg S w w') (hg : g ∉ S) : RowT w' g a n :=
  h.imp id fun ⟨e, r, hb, hl⟩ => ⟨e, r, hb.chg c hg, hl⟩
theorem RowT.at {w : World} {g : Nat} {a : Option Addr} {n : Nat} (h : RowT w g a n) {k j : Nat} (hk : k < n) (hj : j < 6) : a = some ⟨g, 0, none⟩ ∧ (∃ v, w.cell? ⟨g, k * 6 + j, none⟩ = some v) ∧ w.frozen? ⟨g, k * 6 + j, none⟩ = false ∧ ∀ v, RowT (w.setCell ⟨g, k * 6 + j, none⟩ v) g a n ∧ Chg [g] w (w.setCell ⟨g, k * 6 + j, none⟩ v) := by
  rcases h with h | ⟨e, c, hb, hl⟩
  · omega
  · have hi : k * 6 + j < c.length := by omega
    refine ⟨e, ⟨c[k * 6 + j], hb.at (by simp [hi])⟩, hb.free _, fun v => ⟨.inr ⟨e, _, hb.set (k * 6 + j) v hi, by simp [hl]⟩, (Chg.refl [g] w).setCell _ _ (by simp)⟩⟩
theorem NewF.rowt {w : World} {B : Nat} {a : Option Addr} {T : List Trd} (h : NewF tc w B 99 a T) (g0 : Nat) : ∃ g, RowT w g a T.length ∧ (g = g0 ∨ (B ≤ g ∧ g < w.heap.size)) := by
  rcases h with h | ⟨g, e, hB, hb⟩
  · exact ⟨g0, .inl (by rw [h]; rfl), .inl rfl⟩
  · exact ⟨g, .inr ⟨e, _, hb, flat_len (c := tc) (fun _ => rfl) T⟩, .inr ⟨hB, hb.lt⟩⟩
theorem Blk.notT {w : World} {b : Nat} {T T' : TypeId} {c : List Value} (h : Blk w b T c) (hT : T ≠ T') : ∀ cur fr, w.heap[b]? ≠ some (.cells cur T' fr) := fun cur fr e => by
  have := h.symm.trans e
  injection this with this
  injection this with _ this
  exact hT this
theorem Beg.notT {w : World} {b : Nat} {T T' : TypeId} {c : List Value} (h : Beg w b T c) (hT : T ≠ T') : ∀ cur fr, w.heap[b]? ≠ some (.cells cur T' fr) := h.elim fun _ k => Blk.notT k hT
theorem MapU.notT {w : World} {b n : Nat} {f : Int → Int} (h : MapU w b n f) (T' : TypeId) : ∀ cur fr, w.heap[b]? ≠ some (.cells cur T' fr) := fun cur fr e => by
  obtain ⟨D, _, ⟨es, cl, h2, _⟩, _⟩ := h
  have := h2.symm.trans e
  injection this with this
  cases this
theorem Que.typed {w : World} {b s : Nat} {up : Bool} {L : List Ord} (h : Que w b s up L) {T : TypeId} (h1 : 231 ≠ T) (h2 : 73 ≠ T) : ∃ s', Que w b s' up L ∧ (s' = s ∨ s' = b) ∧ (∀ cur fr, w.heap[b]? ≠ some (.cells cur T fr)) ∧ ∀ cur fr, w.heap[s']? ≠ some (.cells cur T fr) := by
  obtain ⟨l, r, k1, k2⟩ := h.row
  rcases r.mem with ⟨e1, e2⟩ | ⟨cap, sp, e1, e2, e3, e4⟩
  · exact ⟨b, ⟨h.ids, h.srt, l, ⟨r.ok, e1.lt, .inl ⟨e1, e2⟩⟩, k1, k2⟩, .inr rfl, e1.notT h1, e1.notT h1⟩
  · exact ⟨s, h, .inl rfl, e2.notT h1, e3.notT h2⟩
/-- No block of a ledger is one of trades. -/
theorem LedX.typed {w wr : World} {l n : Nat} {F : List Nat} {S : LS} {t : Nat} (h : LedX w wr l n F S t) : ∃ F', LedX w wr l n F' S t ∧ (∀ z ∈ F', z ∈ F) ∧ ∀ z ∈ F', ∀ cur fr, wr.heap[z]? ≠ some (.cells cur 99 fr) := by
  obtain ⟨ab, s, fb, mb, x, kb, ns, F0, m, h, rfl, e2⟩ := h
  obtain ⟨b1, s1, b2, s2, rfl, hb, q1, q2, n1, n2, n3, n4, n5, n6, n7, n8⟩ := h.ex.b.bk.all
  obtain ⟨t1, u1, v1, w1, y1⟩ := q1.typed (T := 99) (by decide) (by decide)
  obtain ⟨t2, u2, v2, w2, y2⟩ := q2.typed (T := 99) (by decide) (by decide)
  have hsub : ∀ z ∈ [kb, b1, t1, b2, t2], z ∈ [kb, b1, s1, b2, s2] := fun z hz => by
    simp only [List.mem_cons, List.not_mem_nil, or_false] at hz ⊢
    rcases hz with e | e | e | e | e
    · simp [e]
    · simp [e]
    · rcases v1 with e3 | e3 <;> simp [e, e3]
    · simp [e]
    · rcases v2 with e3 | e3 <;> simp [e, e3]
  have hbk : Bok wr [kb, b1, t1, b2, t2] kb S.L S.M := ⟨b1, t1, b2, t2, rfl, hb, u1, u2, n1, by rcases v1 with e | e <;> omega, n3, by rcases v2 with e | e <;> omega, n5, by rcases v2 with e | e <;> omega, by rcases v1 with e | e <;> omega, by rcases v1 with e | e <;> rcases v2 with e3 | e3 <;> omega⟩
  have hex : Exc w wr x ab s kb n [kb, b1, t1, b2, t2] S.xs S.L S.M S.k := ⟨h.ex.e, h.ex.a, ⟨hbk, h.ex.b.c, fun z hz => h.ex.b.lo z (hsub z hz)⟩, ⟨h.ex.ne.1, fun hm => h.ex.ne.2.1 (hsub _ hm), fun hm => h.ex.ne.2.2.1 (hsub _ hm), fun hm => h.ex.ne.2.2.2.1 (hsub _ hm), h.ex.ne.2.2.2.2⟩, h.ex.lo, h.ex.ok⟩
  refine ⟨_, ⟨ab, s, fb, mb, x, kb, ns, [kb, b1, t1, b2, t2], m, ⟨h.hd, hex, h.fe, h.nx, h.nl, h.nu, h.ug, h.ne, fun z hz => ⟨fun hm => (h.off z hz).1 (hsub z hm), (h.off z hz).2⟩⟩, rfl, e2⟩, fun z hz => ?_, fun z hz => ?_⟩
  · simp only [List.mem_cons, List.not_mem_nil, or_false] at hz ⊢
    rcases hz with e | e | e | e | e | e | e | e | e | e | e | e
    · simp [e]
    · simp [e]
    · simp [e]
    · simp [e]
    · simp [e]
    · simp [e]
    · simp [e]
    · simp [e]
    · simp [e]
    · rcases v1 with e3 | e3 <;> simp [e, e3]
    · simp [e]
    · rcases v2 with e3 | e3 <;> simp [e, e3]
  · obtain ⟨cap, _, _, hd⟩ := h.hd
    obtain ⟨cap2, _, _, ah⟩ := h.ex.a.head
    simp only [List.mem_cons, List.not_mem_nil, or_false] at hz
    rcases hz with rfl | rfl | rfl | rfl | rfl | rfl | rfl | rfl | rfl | rfl | rfl | rfl
    · exact hd.notT (by decide)
    · exact h.fe.hd.notT (by decide)
    · exact h.fe.mp.notT _
    · exact h.nx.notT (by decide)
    · exact h.ex.e.hd.notT (by decide)
    · exact ah.notT (by decide)
    · exact h.ex.a.row.notT (by decide)
    · exact hb.notT (by decide)
    · exact w1
    · exact y1
    · exact w2
    · exact y2
def loA (k : Nat) : Ent := ⟨0, k, 0, true, ⟨4, 0, 0, false, 2, 3, 0⟩⟩
def loB (q : Int) : Ent := ⟨1, 0, 0, true, ⟨4, 0, 0, true, 2, q, 0⟩⟩
def loS : Nat → LS
  | 0 => LS1 2
  | k + 1 => (lDo 2 (loS k) (loA k)).1
def loChk (k : Nat) (q : Int) : Bool := let r := lDo 2 (loS k) (loB q); (decide (0 < r.2.T.length ∧ r.2.T.length ≤ 100)) && r.1.M.all (fun o => decide (o.client = 0))
theorem lo_all : ((List.range 9).drop 1).all (fun k => (List.range 30).all fun q => loChk k ((q : Int) + 1)) = true := by kernel_rfl
theorem lo_one {k q : Nat} (hk : 1 ≤ k) (hk2 : k ≤ 8) (hq : q < 30) : loChk k ((q : Int) + 1) = true := by
  have h := List.all_eq_true.1 (List.all_eq_true.1 lo_all k (by
    rcases (by omega : k = 1 ∨ k = 2 ∨ k = 3 ∨ k = 4 ∨ k = 5 ∨ k = 6 ∨ k = 7 ∨ k = 8) with rfl | rfl | rfl | rfl | rfl | rfl | rfl | rfl <;> decide)) q (List.mem_range.2 hq)
  exact h
theorem loA_ok (k : Nat) (h : k ≤ 8) : (loA k).Ok := by
  refine ⟨⟨?_, ?_⟩, ⟨?_, ?_⟩, ⟨?_, ?_⟩, ⟨⟨?_, ?_⟩, ⟨?_, ?_⟩, ⟨?_, ?_⟩, ⟨?_, ?_⟩, ⟨?_, ?_⟩, ⟨?_, ?_⟩⟩⟩ <;> (simp only [loA]; omega)
theorem loB_ok (q : Int) (h0 : 0 ≤ q) (h : q ≤ 30) : (loB q).Ok := by
  refine ⟨⟨?_, ?_⟩, ⟨?_, ?_⟩, ⟨?_, ?_⟩, ⟨⟨?_, ?_⟩, ⟨?_, ?_⟩, ⟨?_, ?_⟩, ⟨?_, ?_⟩, ⟨?_, ?_⟩, ⟨?_, ?_⟩⟩⟩ <;> (simp only [loB]; omega)
set_option maxHeartbeats 8000000 in
theorem ledgown_walk (n q : Int) (w0 : World) (hq : U q) : Calls Tryz.prog 10 #[.int .i64 n, .int .u64 q] w0 fun e w' => e = .returned (.bool true) ∧ Below w0.heap.size w0 w' := by
  obtain ⟨f, hf, hf8⟩ := and7_i64 n
  obtain ⟨qm, hqm, hqm30⟩ : ∃ m : Nat, q.tmod 30 = (m : Int) ∧ m < 30 := ⟨(q.tmod 30).toNat, by have := hq.1; rw [Int.tmod_eq_emod_of_nonneg this]; omega, by have := hq.1; rw [Int.tmod_eq_emod_of_nonneg this]; omega⟩
  have wq0 : IntKind.u64.wrap ((qm : Nat) : Int) = qm := by simp [IntKind.wrap, IntKind.bits, IntKind.signed]; omega
  have wq : IntKind.u64.wrap ((qm : Int) + 1) = (qm : Int) + 1 := by simp [IntKind.wrap, IntKind.bits, IntKind.signed]; omega
  have HQ : Hid (qm < 30) := hqm30
  have HF8 : Hid (f < 8) := hf8
  have wf : IntKind.i64.wrap ((f : Int) + 1) = ((f + 1 : Nat) : Int) := by simp [IntKind.wrap, IntKind.bits, IntKind.signed]; omega
  obtain ⟨N, hN⟩ : ∃ N, f + 1 = N := ⟨_, rfl⟩
  rw [hN] at wf
  have hN8 : 1 ≤ N ∧ N ≤ 8 := by omega
  have hNl : N ≤ 8 := hN8.2
  have HN8 := Lib.hid hN8
  clear hN hf8 hqm30 hq hN8
  go_enter Tryz.func10, Tryz.ntmps10
  go_wp2_with fail
  refine (ledNew 2 (by omega) (by omega) w0).mono ?_
  rintro e w1 ⟨l, F0, rfl, h0⟩
  go_wp2_with fail
  refine (lxBook h0).mono ?_
  rintro e w2 ⟨kb0, FB0, rfl, c2, -, -⟩
  have h2 := h0.to c2
  clear h0 c2
  go_wp2_with fail
  go_loopw [6] (fun i wr => ∃ (k : Nat) (F : List Nat), k ≤ N ∧ i = .int .i64 k ∧ LedX w0 wr l 2 F (loS k) k) (fun i _ => N - (intOf i).toNat)
  case atStart => exact ⟨0, F0, by omega, rfl, h2⟩
  case round =>
    clear h2
    obtain ⟨k, F, hk, rfl, hX⟩ := hrel
    by_cases hkN : k < N
    · have wk : IntKind.u64.wrap (k : Int) = k := by simp [IntKind.wrap, IntKind.bits, IntKind.signed]; omega
      have j3 : (k : Int) < 8 := by omega
      go_wp2_with fail
      refine (lxDo hX (by omega) (loA k) (loA_ok k (by omega)) (loS (k + 1)) (lDo 2 (loS k) (loA k)).2 rfl).mono ?_
      rintro y v1 ⟨a1, d1, F1, rfl, -, k1, -, -⟩
      have HK1 := Lib.hid k1
      clear k1 hX
      generalize (lDo 2 (loS k) (loA k)).2 = r1 at *
      go_wp2_with fail
      go_roundw
      case rel => exact ⟨k + 1, F1, by omega, by go_num, HK1.out⟩
      case measure => simp [intOf]; omega
    · have e9 : N = k := by omega
      subst e9
      obtain ⟨⟨S2, r2⟩, hr2⟩ : ∃ x, lDo 2 (loS N) (loB ((qm : Int) + 1)) = x := ⟨_, rfl⟩
      have hck := lo_one HN8.out.1 HN8.out.2 HQ.out
      unfold loChk at hck
      rw [hr2] at hck
      simp only [Bool.and_eq_true, decide_eq_true_eq, List.all_eq_true] at hck
      obtain ⟨⟨hT, hT2⟩, hM⟩ := hck
      obtain ⟨rc, rp, ri, T⟩ := r2
      dsimp only at hT hT2 hM
      obtain ⟨nT, hnT⟩ : ∃ m, T.length = m := ⟨_, rfl⟩
      rw [hnT] at hT hT2
      have HNT := Lib.hid hnT
      have HM := Lib.hid hM
      have HR2 := Lib.hid hr2
      have hTi : (0 : Int) < (nT : Int) := by omega
      have HTB : Hid (nT ≤ 100) := hT2
      clear hT2
      have hTd : decide ((0 : Int) < (nT : Int)) = true := by simp; omega
      have hTd2 : decide (0 < nT) = true := by simp; omega
      clear hnT hM hr2 hkN
      go_wp2_with fail
      refine (lxDo hX (by omega) (loB ((qm : Int) + 1)) (loB_ok _ (by omega) (by have := HQ.out; omega)) S2 ⟨rc, rp, ri, T⟩ HR2.out).mono ?_
      dsimp only
      rw [HNT.out]
      rintro y v2 ⟨a2, d2, F2, rfl, hN2, k2, -, -⟩
      have hwz : w0.heap.size ≤ wr.heap.size := hX.c.size
      obtain ⟨F3, k3, -, ht3⟩ := k2.typed
      obtain ⟨gT, ea, hgT, hTb⟩ := hN2.resolve_left (fun e => by have h1 := HNT.out; rw [e] at h1; simp at h1; omega)
      subst ea
      have HGT : Hid (gT ∉ F3) := fun hm => by obtain ⟨sp, hb⟩ := hTb; exact ht3 gT hm _ _ hb
      have HRT : Hid (RowT v2 gT (some ⟨gT, 0, none⟩) nT) := .inr ⟨rfl, _, hTb, by rw [flat_len (c := tc) (n := 6) (fun _ => rfl), HNT.out]⟩
      have hgl := hTb.lt
      have hgw : w0.heap.size ≤ gT := by omega
      have hRb : Blk (v2.alloc (.cells #[.int .i64 rc, .int .u64 rp, .int .i64 ri, .slice (some ⟨gT, 0, none⟩) nT d2] 46)) v2.heap.size 46 [.int .i64 rc, .int .u64 rp, .int .i64 ri, .slice (some ⟨gT, 0, none⟩) nT d2] := Blk.new v2 _ _
      have cA : Chg [] v2 (v2.alloc (.cells #[.int .i64 rc, .int .u64 rp, .int .i64 ri, .slice (some ⟨gT, 0, none⟩) nT d2] 46)) := (Chg.refl _ _).alloc _
      have k4 := k3.to cA
      replace HRT := Lib.hid (HRT.out.chg cA (by simp))
      have hsA := cA.size
      clear hX k2 k3 ht3 hN2 cA hTb
      go_upto_region 10 with (fail)
      generalize hgr : v2.heap.size = gR at *
      have HRB := Lib.hid hRb
      have hne : gR ≠ gT := by omega
      clear hgr hRb
      generalize v2.alloc _ = W2 at *
      go_wp2_with fail
      refine (lxState k4 (by omega)).mono ?_
      rintro e w3 ⟨gs, cs, rfl, hgs, hbs, c3⟩
      have kc := st_str (c := cs) hbs
      obtain ⟨s9, hs9⟩ : ∃ s, bstr (stB 2 S2) = s := ⟨_, rfl⟩
      rw [hs9] at kc
      have HS9 := Lib.hid hs9
      have h3 := k4.to c3
      replace HRT := Lib.hid (HRT.out.chg c3 (by simp))
      replace HRB := Lib.hid (HRB.out.chg c3 (by simp))
      have hs3 := c3.size
      have hpl := h3.parts
      obtain ⟨-, -, -, -, -, -, hkt, hLM, -⟩ := hpl
      obtain ⟨nM, hnM⟩ : ∃ m, S2.M.length = m := ⟨_, rfl⟩
      rw [hnM] at hLM
      have hnM9 : nM ≤ 9 := by omega
      have HNM := Lib.hid hnM
      clear k4 hbs c3 hs9 hkt hLM hnM
      go_wp2_with fail
      refine (lxBook h3).mono ?_
      rintro e w4 ⟨kb4, FB4, rfl, c4, b4, -⟩
      have h4 := h3.to c4
      replace HRT := Lib.hid (HRT.out.chg c4 (by simp))
      replace HRB := Lib.hid (HRB.out.chg c4 (by simp))
      have hs4 := c4.size
      clear h3 c4 kc
      go_wp2_with fail
      refine (bAsks b4.bk (by rw [HNM.out]; omega)).mono ?_
      rintro e w5 ⟨v5, rfl, ho5, c5⟩
      obtain ⟨a5, d5, rfl, hO5⟩ := ho5.osn
      rw [HNM.out]
      obtain ⟨gx, hX5, hgx⟩ := hO5.any w5.heap.size
      rw [HNM.out] at hX5
      have hs5 := c5.size
      have hl4 := h4.lt
      have HGX : Hid (gx ∉ F3) := fun hm => by have := hl4 gx hm; omega
      have hxT : gx ≠ gT := by omega
      have hxR : gx ≠ gR := by have := HRB.out.lt; omega
      have hxw : w0.heap.size ≤ gx := by omega
      have H5 := Lib.hid (h4.to c5)
      replace HRT := Lib.hid (HRT.out.chg c5 (by simp))
      replace HRB := Lib.hid (HRB.out.chg c5 (by simp))
      have HX5 := Lib.hid hX5
      clear h4 c5 b4 ho5 hO5 hX5 hgx hl4 hs3 hs4 hs5 hsA hwz hgl hgT
      have e3 := HRB.out.at (i := 3) rfl
      go_wp2_with fail
      have HCH := Lib.hid (Chg.refl [gT] w5)
      go_loopw [52] (fun i wr => ∃ j : Nat, j ≤ nT ∧ i = .int .i64 j ∧ Hid (LedX w0 wr l 2 F3 S2 (N + 1)) ∧ Hid (RowT wr gT (some ⟨gT, 0, none⟩) nT) ∧ Hid (Chg [gT] w5 wr)) (fun i _ => nT - (intOf i).toNat)
      case atStart => exact ⟨0, by omega, rfl, H5, HRT, HCH⟩
      case round =>
        clear H5 HRT HCH e3
        obtain ⟨j, hj, rfl, H5, HRT, HCH⟩ := hrel
        have HB5 := Lib.hid (HRB.out.chg HCH.out (by simp; omega))
        have e3 := HB5.out.at (i := 3) rfl
        by_cases hlt : j < nT
        · obtain ⟨-, ⟨v, q1⟩, q2, q3⟩ := HRT.out.at (k := j) (j := 5) hlt (by omega)
          obtain ⟨q4, q5⟩ := q3 (.int .u64 99)
          have i1 : (0 : Int) ≤ (j : Int) := by omega
          have i2 : (j : Int) < (nT : Int) := by omega
          have i3 : (j : Int) < 1000000000 := by have := HTB.out; omega
          have H6 := Lib.hid (H5.out.aside q5 (fun z hz => by simp at hz; subst hz; exact ⟨HGT.out, hgw⟩))
          have HR6 := Lib.hid q4
          have HC6 := Lib.hid (HCH.out.trans q5)
          clear H5 HRT HCH q3 q4 q5 hlt
          go_wp2_with fail
          go_roundw
          case rel => exact ⟨j + 1, by omega, by go_num, H6, HR6, HC6⟩
          case measure => simp [intOf]; omega
        · obtain rfl : j = nT := by omega
          have HX6 := Lib.hid (HX5.out.chg HCH.out (by simp; omega))
          clear HCH HRT hlt HX5
          go_wp2_with fail
          obtain ⟨wz, hwz⟩ : ∃ x, x = wr := ⟨_, rfl⟩
          have HCZ : Hid (Chg [gx] wz wr) := by rw [hwz]; exact Chg.refl _ _
          have HBZ : Hid (Blk wz gR 46 [.int .i64 rc, .int .u64 rp, .int .i64 ri, .slice (some ⟨gT, 0, none⟩) j d2]) := by rw [hwz]; exact HB5.out
          clear hwz HB5 e3
          go_loopw [63] (fun i wr => ∃ m : Nat, m ≤ nM ∧ i = .int .i64 m ∧ Hid (LedX w0 wr l 2 F3 S2 (N + 1)) ∧ Hid (RowAny wr gx a5 nM) ∧ Hid (Chg [gx] wz wr)) (fun i _ => nM - (intOf i).toNat)
          case atStart => exact ⟨0, by omega, rfl, H5, HX6, HCZ⟩
          case round =>
            clear H5 HX6 HCZ
            obtain ⟨m, hm, rfl, H5, HX6, HCZ⟩ := hrel
            by_cases hlt : m < nM
            · obtain ⟨rfl, ⟨v, q1⟩, q2, q3⟩ := HX6.out.at (k := m) (j := 1) hlt (by omega)
              obtain ⟨q4, q5⟩ := q3 (.int .i64 9)
              have i1 : (0 : Int) ≤ (m : Int) := by omega
              have i2 : (m : Int) < (nM : Int) := by omega
              have H6 := Lib.hid (H5.out.aside q5 (fun z hz => by simp at hz; subst hz; exact ⟨HGX.out, hxw⟩))
              have HR6 := Lib.hid q4
              have HC6 := Lib.hid (HCZ.out.trans q5)
              clear H5 HX6 HCZ q3 q4 q5 hlt
              go_wp2_with fail
              go_roundw
              case rel => exact ⟨m + 1, by omega, by go_num, H6, HR6, HC6⟩
              case measure => simp [intOf]; omega
            · have e9 : nM = m := by omega
              subst e9
              have HBQ := Lib.hid (HBZ.out.chg HCZ.out (by simp; omega))
              clear HCZ HX6 hlt
              go_wp2_with fail
              refine (lxBook H5.out).mono ?_
              rintro e w6 ⟨kb6, FB6, rfl, c6, b6, -⟩
              have H6 := Lib.hid (H5.out.to c6)
              replace HBQ := Lib.hid (HBQ.out.chg c6 (by simp))
              clear H5 c6
              go_wp2_with fail
              refine (bAsks b6.bk (by rw [HNM.out]; omega)).mono ?_
              rintro e w7 ⟨v7, rfl, ho7, c7⟩
              obtain ⟨a7, d7, rfl, hO7⟩ := ho7.osn
              rw [HNM.out]
              have H7 := Lib.hid (H6.out.to c7)
              replace HBQ := Lib.hid (HBQ.out.chg c7 (by simp))
              have HO7 := Lib.hid hO7
              clear H6 c7 b6 ho7 hO7
              go_wp2_with fail
              have HC7 := Lib.hid (Chg.refl [] w7)
              go_loopw [75] (fun i wr => ∃ p : Nat, p ≤ nM ∧ i = .int .i64 p ∧ Hid (Chg [] w7 wr)) (fun i _ => nM - (intOf i).toNat)
              case atStart => exact ⟨0, by omega, rfl, HC7⟩
              case round =>
                clear HC7
                obtain ⟨p, hp, rfl, HC7⟩ := hrel
                by_cases hlt : p < nM
                · have hpl : p < S2.M.length := by rw [HNM.out]; exact hlt
                  obtain ⟨gq, rfl, hBq, t0, t1, t2, t3, t4⟩ := (HO7.out.chg0 HC7.out).cells hpl
                  have hcl := HM.out _ (getD_mem hpl)
                  generalize S2.M.getD p Ord.zero = o at *
                  have hd0 : (o.client != 0) = false := by simp [hcl]
                  have i1 : (0 : Int) ≤ (p : Int) := by omega
                  have i2 : (p : Int) < (nM : Int) := by omega
                  have hc1 := HC7.out.alloc (.cells #[.int .i64 o.id, .int .i64 o.client, .bool o.buy, .int .u64 o.price, .int .u64 o.qty] 73)
                  have hbx : Blk (wr.alloc (.cells #[.int .i64 o.id, .int .i64 o.client, .bool o.buy, .int .u64 o.price, .int .u64 o.qty] 73)) wr.heap.size 73 (oc o) := Blk.new wr (oc o) 73
                  have HC8 := Lib.hid hc1
                  clear hpl hBq hcl hc1 HC7 hlt
                  go_upto_region 25 with (fail)
                  clear t0 t1 t2 t3 t4
                  generalize wr.heap.size = gz at *
                  generalize wr.alloc _ = W1 at *
                  have y1 := hbx.at (i := 1) rfl
                  go_wp2_with fail
                  go_roundw
                  case rel => exact ⟨p + 1, by omega, by go_num, HC8⟩
                  case measure => simp [intOf]; omega
                · have e9 : nM = p := by omega
                  subst e9
                  have H8 := Lib.hid (H7.out.to HC7.out)
                  replace HBQ := Lib.hid (HBQ.out.chg HC7.out (by simp))
                  clear H7 HC7 hlt
                  go_wp2_with fail
                  refine (lxState H8.out (by omega)).mono ?_
                  rintro e w8 ⟨g8, cs8, rfl, hg8, hb8, c8⟩
                  have kc := st_str (c := cs8) hb8
                  rw [HS9.out] at kc
                  have H9 := Lib.hid (H8.out.to c8)
                  replace HBQ := Lib.hid (HBQ.out.chg c8 (by simp))
                  have f3 := HBQ.out.at (i := 3) rfl
                  clear H8 hb8 c8
                  go_wp2_with fail
                  refine (awake12 w8).mono ?_
                  rintro e w9 ⟨rfl, c9⟩
                  go_wp2_with fail
                  go_ret
                  exact ⟨rfl, (H9.out.c.trans c9).below⟩
end Go.Proofs.YteabcpmpcbjicaaGreat
