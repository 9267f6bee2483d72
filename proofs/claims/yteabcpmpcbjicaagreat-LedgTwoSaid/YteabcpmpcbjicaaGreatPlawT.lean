
import Derived.Test.YteabcpmpcbjicaaGreatLedK
namespace Go.Proofs.YteabcpmpcbjicaaGreat
set_option linter.unusedVariables false
set_option linter.unusedSimpArgs false
set_option maxRecDepth 100000
open Go Go.Proofs Go.RowKit

/-! Two clients who do nothing with each other: what is one's own. -/
structure Loc where
  f0 : Int
  f1 : Int
  d0 : Int
  d1 : Int
  w0 : Int
  w1 : Int
  gt : Int
  nx : Int
def comb (p q : Loc) : LS := ⟨[p.f0, p.f1, q.f0, q.f1], Zf, p.gt + q.gt, [], [], 0, [p.nx, q.nx], 2000 + p.d0 + q.d0, 2000 + p.d1 + q.d1, p.w0 + q.w0, p.w1 + q.w1⟩
def loc0 : Loc := ⟨1000, 1000, 0, 0, 0, 0, 0, 0⟩
structure LocB (p : Loc) (m : Nat) : Prop where
  f0 : 0 ≤ p.f0 ∧ p.f0 ≤ 1000 + 3000 * m
  f1 : 0 ≤ p.f1 ∧ p.f1 ≤ 1000 + 3000 * m
  d0 : 0 ≤ p.d0 ∧ p.d0 ≤ 3000 * m
  d1 : 0 ≤ p.d1 ∧ p.d1 ≤ 3000 * m
  w0 : 0 ≤ p.w0 ∧ p.w0 ≤ 3000 * m
  w1 : 0 ≤ p.w1 ∧ p.w1 ≤ 3000 * m
  gt : 0 ≤ p.gt ∧ p.gt ≤ 3000 * m
  nx : p.nx = m
theorem loc0_b : LocB loc0 0 := by refine ⟨?_, ?_, ?_, ?_, ?_, ?_, ?_, rfl⟩ <;> simp [loc0]
theorem comb0 : LS1 2 = comb loc0 loc0 := by kernel_rfl
/-- What is done, of fees that are held ahead. -/
def lact (p : Loc) (kind asset qty : Int) : Option Loc :=
  if kind = 1 then some (if asset = 0 then { p with f0 := p.f0 + qty, d0 := p.d0 + qty } else { p with f1 := p.f1 + qty, d1 := p.d1 + qty })
  else if kind = 2 then
    (if asset = 0 then (if qty ≤ p.f0 then some { p with f0 := p.f0 - qty, w0 := p.w0 + qty } else none)
     else (if qty ≤ p.f1 then some { p with f1 := p.f1 - qty, w1 := p.w1 + qty } else none))
  else (if qty ≤ p.f0 then some p else none)
def lheld (p : Loc) (h : Int) : Loc := { p with f1 := p.f1 - h, nx := p.nx + 1 }
def lstep (p : Loc) (fee kind asset qty : Int) : Loc :=
  match lact (lheld p (min fee p.f1)) kind asset qty with
  | some q => { q with f1 := q.f1 + (min fee p.f1 - min 1 (min fee p.f1)), gt := q.gt + min 1 (min fee p.f1) }
  | none => { lheld p (min fee p.f1) with gt := p.gt + min fee p.f1 }
def ent2 (c i fee kind asset qty : Int) : Ent := ⟨c, i, fee, true, ⟨kind, asset, if kind = 3 then c else 0, false, 0, qty, 0⟩⟩
structure EB (fee kind asset qty : Int) : Prop where
  fee : 0 ≤ fee ∧ fee ≤ 7
  kind : kind = 1 ∨ kind = 2 ∨ (kind = 3 ∧ asset = 0)
  asset : asset = 0 ∨ asset = 1
  qty : 0 ≤ qty ∧ qty ≤ 2047
theorem lstep_b {p : Loc} {m : Nat} (h : LocB p m) {fee kind asset qty : Int} (e : EB fee kind asset qty) : LocB (lstep p fee kind asset qty) (m + 1) := by
  obtain ⟨a1, a2, a3, a4, a5, a6, a7, a8⟩ := h
  obtain ⟨b1, b2, b3, b4⟩ := e
  unfold lstep lact lheld
  obtain ⟨g, hg⟩ : ∃ g, min fee p.f1 = g := ⟨_, rfl⟩
  have hmm : 0 ≤ g ∧ g ≤ 7 ∧ g ≤ p.f1 := by omega
  rw [hg]
  obtain ⟨g1, hg1⟩ : ∃ k, min 1 g = k := ⟨_, rfl⟩
  have hm1 : 0 ≤ g1 ∧ g1 ≤ g := by omega
  rw [hg1]
  clear hg hg1
  obtain ⟨q1, q2⟩ := b4
  rcases b2 with rfl | rfl | ⟨rfl, b5⟩
  · rcases b3 with rfl | rfl
    · simp only [if_true, if_false, Int.reduceEq]
      refine ⟨?_, ?_, ?_, ?_, ?_, ?_, ?_, ?_⟩ <;> dsimp only <;> omega
    · simp only [if_true, if_false, Int.reduceEq]
      refine ⟨?_, ?_, ?_, ?_, ?_, ?_, ?_, ?_⟩ <;> dsimp only <;> omega
  · rcases b3 with rfl | rfl
    · simp only [if_true, if_false, Int.reduceEq]
      by_cases hq : qty ≤ p.f0
      · rw [if_pos hq]
        refine ⟨?_, ?_, ?_, ?_, ?_, ?_, ?_, ?_⟩ <;> dsimp only <;> omega
      · rw [if_neg hq]
        refine ⟨?_, ?_, ?_, ?_, ?_, ?_, ?_, ?_⟩ <;> dsimp only <;> omega
    · simp only [if_true, if_false, Int.reduceEq]
      by_cases hq : qty ≤ p.f1 - g
      · rw [if_pos hq]
        refine ⟨?_, ?_, ?_, ?_, ?_, ?_, ?_, ?_⟩ <;> dsimp only <;> omega
      · rw [if_neg hq]
        refine ⟨?_, ?_, ?_, ?_, ?_, ?_, ?_, ?_⟩ <;> dsimp only <;> omega
  · simp only [if_true, if_false, Int.reduceEq]
    by_cases hq : qty ≤ p.f0
    · rw [if_pos hq]
      refine ⟨?_, ?_, ?_, ?_, ?_, ?_, ?_, ?_⟩ <;> dsimp only <;> omega
    · rw [if_neg hq]
      refine ⟨?_, ?_, ?_, ?_, ?_, ?_, ?_, ?_⟩ <;> dsimp only <;> omega
theorem ent2_ok (c i : Int) (hc : c = 0 ∨ c = 1) (hi : 0 ≤ i ∧ i ≤ 1000) {fee kind asset qty : Int} (e : EB fee kind asset qty) : (ent2 c i fee kind asset qty).Ok := by
  obtain ⟨b1, b2, b3, b4⟩ := e
  refine ⟨?_, ?_, ?_, ?_, ?_, ?_, ?_, ?_, ?_⟩ <;> unfold ent2 <;> dsimp only <;> (try split) <;> constructor <;> omega
theorem tx2_ok (c : Int) (hc : c = 0 ∨ c = 1) {fee kind asset qty i : Int} (e : EB fee kind asset qty) : txOk (ent2 c i fee kind asset qty).tx = true := by
  obtain ⟨b1, b2, b3, b4⟩ := e
  rcases hc with rfl | rfl <;> rcases b2 with rfl | rfl | ⟨rfl, b5⟩ <;> rcases b3 with rfl | rfl <;> simp_all [ent2, txOk, txK, txF, tIn]
/-- An act of one's own, on what both have. -/
theorem act0 {p q : Loc} {f : Int → Int} (hp : 0 ≤ p.f0 ∧ p.f0 ≤ 100000 ∧ 0 ≤ p.f1 ∧ p.f1 ≤ 100000) (hq : 0 ≤ p.d0 ∧ p.d0 ≤ 100000 ∧ 0 ≤ p.d1 ∧ p.d1 ≤ 100000 ∧ 0 ≤ q.d0 ∧ q.d0 ≤ 100000 ∧ 0 ≤ q.d1 ∧ q.d1 ≤ 100000) (hw : 0 ≤ p.w0 ∧ p.w0 ≤ 100000 ∧ 0 ≤ p.w1 ∧ p.w1 ≤ 100000 ∧ 0 ≤ q.w0 ∧ q.w0 ≤ 100000 ∧ 0 ≤ q.w1 ∧ q.w1 ≤ 100000) {i fee kind asset qty : Int} (e : EB fee kind asset qty) :
    lAct 2 { comb p q with f := f } 0 (ent2 0 i fee kind asset qty).tx = match lact p kind asset qty with
      | some r => ({ comb r q with f := f }, no 0)
      | none => ({ comb p q with f := f }, no 5) := by
  obtain ⟨b1, b2, b3, b4⟩ := e
  rcases b2 with rfl | rfl | ⟨rfl, rfl⟩
  · rcases b3 with rfl | rfl
    · have h1 : p.f0 + qty < 18446744073709551616 := by omega
      have h2 : 2000 + p.d0 + q.d0 + qty < 18446744073709551616 := by omega
      have h3 : 2000 + p.d0 + q.d0 + qty ≤ 4611686018427387904 := by omega
      have h4 : 2000 + (p.d0 + qty) + q.d0 = 2000 + p.d0 + q.d0 + qty := by omega
      simp [ent2, lAct, lDep, lDepOk, lG, lact, comb, aPut, aPutE, aErr, aHas, aAsset, aGet, aAt, cAddB, cAddN, h1, h2, h3, h4]
    · have h1 : p.f1 + qty < 18446744073709551616 := by omega
      have h2 : 2000 + p.d1 + q.d1 + qty < 18446744073709551616 := by omega
      have h3 : 2000 + p.d1 + q.d1 + qty ≤ 4611686018427387904 := by omega
      have h4 : 2000 + (p.d1 + qty) + q.d1 = 2000 + p.d1 + q.d1 + qty := by omega
      simp [ent2, lAct, lDep, lDepOk, lG, lact, comb, aPut, aPutE, aErr, aHas, aAsset, aGet, aAt, cAddB, cAddN, h1, h2, h3, h4]
  · rcases b3 with rfl | rfl
    · have h2 : uW (p.w0 + q.w0 + qty) = p.w0 + qty + q.w0 := by unfold uW; omega
      by_cases h1 : qty ≤ p.f0
      · simp [ent2, lAct, lWd, lact, comb, aTake, aTakeE, aErr, aHas, aAsset, aGet, aAt, cSubB, cSubN, h1, h2]
      · simp [ent2, lAct, lWd, lact, comb, aTake, aTakeE, aErr, aHas, aAsset, aGet, aAt, cSubB, cSubN, h1]
    · have h2 : uW (p.w1 + q.w1 + qty) = p.w1 + qty + q.w1 := by unfold uW; omega
      by_cases h1 : qty ≤ p.f1
      · simp [ent2, lAct, lWd, lact, comb, aTake, aTakeE, aErr, aHas, aAsset, aGet, aAt, cSubB, cSubN, h1, h2]
      · simp [ent2, lAct, lWd, lact, comb, aTake, aTakeE, aErr, aHas, aAsset, aGet, aAt, cSubB, cSubN, h1]
  · by_cases h1 : qty ≤ p.f0
    · have h2 : p.f0 - qty + qty < 18446744073709551616 := by omega
      have h3 : p.f0 - qty + qty = p.f0 := by omega
      have h4 : p.f0 < 18446744073709551616 := by omega
      simp [ent2, lAct, lTr, lact, comb, aPut, aPutE, aTake, aTakeE, aErr, aHas, aAsset, aGet, aAt, cSubB, cSubN, cAddB, cAddN, h1, h2, h3, h4]
    · simp [ent2, lAct, lTr, lact, comb, aTake, aTakeE, aErr, aHas, aAsset, aGet, aAt, cSubB, cSubN, h1]
theorem act1 {p q : Loc} {f : Int → Int} (hp : 0 ≤ q.f0 ∧ q.f0 ≤ 100000 ∧ 0 ≤ q.f1 ∧ q.f1 ≤ 100000) (hq : 0 ≤ p.d0 ∧ p.d0 ≤ 100000 ∧ 0 ≤ p.d1 ∧ p.d1 ≤ 100000 ∧ 0 ≤ q.d0 ∧ q.d0 ≤ 100000 ∧ 0 ≤ q.d1 ∧ q.d1 ≤ 100000) (hw : 0 ≤ p.w0 ∧ p.w0 ≤ 100000 ∧ 0 ≤ p.w1 ∧ p.w1 ≤ 100000 ∧ 0 ≤ q.w0 ∧ q.w0 ≤ 100000 ∧ 0 ≤ q.w1 ∧ q.w1 ≤ 100000) {i fee kind asset qty : Int} (e : EB fee kind asset qty) :
    lAct 2 { comb p q with f := f } 1 (ent2 1 i fee kind asset qty).tx = match lact q kind asset qty with
      | some r => ({ comb p r with f := f }, no 0)
      | none => ({ comb p q with f := f }, no 5) := by
  obtain ⟨b1, b2, b3, b4⟩ := e
  rcases b2 with rfl | rfl | ⟨rfl, rfl⟩
  · rcases b3 with rfl | rfl
    · have h1 : q.f0 + qty < 18446744073709551616 := by omega
      have h2 : 2000 + p.d0 + q.d0 + qty < 18446744073709551616 := by omega
      have h3 : 2000 + p.d0 + q.d0 + qty ≤ 4611686018427387904 := by omega
      have h4 : 2000 + p.d0 + (q.d0 + qty) = 2000 + p.d0 + q.d0 + qty := by omega
      simp [ent2, lAct, lDep, lDepOk, lG, lact, comb, aPut, aPutE, aErr, aHas, aAsset, aGet, aAt, cAddB, cAddN, h1, h2, h3, h4]
    · have h1 : q.f1 + qty < 18446744073709551616 := by omega
      have h2 : 2000 + p.d1 + q.d1 + qty < 18446744073709551616 := by omega
      have h3 : 2000 + p.d1 + q.d1 + qty ≤ 4611686018427387904 := by omega
      have h4 : 2000 + p.d1 + (q.d1 + qty) = 2000 + p.d1 + q.d1 + qty := by omega
      simp [ent2, lAct, lDep, lDepOk, lG, lact, comb, aPut, aPutE, aErr, aHas, aAsset, aGet, aAt, cAddB, cAddN, h1, h2, h3, h4]
  · rcases b3 with rfl | rfl
    · have h2 : uW (p.w0 + q.w0 + qty) = p.w0 + (q.w0 + qty) := by unfold uW; omega
      by_cases h1 : qty ≤ q.f0
      · simp [ent2, lAct, lWd, lact, comb, aTake, aTakeE, aErr, aHas, aAsset, aGet, aAt, cSubB, cSubN, h1, h2]
      · simp [ent2, lAct, lWd, lact, comb, aTake, aTakeE, aErr, aHas, aAsset, aGet, aAt, cSubB, cSubN, h1]
    · have h2 : uW (p.w1 + q.w1 + qty) = p.w1 + (q.w1 + qty) := by unfold uW; omega
      by_cases h1 : qty ≤ q.f1
      · simp [ent2, lAct, lWd, lact, comb, aTake, aTakeE, aErr, aHas, aAsset, aGet, aAt, cSubB, cSubN, h1, h2]
      · simp [ent2, lAct, lWd, lact, comb, aTake, aTakeE, aErr, aHas, aAsset, aGet, aAt, cSubB, cSubN, h1]
  · by_cases h1 : qty ≤ q.f0
    · have h2 : q.f0 - qty + qty < 18446744073709551616 := by omega
      have h3 : q.f0 - qty + qty = q.f0 := by omega
      have h4 : q.f0 < 18446744073709551616 := by omega
      simp [ent2, lAct, lTr, lact, comb, aPut, aPutE, aTake, aTakeE, aErr, aHas, aAsset, aGet, aAt, cSubB, cSubN, cAddB, cAddN, h1, h2, h3, h4]
    · simp [ent2, lAct, lTr, lact, comb, aTake, aTakeE, aErr, aHas, aAsset, aGet, aAt, cSubB, cSubN, h1]
theorem comb_ok {p q : Loc} (hp : 0 ≤ p.f0 ∧ p.f0 ≤ 100000 ∧ 0 ≤ p.f1 ∧ p.f1 ≤ 100000) (hq : 0 ≤ q.f0 ∧ q.f0 ≤ 100000 ∧ 0 ≤ q.f1 ∧ q.f1 ≤ 100000) : AOk 2 (comb p q).xs := by
  refine ⟨rfl, by omega, fun x hx => ?_⟩
  simp only [comb, List.mem_cons, List.not_mem_nil, or_false] at hx
  rcases hx with rfl | rfl | rfl | rfl <;> constructor <;> omega
theorem LocB.lim {p : Loc} {m : Nat} (h : LocB p m) (hm : m ≤ 12) : (0 ≤ p.f0 ∧ p.f0 ≤ 90000 ∧ 0 ≤ p.f1 ∧ p.f1 ≤ 90000) ∧ (0 ≤ p.d0 ∧ p.d0 ≤ 90000 ∧ 0 ≤ p.d1 ∧ p.d1 ≤ 90000) ∧ (0 ≤ p.w0 ∧ p.w0 ≤ 90000 ∧ 0 ≤ p.w1 ∧ p.w1 ≤ 90000) ∧ (0 ≤ p.gt ∧ p.gt ≤ 90000) := by
  obtain ⟨a1, a2, a3, a4, a5, a6, a7, a8⟩ := h
  omega
theorem two0 {p q : Loc} {i j : Nat} (hp : LocB p i) (hq : LocB q j) (hi : i ≤ 11) (hj : j ≤ 11) {fee kind asset qty : Int} (e : EB fee kind asset qty) : ∃ r, lDo 2 (comb p q) (ent2 0 i fee kind asset qty) = (comb (lstep p fee kind asset qty) q, r) := by
  obtain ⟨p1, p2, p3, p4⟩ := hp.lim (by omega)
  obtain ⟨q1, q2, q3, q4⟩ := hq.lim (by omega)
  have hnx := hp.nx
  obtain ⟨h, hh⟩ : ∃ h, min fee p.f1 = h := ⟨_, rfl⟩
  have hhb : 0 ≤ h ∧ h ≤ 7 ∧ h ≤ p.f1 := by have := e.fee; omega
  have hH : lHeld 2 (comb p q) (ent2 0 i fee kind asset qty) = { comb { p with f1 := p.f1 - h } q with f := upd Zf 0 h } := by
    rw [lHeld_some 2 _ _ rfl rfl (comb_ok (by omega) (by omega)) e.fee.1]
    show ({ comb p q with xs := [p.f0, p.f1 - min fee p.f1, q.f0, q.f1], f := upd Zf 0 (min fee p.f1) } : LS) = _
    rw [hh]; rfl
  have hD : lDone 2 { comb { p with f1 := p.f1 - h } q with f := upd Zf 0 h } (ent2 0 i fee kind asset qty) = lAct 2 { comb (lheld p h) q with f := upd Zf 0 h } 0 (ent2 0 i fee kind asset qty).tx := by
    unfold lDone
    rw [if_pos (by rfl), if_pos (by rw [tx2_ok 0 (.inl rfl) e]; rfl), if_pos (by show (i : Int) = p.nx; exact hnx.symm)]
    have hu : uW (p.nx + 1) = p.nx + 1 := by unfold uW; omega
    show lAct 2 { comb { p with f1 := p.f1 - h } q with f := upd Zf 0 h, nx := [uW (p.nx + 1), q.nx] } 0 _ = _
    rw [hu]; rfl
  have hA := act0 (p := lheld p h) (q := q) (f := upd Zf 0 h) (i := i) (by simp only [lheld]; omega) (by simp only [lheld]; omega) (by simp only [lheld]; omega) e
  unfold lDo
  rw [hH, hD, hA]
  have hLs : lstep p fee kind asset qty = match lact (lheld p h) kind asset qty with
      | some q => { q with f1 := q.f1 + (h - min 1 h), gt := q.gt + min 1 h }
      | none => { lheld p h with gt := p.gt + h } := by unfold lstep; rw [hh]
  rw [hLs]
  have hb : ∀ r, lact (lheld p h) kind asset qty = some r → r.gt = p.gt ∧ 0 ≤ r.f0 ∧ r.f0 ≤ 100000 ∧ 0 ≤ r.f1 ∧ r.f1 ≤ 100000 := by
    intro r hr
    have b4 := e.qty
    unfold lact lheld at hr
    dsimp only at hr
    repeat' split at hr
    all_goals first | (cases hr; done) | (injection hr with hr; subst hr; dsimp only; refine ⟨rfl, ?_, ?_, ?_, ?_⟩ <;> omega)
  cases hl : lact (lheld p h) kind asset qty with
  | some r =>
    obtain ⟨c1, c2, c3, c4, c5⟩ := hb r hl
    dsimp only
    refine ⟨{ no 0 with paid := min 1 h }, ?_⟩
    rw [show (ent2 0 i fee kind asset qty).client = 0 from rfl, lEnd_ok 2 { comb r q with f := upd Zf 0 h } (no 0) 0 h rfl rfl rfl (comb_ok (p := r) (q := q) (by omega) (by omega)) (by omega) (by show 0 ≤ r.gt + q.gt; omega) (by show r.gt + q.gt + h < _; omega) (by show r.f1 + h < _; omega)]
    show (({ comb r q with xs := [r.f0, r.f1 + (h - min 1 h), q.f0, q.f1], f := Zf, got := r.gt + q.gt + min 1 h } : LS), _) = _
    unfold comb
    dsimp only
    rw [show r.gt + q.gt + min 1 h = r.gt + min 1 h + q.gt by omega]
  | none =>
    dsimp only
    refine ⟨{ no 5 with paid := h }, ?_⟩
    rw [show (ent2 0 i fee kind asset qty).client = 0 from rfl, lEnd_bad 2 { comb (lheld p h) q with f := upd Zf 0 h } (no 5) 0 h (by decide) rfl (by omega) (by show 0 ≤ p.gt + q.gt; omega) (by show p.gt + q.gt + h < _; omega)]
    show (({ comb (lheld p h) q with f := Zf, got := p.gt + q.gt + h } : LS), _) = _
    unfold comb
    dsimp only
    rw [show p.gt + q.gt + h = p.gt + h + q.gt by omega]
theorem two1 {p q : Loc} {i j : Nat} (hp : LocB p i) (hq : LocB q j) (hi : i ≤ 11) (hj : j ≤ 11) {fee kind asset qty : Int} (e : EB fee kind asset qty) : ∃ r, lDo 2 (comb p q) (ent2 1 j fee kind asset qty) = (comb p (lstep q fee kind asset qty), r) := by
  obtain ⟨p1, p2, p3, p4⟩ := hp.lim (by omega)
  obtain ⟨q1, q2, q3, q4⟩ := hq.lim (by omega)
  have hnx := hq.nx
  obtain ⟨h, hh⟩ : ∃ h, min fee q.f1 = h := ⟨_, rfl⟩
  have hhb : 0 ≤ h ∧ h ≤ 7 ∧ h ≤ q.f1 := by have := e.fee; omega
  have hH : lHeld 2 (comb p q) (ent2 1 j fee kind asset qty) = { comb p { q with f1 := q.f1 - h } with f := upd Zf 1 h } := by
    rw [lHeld_some 2 _ _ rfl rfl (comb_ok (by omega) (by omega)) e.fee.1]
    show ({ comb p q with xs := [p.f0, p.f1, q.f0, q.f1 - min fee q.f1], f := upd Zf 1 (min fee q.f1) } : LS) = _
    rw [hh]; rfl
  have hD : lDone 2 { comb p { q with f1 := q.f1 - h } with f := upd Zf 1 h } (ent2 1 j fee kind asset qty) = lAct 2 { comb p (lheld q h) with f := upd Zf 1 h } 1 (ent2 1 j fee kind asset qty).tx := by
    unfold lDone
    rw [if_pos (by rfl), if_pos (by rw [tx2_ok 1 (.inr rfl) e]; rfl), if_pos (by show (j : Int) = q.nx; exact hnx.symm)]
    have hu : uW (q.nx + 1) = q.nx + 1 := by unfold uW; omega
    show lAct 2 { comb p { q with f1 := q.f1 - h } with f := upd Zf 1 h, nx := [p.nx, uW (q.nx + 1)] } 1 _ = _
    rw [hu]; rfl
  have hA := act1 (p := p) (q := lheld q h) (f := upd Zf 1 h) (i := j) (by simp only [lheld]; omega) (by simp only [lheld]; omega) (by simp only [lheld]; omega) e
  unfold lDo
  rw [hH, hD, hA]
  have hLs : lstep q fee kind asset qty = match lact (lheld q h) kind asset qty with
      | some q => { q with f1 := q.f1 + (h - min 1 h), gt := q.gt + min 1 h }
      | none => { lheld q h with gt := q.gt + h } := by unfold lstep; rw [hh]
  rw [hLs]
  have hb : ∀ r, lact (lheld q h) kind asset qty = some r → r.gt = q.gt ∧ 0 ≤ r.f0 ∧ r.f0 ≤ 100000 ∧ 0 ≤ r.f1 ∧ r.f1 ≤ 100000 := by
    intro r hr
    have b4 := e.qty
    unfold lact lheld at hr
    dsimp only at hr
    repeat' split at hr
    all_goals first | (cases hr; done) | (injection hr with hr; subst hr; dsimp only; refine ⟨rfl, ?_, ?_, ?_, ?_⟩ <;> omega)
  cases hl : lact (lheld q h) kind asset qty with
  | some r =>
    obtain ⟨c1, c2, c3, c4, c5⟩ := hb r hl
    dsimp only
    refine ⟨{ no 0 with paid := min 1 h }, ?_⟩
    rw [show (ent2 1 j fee kind asset qty).client = 1 from rfl, lEnd_ok 2 { comb p r with f := upd Zf 1 h } (no 0) 1 h rfl rfl rfl (comb_ok (p := p) (q := r) (by omega) (by omega)) (by omega) (by show 0 ≤ p.gt + r.gt; omega) (by show p.gt + r.gt + h < _; omega) (by show r.f1 + h < _; omega)]
    show (({ comb p r with xs := [p.f0, p.f1, r.f0, r.f1 + (h - min 1 h)], f := Zf, got := p.gt + r.gt + min 1 h } : LS), _) = _
    unfold comb
    dsimp only
    rw [show p.gt + r.gt + min 1 h = p.gt + (r.gt + min 1 h) by omega]
  | none =>
    dsimp only
    refine ⟨{ no 5 with paid := h }, ?_⟩
    rw [show (ent2 1 j fee kind asset qty).client = 1 from rfl, lEnd_bad 2 { comb p (lheld q h) with f := upd Zf 1 h } (no 5) 1 h (by decide) rfl (by omega) (by show 0 ≤ p.gt + q.gt; omega) (by show p.gt + q.gt + h < _; omega)]
    show (({ comb p (lheld q h) with f := Zf, got := p.gt + q.gt + h } : LS), _) = _
    unfold comb
    dsimp only
    rw [show p.gt + q.gt + h = p.gt + (q.gt + h) by omega]
end Go.Proofs.YteabcpmpcbjicaaGreat
