
import Derived.Test.YteabcpmpcbjicaaGreatPlawG
namespace Go.Proofs.YteabcpmpcbjicaaGreat
set_option linter.unusedVariables false
set_option linter.unusedSimpArgs false
open Go Go.Proofs Go.RowKit

/-! A book that is not crossed. -/
def Unc (L M : List Ord) : Prop := ∀ b ∈ L, ∀ a ∈ M, b.price < a.price
theorem inL {o : Ord} {L M : List Ord} : ∀ b ∈ mL o L M, ∃ y ∈ L, b.price = y.price := fun b hb => by
  unfold mL mres at hb
  split at hb
  · exact ⟨b, hb, rfl⟩
  · obtain ⟨y, hy, _, e, _⟩ := mch_stand _ b hb
    exact ⟨y, hy, e⟩
theorem inM {o : Ord} {L M : List Ord} : ∀ b ∈ mM o L M, ∃ y ∈ M, b.price = y.price := fun b hb => by
  unfold mM mres at hb
  split at hb
  · obtain ⟨y, hy, _, e, _⟩ := mch_stand _ b hb
    exact ⟨y, hy, e⟩
  · exact ⟨b, hb, rfl⟩
theorem Unc.met {L M : List Ord} (h : Unc L M) (o : Ord) : Unc (mL o L M) (mM o L M) := fun b hb a ha => by
  obtain ⟨y, hy, e1⟩ := inL b hb
  obtain ⟨z, hz, e2⟩ := inM a ha
  have := h y hy z hz
  omega
theorem Unc.step {L M : List Ord} (h : Unc L M) (sL : Srt false L) (sM : Srt true M) {o : Ord} (hlq : 0 ≤ (mres o L M).2.1) : Unc (restL { o with qty := (mres o L M).2.1 } (mL o L M)) (restM { o with qty := (mres o L M).2.1 } (mM o L M)) := fun b hb a ha => by
  have un2 := h.met o
  unfold restL at hb
  unfold restM at ha
  dsimp only at hb ha
  split at hb
  · rename_i hc
    rw [if_neg (by rw [hc.2]; simp)] at ha
    rcases List.mem_cons.1 ((ins_perm false _ _).mem_iff.1 hb) with e | e
    · subst e
      have hM : mM o L M = (mch o o.qty M).2.2 := by unfold mM mres; rw [if_pos hc.2, if_pos hc.2]
      have hpos : 0 < (mch o o.qty M).2.1 := by
        have h1 := hc.1
        have h2 := hlq
        unfold mres at h1 h2
        rw [if_pos hc.2] at h1 h2
        omega
      rw [hM] at ha
      have := mch_none (o := o) (Q := M) (by rw [hc.2]; exact sM) o.qty hpos a ha
      unfold meet at this
      rw [if_pos hc.2] at this
      simp at this
      exact this
    · exact un2 b e a ha
  · split at ha
    · rename_i hc
      rcases List.mem_cons.1 ((ins_perm true _ _).mem_iff.1 ha) with e | e
      · subst e
        have hL : mL o L M = (mch o o.qty L).2.2 := by unfold mL mres; rw [hc.2]; simp
        have hpos : 0 < (mch o o.qty L).2.1 := by
          have h1 := hc.1
          have h2 := hlq
          unfold mres at h1 h2
          rw [hc.2] at h1 h2
          simp at h1 h2
          omega
        rw [hL] at hb
        have := mch_none (o := o) (Q := L) (by rw [hc.2]; exact sL) o.qty hpos b hb
        unfold meet at this
        rw [hc.2] at this
        simp at this
        exact this
      · exact un2 b hb a e
    · exact un2 b hb a ha
theorem Unc.sub {L M L' M' : List Ord} (h : Unc L M) (hL : ∀ x ∈ L', x ∈ L) (hM : ∀ x ∈ M', x ∈ M) : Unc L' M' := fun b hb a ha => h b (hL b hb) a (hM a ha)
theorem remM_mem {k : Int} {L M : List Ord} {x : Ord} (h : x ∈ remM k L M) : x ∈ M := by
  unfold remM at h
  split at h
  · exact h
  · exact sans_mem h

/-- A ledger of four whose sums are right, with fees of one held. -/
structure LSk (S : LS) (h : Int) : Prop where
  h0 : 0 ≤ h
  g : Gok (S.g0 - S.b0) (S.g1 - S.b1 - S.got - h) S.xs S.L S.M
  got : 0 ≤ S.got
  b0 : 0 ≤ S.b0 ∧ S.b0 ≤ S.g0 ∧ S.g0 ≤ 4611686018427387904
  b1 : 0 ≤ S.b1 ∧ S.b1 ≤ S.g1 ∧ S.g1 ≤ 4611686018427387904
  ok : EOk 4 S.L S.M S.k
  un : Unc S.L S.M
structure Act4 (S : LS) (h : Int) (r : LS × Rcp) : Prop where
  s : LSk r.1 h
  f : r.1.f = S.f
  got : r.1.got = S.got
  bad : r.2.code ≠ 0 → r.1 = S ∧ r.2.T = []
  paid : r.2.paid = 0
theorem lks_pos {S : LS} {h : Int} (k : LSk S h) (a : Int) : 0 ≤ lks a (S.L ++ S.M) := lks_nonneg fun x hx => (k.ok.oin x hx).1
theorem col_pos {S : LS} {h : Int} (k : LSk S h) (a : Int) (ha : aAsset a = true) : 0 ≤ col4 a S.xs := by
  have := (col4_get k.g.a (c := 0) rfl ha); omega
theorem Act4.no {S : LS} {h : Int} (k : LSk S h) (c : Int) : Act4 S h (S, no c) := ⟨k, rfl, rfl, fun _ => ⟨rfl, rfl⟩, rfl⟩
theorem dep4 {S : LS} {h c : Int} {t : Txx} (k : LSk S h) (hc : aHas 4 c = true) (ha : t.asset = 0 ∨ t.asset = 1) (hq : U t.qty) : Act4 S h (lDep 4 S c t) := by
  have gl := k.g.a.len
  have l0 := lks_pos k 0
  have l1 := lks_pos k 1
  have s0 := k.g.s0
  have s1 := k.g.s1
  have b0 := k.b0
  have b1 := k.b1
  have hu := hq
  obtain ⟨q0, q1⟩ := hu
  unfold lDep
  split
  · rename_i hd
    unfold lDepOk at hd
    simp only [Bool.and_eq_true, decide_eq_true_eq] at hd
    obtain ⟨d1, d2⟩ := hd
    unfold cAddB at d1
    simp only [decide_eq_true_eq] at d1
    rcases ha with e | e
    · have eg : lG S t.asset = S.g0 := by unfold lG; rw [if_pos e]
      rw [eg] at d1 d2
      have dn : cAddN S.g0 t.qty = S.g0 + t.qty := by unfold cAddN; rw [if_pos d1]
      rw [dn] at d2
      have hA : aAsset t.asset = true := by rw [e]; rfl
      have hv := col4_get k.g.a hc (a := t.asset) hA
      have hb : aGet S.xs c t.asset + t.qty < 18446744073709551616 := by rw [e] at hv ⊢; omega
      have p0 := col4_put (by omega) hc hA hb 0 rfl
      have p1 := col4_put (by omega) hc hA hb 1 rfl
      rw [e] at p0 p1 hb ⊢
      simp only [if_true, show ((1 : Int) = 0) = False by simp, if_false] at p0 p1 ⊢
      rw [dn]
      exact ⟨⟨k.h0, ⟨k.g.a.put c 0 hq, by show col4 0 (aPut 4 S.xs c 0 t.qty) + lks 0 (S.L ++ S.M) = S.g0 + t.qty - S.b0; omega, by show col4 1 (aPut 4 S.xs c 0 t.qty) + lks 1 (S.L ++ S.M) = S.g1 - S.b1 - S.got - h; omega, by show S.g0 + t.qty - S.b0 ≤ _; omega, k.g.b1⟩, k.got, by show 0 ≤ S.b0 ∧ S.b0 ≤ S.g0 + t.qty ∧ S.g0 + t.qty ≤ _; omega, b1, k.ok, k.un⟩, rfl, rfl, fun q => absurd rfl q, rfl⟩
    · have eg : lG S t.asset = S.g1 := by unfold lG; rw [if_neg (by omega)]
      rw [eg] at d1 d2
      have dn : cAddN S.g1 t.qty = S.g1 + t.qty := by unfold cAddN; rw [if_pos d1]
      rw [dn] at d2
      have hA : aAsset t.asset = true := by rw [e]; rfl
      have hv := col4_get k.g.a hc (a := t.asset) hA
      have gb := k.g.b1
      have hb : aGet S.xs c t.asset + t.qty < 18446744073709551616 := by rw [e] at hv ⊢; omega
      have p0 := col4_put (by omega) hc hA hb 0 rfl
      have p1 := col4_put (by omega) hc hA hb 1 rfl
      have c1 := col_pos k 1 rfl
      have kg := k.got
      rw [e] at p0 p1 hb ⊢
      simp only [if_true, show ((1 : Int) = 0) = False by simp, show ((0 : Int) = 1) = False by simp, if_false] at p0 p1 ⊢
      rw [dn]
      have hgh : S.g1 + t.qty - S.b1 - S.got - h = S.g1 - S.b1 - S.got - h + t.qty := by omega
      exact ⟨⟨k.h0, ⟨k.g.a.put c 1 hq, by show col4 0 (aPut 4 S.xs c 1 t.qty) + lks 0 (S.L ++ S.M) = S.g0 - S.b0; omega, by show col4 1 (aPut 4 S.xs c 1 t.qty) + lks 1 (S.L ++ S.M) = S.g1 + t.qty - S.b1 - S.got - h; omega, k.g.b0, by have := k.h0; show S.g1 + t.qty - S.b1 - S.got - h ≤ _; omega⟩, k.got, b0, by show 0 ≤ S.b1 ∧ S.b1 ≤ S.g1 + t.qty ∧ S.g1 + t.qty ≤ _; omega, k.ok, k.un⟩, rfl, rfl, fun q => absurd rfl q, rfl⟩
  · exact Act4.no k 4
theorem uW_le {a : Int} (h : 0 ≤ a) (h2 : a < 18446744073709551616) : uW a = a := by unfold uW; omega
theorem takeE_le {xs : List Int} {c a v : Int} (hc : aHas 4 c = true) (ha : aAsset a = true) (hE : aTakeE 4 xs c a v = 0) : v ≤ aGet xs c a := by
  unfold aTakeE at hE
  rw [if_pos (aErr_ok hc ha)] at hE
  split at hE
  · rename_i h; exact of_decide_eq_true h
  · omega
theorem wd4 {S : LS} {h c : Int} {t : Txx} (k : LSk S h) (hc : aHas 4 c = true) (ha : t.asset = 0 ∨ t.asset = 1) (hq : U t.qty) : Act4 S h (lWd 4 S c t) := by
  have gl := k.g.a.len
  have l0 := lks_pos k 0
  have l1 := lks_pos k 1
  have s0 := k.g.s0
  have s1 := k.g.s1
  have b0 := k.b0
  have b1 := k.b1
  have h0 := k.h0
  have hg := k.got
  have hu := hq
  obtain ⟨q0, q1⟩ := hu
  unfold lWd
  split
  · rename_i hE
    have hA : aAsset t.asset = true := by rcases ha with e | e <;> rw [e] <;> rfl
    have hv := col4_get k.g.a hc (a := t.asset) hA
    have hle := takeE_le hc hA hE
    have p0 := col4_take (by omega) hc hA hE 0 rfl
    have p1 := col4_take (by omega) hc hA hE 1 rfl
    have ga := k.g.a.take c t.asset (v := t.qty) hq
    rcases ha with e | e
    · rw [e] at p0 p1 hv hle ga ⊢
      simp only [if_true, show ((1 : Int) = 0) = False by simp, if_false] at p0 p1 ⊢
      rw [uW_le (a := S.b0 + t.qty) (by omega) (by omega)]
      exact ⟨⟨h0, ⟨ga, by show col4 0 (aTake 4 S.xs c 0 t.qty) + lks 0 (S.L ++ S.M) = S.g0 - (S.b0 + t.qty); omega, by show col4 1 (aTake 4 S.xs c 0 t.qty) + lks 1 (S.L ++ S.M) = S.g1 - S.b1 - S.got - h; omega, by show S.g0 - (S.b0 + t.qty) ≤ _; omega, k.g.b1⟩, k.got, by show 0 ≤ S.b0 + t.qty ∧ S.b0 + t.qty ≤ S.g0 ∧ S.g0 ≤ 4611686018427387904; omega, b1, k.ok, k.un⟩, rfl, rfl, fun q => absurd rfl q, rfl⟩
    · rw [e] at p0 p1 hv hle ga ⊢
      simp only [if_true, show ((1 : Int) = 0) = False by simp, show ((0 : Int) = 1) = False by simp, if_false] at p0 p1 ⊢
      rw [uW_le (a := S.b1 + t.qty) (by omega) (by omega)]
      exact ⟨⟨h0, ⟨ga, by show col4 0 (aTake 4 S.xs c 1 t.qty) + lks 0 (S.L ++ S.M) = S.g0 - S.b0; omega, by show col4 1 (aTake 4 S.xs c 1 t.qty) + lks 1 (S.L ++ S.M) = S.g1 - (S.b1 + t.qty) - S.got - h; omega, k.g.b0, by show S.g1 - (S.b1 + t.qty) - S.got - h ≤ _; omega⟩, k.got, b0, by show 0 ≤ S.b1 + t.qty ∧ S.b1 + t.qty ≤ S.g1 ∧ S.g1 ≤ 4611686018427387904; omega, k.ok, k.un⟩, rfl, rfl, fun q => absurd rfl q, rfl⟩
  · exact Act4.no k 5
theorem tr4 {S : LS} {h c : Int} {t : Txx} (k : LSk S h) (hc : aHas 4 c = true) (ha : t.asset = 0 ∨ t.asset = 1) (hq : U t.qty) : Act4 S h (lTr 4 S c t) := by
  have gl := k.g.a.len
  have l0 := lks_pos k 0
  have l1 := lks_pos k 1
  have s0 := k.g.s0
  have s1 := k.g.s1
  have gb0 := k.g.b0
  have gb1 := k.g.b1
  have hu := hq
  obtain ⟨q0, q1⟩ := hu
  unfold lTr
  split
  · rename_i hd
    split
    · rename_i hE
      have hA : aAsset t.asset = true := by rcases ha with e | e <;> rw [e] <;> rfl
      have hv := col4_get k.g.a hc (a := t.asset) hA
      have hle := takeE_le hc hA hE
      have p0 := col4_take (by omega) hc hA hE 0 rfl
      have p1 := col4_take (by omega) hc hA hE 1 rfl
      have ga := k.g.a.take c t.asset (v := t.qty) hq
      generalize aTake 4 S.xs c t.asset t.qty = ys at *
      have hv2 := col4_get ga hd (a := t.asset) hA
      have hb : aGet ys t.dst t.asset + t.qty < 18446744073709551616 := by
        rcases ha with e | e <;> rw [e] at hv2 ⊢ <;> omega
      have r0 := col4_put p0.2 hd hA hb 0 rfl
      have r1 := col4_put p0.2 hd hA hb 1 rfl
      have gc := ga.put t.dst t.asset hq
      exact ⟨⟨k.h0, ⟨gc, by show col4 0 (aPut 4 ys t.dst t.asset t.qty) + lks 0 (S.L ++ S.M) = S.g0 - S.b0; rw [r0.1, p0.1]; omega, by show col4 1 (aPut 4 ys t.dst t.asset t.qty) + lks 1 (S.L ++ S.M) = S.g1 - S.b1 - S.got - h; rw [r1.1, p1.1]; omega, gb0, gb1⟩, k.got, k.b0, k.b1, k.ok, k.un⟩, rfl, rfl, fun q => absurd rfl q, rfl⟩
    · exact Act4.no k 5
  · exact Act4.no k 6
theorem wIn_le {a : Int} (h : wIn a = true) : 0 ≤ a ∧ a ≤ 1048576 := by
  unfold wIn at h
  simp only [Bool.and_eq_true, decide_eq_true_eq] at h
  omega
theorem lim4 {S : LS} {h c : Int} {t : Txx} (k : LSk S h) (sL : Srt false S.L) (sM : Srt true S.M) : Act4 S h (lLim 4 S c t) := by
  unfold lLim
  split
  · rename_i hE
    obtain ⟨e1, e2, e3⟩ := mtE_zero hE ((S.k : Int) + 1)
    simp only [Bool.and_eq_true] at e2
    have ho : OIn (lOrd S c t) := ⟨wIn_le e2.1, wIn_le e2.2⟩
    have hG := k.g.limit k.ok (o := lOrd S c t) ho e1 e3
    have hlf := mres_left k.ok ho
    have hok : EOk 4 (restL (lLeft S c t) (mL (lOrd S c t) S.L S.M)) (restM (lLeft S c t) (mM (lOrd S c t) S.L S.M)) (S.k + 1) := (k.ok.met (lOrd S c t)).rest (o := lLeft S c t) rfl (ho.lt _ hlf) e1
    exact ⟨⟨k.h0, hG, k.got, k.b0, k.b1, hok, k.un.step sL sM (o := lOrd S c t) hlf.1⟩, rfl, rfl, fun q => absurd rfl q, rfl⟩
  · refine ⟨k, rfl, rfl, fun _ => ⟨rfl, rfl⟩, rfl⟩
theorem now4 {S : LS} {h c : Int} {t : Txx} (k : LSk S h) : Act4 S h (lNow 4 S c t) := by
  unfold lNow
  split
  · rename_i hE
    obtain ⟨e1, e2, e3⟩ := mtE_zero hE ((S.k : Int) + 1)
    simp only [Bool.and_eq_true] at e2
    have ho : OIn (lOrd S c t) := ⟨wIn_le e2.1, wIn_le e2.2⟩
    have hG := k.g.now k.ok (o := lOrd S c t) ho e1 e3
    have hok : EOk 4 (mL (lOrd S c t) S.L S.M) (mM (lOrd S c t) S.L S.M) (S.k + 1) := (k.ok.met (lOrd S c t)).mono (by omega)
    exact ⟨⟨k.h0, hG, k.got, k.b0, k.b1, hok, k.un.met _⟩, rfl, rfl, fun q => absurd rfl q, rfl⟩
  · refine ⟨k, rfl, rfl, fun _ => ⟨rfl, rfl⟩, rfl⟩
theorem can4 {S : LS} {h c : Int} {t : Txx} (k : LSk S h) : Act4 S h (lCan 4 S c t) := by
  unfold lCan
  split
  · rename_i hE
    obtain ⟨e1, e2⟩ := hE
    obtain ⟨o, ho⟩ : ∃ o, (pickB t.id S.L S.M).1 = o := ⟨_, rfl⟩
    have hp : pickB t.id S.L S.M = (o, true) := by rw [← ho, ← e1]
    rw [ho] at e2 ⊢
    have hG := k.g.cancel k.ok hp
    subst e2
    have hok : EOk 4 (sans t.id S.L) (remM t.id S.L S.M) S.k := k.ok.remove t.id
    exact ⟨⟨k.h0, hG, k.got, k.b0, k.b1, hok, k.un.sub (fun x hx => sans_mem hx) (fun x hx => remM_mem hx)⟩, rfl, rfl, fun q => absurd rfl q, rfl⟩
  · exact Act4.no k 8
theorem act4 {S : LS} {h c : Int} {t : Txx} (k : LSk S h) (sL : Srt false S.L) (sM : Srt true S.M) (hc : aHas 4 c = true) (ha : t.asset = 0 ∨ t.asset = 1) (hq : U t.qty) : Act4 S h (lAct 4 S c t) := by
  unfold lAct
  split
  · exact dep4 k hc ha hq
  split
  · exact wd4 k hc ha hq
  split
  · exact tr4 k hc ha hq
  split
  · exact lim4 k sL sM
  split
  · exact now4 k
  · exact can4 k
/-- What an entry does to the sums. -/
theorem do4 {S S' : LS} {e : Ent} {r : Rcp} (k : LSk S 0) (hf : S.f = Zf) (sL : Srt false S.L) (sM : Srt true S.M) (he : e.Ok) (hr : lDo 4 S e = (S', r)) :
    LSk S' 0 ∧ S'.f = Zf ∧ 0 ≤ r.paid ∧ r.paid ≤ e.fee ∧ (r.code ≠ 0 → aFree 4 S'.xs e.client 1 = aFree 4 S.xs e.client 1 - r.paid ∧ S'.L = S.L ∧ S'.M = S.M ∧ r.T = []) := by
  have hfee := he.fee
  obtain ⟨fe0, fe1⟩ := hfee
  have gl := k.g.a.len
  have l1 := lks_pos k 1
  have s1 := k.g.s1
  have b1 := k.b1
  have kg := k.got
  unfold lDo at hr
  by_cases hc : aHas 4 e.client = true
  · obtain ⟨h, hh⟩ : ∃ h, min e.fee (aGet S.xs e.client 1) = h := ⟨_, rfl⟩
    have hv := col4_get k.g.a hc (a := 1) rfl
    have hhb : 0 ≤ h ∧ h ≤ e.fee ∧ h ≤ aGet S.xs e.client 1 := by omega
    have hE1 : aErr 4 e.client 1 = 0 := aErr_ok hc rfl
    have hset := fun a (ha : aAsset a = true) => col4_set (by omega : S.xs.length = 8) hc (b := 1) rfl (aGet S.xs e.client 1 - h) a ha
    have hH : lHeld 4 S e = { S with xs := S.xs.set (aAt e.client 1) (aGet S.xs e.client 1 - h), f := upd Zf e.client h } := by
      rw [lHeld_some 4 S e hc hf k.g.a fe0, hh]
    have kH : LSk { S with xs := S.xs.set (aAt e.client 1) (aGet S.xs e.client 1 - h), f := upd Zf e.client h } h := by
      have z0 := hset 0 rfl
      have z1 := hset 1 rfl
      simp only [if_true, show ((0 : Int) = 1) = False by simp, if_false] at z0 z1
      have g0 := k.g.s0
      exact ⟨hhb.1, ⟨k.g.a.set _ (by constructor <;> have := (k.g.a.get e.client 1).2 <;> omega), by show col4 0 (S.xs.set _ _) + lks 0 (S.L ++ S.M) = S.g0 - S.b0; rw [z0]; omega, by show col4 1 (S.xs.set _ _) + lks 1 (S.L ++ S.M) = S.g1 - S.b1 - S.got - h; rw [z1]; omega, k.g.b0, by show S.g1 - S.b1 - S.got - h ≤ _; omega⟩, kg, k.b0, b1, k.ok, k.un⟩
    rw [hH] at hr
    have hfx : aFree 4 (S.xs.set (aAt e.client 1) (aGet S.xs e.client 1 - h)) e.client 1 = aFree 4 S.xs e.client 1 - h := by
      unfold aFree
      rw [if_pos hE1, if_pos hE1]
      have hi : aAt e.client 1 < S.xs.length := by
        obtain ⟨j, ej, hj⟩ := aHas_nat hc
        unfold aAt; rw [ej]; omega
      rw [aGet_set hi, if_pos rfl]
    clear hset
    generalize hS1 : ({ S with xs := S.xs.set (aAt e.client 1) (aGet S.xs e.client 1 - h), f := upd Zf e.client h } : LS) = S1 at *
    have f1 : S1.f = upd Zf e.client h := by rw [← hS1]
    have e1 : S1.L = S.L := by rw [← hS1]
    have e2 : S1.M = S.M := by rw [← hS1]
    have ex : S1.xs = S.xs.set (aAt e.client 1) (aGet S.xs e.client 1 - h) := by rw [← hS1]
    -- what was done
    have hD : ∃ S2 r2, lDone 4 S1 e = (S2, r2) ∧ LSk S2 h ∧ S2.f = upd Zf e.client h ∧ r2.paid = 0 ∧ (r2.code ≠ 0 → S2.xs = S1.xs ∧ S2.L = S1.L ∧ S2.M = S1.M ∧ r2.T = []) := by
      unfold lDone
      rw [if_pos hc]
      split
      · rename_i hg
        split
        · have ht : (e.tx.asset = 0 ∨ e.tx.asset = 1) := by
            simp only [Bool.and_eq_true] at hg
            have h2 := hg.2
            unfold txOk tIn at h2
            simp only [Bool.and_eq_true, decide_eq_true_eq] at h2
            omega
          have kN : LSk { S1 with nx := S1.nx.set e.client.toNat (uW (lNx S1 e.client + 1)) } h := ⟨kH.h0, kH.g, kH.got, kH.b0, kH.b1, kH.ok, kH.un⟩
          have hA := act4 (c := e.client) (t := e.tx) kN (by show Srt false S1.L; rw [e1]; exact sL) (by show Srt true S1.M; rw [e2]; exact sM) hc ht he.tx.qty
          generalize lAct 4 { S1 with nx := S1.nx.set e.client.toNat (uW (lNx S1 e.client + 1)) } e.client e.tx = x at *
          refine ⟨x.1, x.2, rfl, hA.s, hA.f.trans f1, hA.paid, fun q => ?_⟩
          obtain ⟨q1, q2⟩ := hA.bad q
          exact ⟨by rw [q1], by rw [q1], by rw [q1], q2⟩
        · exact ⟨_, _, rfl, kH, f1, rfl, fun _ => ⟨rfl, rfl, rfl, rfl⟩⟩
      · exact ⟨_, _, rfl, kH, f1, rfl, fun _ => ⟨rfl, rfl, rfl, rfl⟩⟩
    obtain ⟨S2, r2, hD, k2, f2, p2, bad2⟩ := hD
    rw [hD] at hr
    have gl2 := k2.g.a.len
    have m1 := lks_pos k2 1
    have t1 := k2.g.s1
    have c1 := k2.b1
    have kg2 := k2.got
    have hv2 := col4_get k2.g.a hc (a := 1) rfl
    by_cases hcode : r2.code = 0
    · have hp : 0 ≤ min 1 h ∧ min 1 h ≤ h := by omega
      rw [lEnd_ok 4 S2 r2 e.client h hcode hc f2 k2.g.a hhb.1 kg2 (by omega) (by omega)] at hr
      injection hr with r1 r3
      subst r1 r3
      have z0 := col4_set (by omega : S2.xs.length = 8) hc (b := 1) rfl (aGet S2.xs e.client 1 + (h - min 1 h)) 0 rfl
      have z1 := col4_set (by omega : S2.xs.length = 8) hc (b := 1) rfl (aGet S2.xs e.client 1 + (h - min 1 h)) 1 rfl
      simp only [if_true, show ((0 : Int) = 1) = False by simp, if_false] at z0 z1
      have y0 := k2.g.s0
      refine ⟨⟨by omega, ⟨k2.g.a.set _ (by constructor <;> omega), by show col4 0 (S2.xs.set _ _) + lks 0 (S2.L ++ S2.M) = _; rw [z0]; show _ = S2.g0 - S2.b0; omega, by show col4 1 (S2.xs.set _ _) + lks 1 (S2.L ++ S2.M) = S2.g1 - S2.b1 - (S2.got + min 1 h) - 0; rw [z1]; omega, k2.g.b0, by show S2.g1 - S2.b1 - (S2.got + min 1 h) - 0 ≤ _; omega⟩, by show 0 ≤ S2.got + min 1 h; omega, k2.b0, c1, k2.ok, k2.un⟩, rfl, hp.1, by show min 1 h ≤ e.fee; omega, fun q => absurd hcode q⟩
    · rw [lEnd_bad 4 S2 r2 e.client h hcode f2 hhb.1 kg2 (by omega)] at hr
      injection hr with r1 r3
      subst r1 r3
      obtain ⟨q1, q2, q3, q4⟩ := bad2 hcode
      refine ⟨⟨by omega, ⟨k2.g.a, k2.g.s0, by show col4 1 S2.xs + lks 1 (S2.L ++ S2.M) = S2.g1 - S2.b1 - (S2.got + h) - 0; omega, k2.g.b0, by show S2.g1 - S2.b1 - (S2.got + h) - 0 ≤ _; omega⟩, by show 0 ≤ S2.got + h; omega, k2.b0, c1, k2.ok, k2.un⟩, rfl, hhb.1, hhb.2.1, fun _ => ⟨?_, q2.trans e1, q3.trans e2, q4⟩⟩
      show aFree 4 S2.xs e.client 1 = aFree 4 S.xs e.client 1 - h
      rw [q1, ex]; exact hfx
  · have hc2 : aHas 4 e.client = false := by simpa using hc
    have cp := col_pos k 1 rfl
    rw [lHeld_none 4 S e hc2] at hr
    have hD : lDone 4 S e = (S, no 1) := by unfold lDone; rw [if_neg hc]
    have hf0 : S.f = upd Zf e.client 0 := by rw [hf, upd_zero]
    rw [hD, lEnd_bad 4 S (no 1) e.client 0 (by decide) hf0 (by omega) kg (by omega)] at hr
    injection hr with r1 r3
    subst r1 r3
    refine ⟨⟨by omega, ⟨k.g.a, k.g.s0, by show col4 1 S.xs + lks 1 (S.L ++ S.M) = S.g1 - S.b1 - (S.got + 0) - 0; omega, k.g.b0, by show S.g1 - S.b1 - (S.got + 0) - 0 ≤ _; omega⟩, by show 0 ≤ S.got + 0; omega, k.b0, b1, k.ok, k.un⟩, rfl, by show (0 : Int) ≤ 0; omega, fe0, fun _ => ⟨by show aFree 4 S.xs e.client 1 = aFree 4 S.xs e.client 1 - 0; omega, rfl, rfl, rfl⟩⟩
end Go.Proofs.YteabcpmpcbjicaaGreat
