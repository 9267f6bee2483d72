
import Derived.Test.YteabcpmpcbjicaaPool7
namespace Go.Proofs.Yteabcpmpcbjicaa
set_option linter.unusedVariables false
set_option maxRecDepth 100000
open Go Go.Proofs Go.RowKit Go.Maps
attribute [local go_sem ↓] Go.wp_at_zero Go.wp_at_succ

/-! What is chosen. -/
def bat : Nat → List Env → List Env
  | 0, _ => []
  | k + 1, l => if l = [] then [] else l.getD (idxE (lowst l) l).toNat Env.zero :: bat k (l.eraseIdx (idxE (lowst l) l).toNat)
theorem bat_nil (k : Nat) : bat k [] = [] := by cases k <;> simp [bat]
theorem bat_succ (k : Nat) {l : List Env} (h : l ≠ []) : bat (k + 1) l = l.getD (idxE (lowst l) l).toNat Env.zero :: bat k (l.eraseIdx (idxE (lowst l) l).toNat) := by
  conv => lhs; unfold bat
  rw [if_neg h]
theorem own_low {w : World} {b b' n sz : Nat} {T : TypeId} {v : Value} {xs : List Value} (h : w.ownsRow b T sz v n xs) (hb : b' ≤ b) : w.ownsRow b' T sz v n xs := by
  refine ⟨h.1, h.2.imp id fun ⟨g, c, cur, h1, h2, h3⟩ => ⟨g, c, cur, h1, by omega, h3⟩⟩
/-- One of some has the lowest nonce. -/
theorem low_ex : ∀ (l : List Env), l ≠ [] → ∃ e ∈ l, ∀ x ∈ l, e.nonce ≤ x.nonce
  | [], h => absurd rfl h
  | [x], _ => ⟨x, by simp, by simp⟩
  | x :: y :: l, _ => by
    obtain ⟨e, he, hm⟩ := low_ex (y :: l) (by simp)
    by_cases h : x.nonce ≤ e.nonce
    · refine ⟨x, by simp, fun z hz => ?_⟩
      rcases List.mem_cons.1 hz with q | q
      · rw [q]; exact Int.le_refl _
      · have := hm z q; omega
    · refine ⟨e, by simp [he], fun z hz => ?_⟩
      rcases List.mem_cons.1 hz with q | q
      · rw [q]; omega
      · exact hm z q
theorem first_some {l : List Env} (h : l ≠ []) : ∃ j, j < l.length ∧ idxE (lowst l) l = (j : Nat) := by
  rcases idxE_cases (lowst l) l with ⟨h1, _⟩ | ⟨j, h1, h2, _⟩
  · obtain ⟨e, he, hm⟩ := low_ex l h
    have := h1 e he
    unfold lowst at this
    simp only [Bool.not_eq_eq_eq_not, Bool.not_false, List.any_eq_true] at this
    obtain ⟨x, hx, hl⟩ := this
    unfold lowr at hl
    simp only [Bool.and_eq_true, decide_eq_true_eq] at hl
    have := hm x hx
    omega
  · exact ⟨j, h1, h2⟩
def lenV : Value → Nat
  | .slice _ n _ => n
  | _ => 0
set_option maxHeartbeats 1000000 in
theorem delF_nil_batch (w : World) (c c2 : Value) : Calls Try.prog 72 #[.slice none 0 0, .func (.func 73) #[] #[c, c2]] w fun e w' => e = .returned (.slice none 0 0) ∧ Chg [] w w' := by
  have HI := Lib.hid (envIndex_batch (w := w) (s := 0) (cap := 0) (a := none) (l := []) (n := 0) rfl c c2 (fun _ => true) (by omega) (.inl rfl) (fun wx cx x hx => by simp at hx))
  have hd1 : ((-1 : Int) == -1) = true := rfl
  go_enter Try.func72, Try.ntmps72
  go_wp2_with fail
  refine HI.out.mono ?_
  rintro e w2 ⟨rfl, cc⟩
  go_wp2_with fail
  go_ret
  exact ⟨rfl, cc⟩
set_option maxHeartbeats 1000000 in
theorem delF_nil_drop (w : World) (c c2 : Value) : Calls Try.prog 72 #[.slice none 0 0, .func (.func 76) #[] #[c, c2]] w fun e w' => e = .returned (.slice none 0 0) ∧ Chg [] w w' := by
  have HI := Lib.hid (envIndex_drop (w := w) (s := 0) (cap := 0) (a := none) (l := []) (n := 0) rfl c c2 (fun _ => true) (by omega) (.inl rfl) (fun wx cx x hx => by simp at hx))
  have hd1 : ((-1 : Int) == -1) = true := rfl
  go_enter Try.func72, Try.ntmps72
  go_wp2_with fail
  refine HI.out.mono ?_
  rintro e w2 ⟨rfl, cc⟩
  go_wp2_with fail
  go_ret
  exact ⟨rfl, cc⟩
/-- A slice of envelopes that a call has, in a block between B and B1. -/
def Msl (w : World) (B B1 : Nat) (v : Value) (M : List Env) : Prop := (v = .slice none 0 0 ∧ M = []) ∨ ∃ g cap, v = .slice (some ⟨g, 0, none⟩) M.length cap ∧ B ≤ g ∧ g < B1 ∧ Erow w g cap M
theorem Msl.chg {w w' : World} {B B1 : Nat} {v : Value} {M : List Env} {S : List Nat} (h : Msl w B B1 v M) (c : Chg S w w') (hs : ∀ z ∈ S, z < B ∨ B1 ≤ z) : Msl w' B B1 v M := by
  rcases h with h | ⟨g, cap, h1, h2, h3, h4⟩
  · exact .inl h
  · exact .inr ⟨g, cap, h1, h2, h3, h4.chg c (fun hm => by have := hs g hm; omega)⟩
/-- The first part of Batch: what may be chosen. -/
theorem delF_batch {w : World} {v : Value} {n B : Nat} {L : List Env} (h : w.ownsRow B 32 4 v n (flat nc L)) (hL : L.length = n) (hb : n ≤ 1000000) (c c2 : Value) (p : Env → Bool)
    (hf : ∀ wx, Chg v.ownBlock.toList w wx → ∀ x ∈ L, Calls Try.prog 73 #[nv x, c, c2] wx fun e w' => e = .returned (.bool (p x)) ∧ Chg [] wx w') :
    Calls Try.prog 72 #[v, .func (.func 73) #[] #[c, c2]] w fun e w' => ∃ v', e = .returned v' ∧ Msl w' B w.heap.size v' (L.filter fun x => !p x) ∧ Chg v.ownBlock.toList w w' := by
  rcases own_erow h with ⟨rfl, rfl, rfl⟩ | ⟨g, cap, rfl, hB, _, hE⟩
  · refine (delF_nil_batch w c c2).mono ?_
    rintro e w' ⟨rfl, cc⟩
    exact ⟨_, rfl, .inl ⟨rfl, rfl⟩, cc.mono (by simp)⟩
  · refine (envDelF_batch hE hL hb c c2 p (fun wx cx x hx => hf wx (by simpa [Value.ownBlock] using cx) x hx)).mono ?_
    rintro e w' ⟨m, rfl, hm, hE2, cc⟩
    exact ⟨_, rfl, .inr ⟨g, cap, by rw [hm], hB, hE.lt, hE2⟩, by simpa [Value.ownBlock] using cc⟩
theorem delF_drop {w : World} {v : Value} {n B : Nat} {L : List Env} (h : w.ownsRow B 32 4 v n (flat nc L)) (hL : L.length = n) (hb : n ≤ 1000000) (c c2 : Value) (p : Env → Bool)
    (hf : ∀ wx, Chg v.ownBlock.toList w wx → ∀ x ∈ L, Calls Try.prog 76 #[nv x, c, c2] wx fun e w' => e = .returned (.bool (p x)) ∧ Chg [] wx w') :
    Calls Try.prog 72 #[v, .func (.func 76) #[] #[c, c2]] w fun e w' => ∃ v', e = .returned v' ∧ w'.ownsRow B 32 4 v' (L.filter fun x => !p x).length (flat nc (L.filter fun x => !p x)) ∧ v'.ownBlock = v.ownBlock ∧ Chg v.ownBlock.toList w w' := by
  rcases own_erow h with ⟨rfl, rfl, rfl⟩ | ⟨g, cap, rfl, hB, _, hE⟩
  · refine (delF_nil_drop w c c2).mono ?_
    rintro e w' ⟨rfl, cc⟩
    exact ⟨_, rfl, ⟨by simp [flat], .inl ⟨rfl, rfl⟩⟩, rfl, cc.mono (by simp)⟩
  · refine (envDelF_drop hE hL hb c c2 p (fun wx cx x hx => hf wx (by simpa [Value.ownBlock] using cx) x hx)).mono ?_
    rintro e w' ⟨m, rfl, hm, hE2, cc⟩
    exact ⟨_, rfl, by rw [hm]; exact hE2.own hB hm, rfl, by simpa [Value.ownBlock] using cc⟩
set_option maxHeartbeats 8000000 in
theorem pBatch {w w0 : World} {g l p nl : Nat} {FE FL FP : List Nat} {W : WS} {S : LS} {most : Int} {L : List Env} {t tl : Nat} (h : PX w w0 g l p nl FE FL FP W S most L t tl) (ht : t ≤ 900000) (hL : L.length ≤ 1000) (hLo : ∀ x ∈ L, x.Ok ∧ x ∈ W.T)
    (n : Int) (hn : n ≤ 1000000) (a : Option Addr) (zs : List Int) (k cap : Nat) (hz : zs.length = k) (hk : k ≤ 1000000) (hI : Isl w0 a zs) (R : List Env) (hR : bat n.toNat (L.filter fun x => !decide (ePos W.T x ∈ zs)) = R) :
    Calls Try.prog 24 #[.pointer (some ⟨p, 0, none⟩), .int .i64 n, .slice a k cap] w0 fun y w' => ∃ v, y = .returned v ∧ w'.ownsRow w0.heap.size 32 4 v R.length (flat nc R) ∧ Chg [] w0 w' := by
  have HH := Lib.hid h
  have HI := Lib.hid hI
  have HLO := Lib.hid hLo
  have HZ := Lib.hid hz
  have HR := Lib.hid hR
  obtain ⟨nL, hnL⟩ : ∃ m, L.length = m := ⟨_, rfl⟩
  have HNL := Lib.hid hnL
  rw [hnL] at hL
  clear h hI hLo hz hR hnL
  go_enter Try.func24, Try.ntmps24
  go_upto_region 1 with (fail)
  have b3 := Blk.new w0 [.pointer (some ⟨p, 0, none⟩)] 27
  have b5 := Blk.new (w0.alloc (.cells #[.pointer (some ⟨p, 0, none⟩)] 27)) [.slice a k cap] 46
  have c1 : Chg [] w0 ((w0.alloc (.cells #[.pointer (some ⟨p, 0, none⟩)] 27)).alloc (.cells #[.slice a k cap] 46)) := ((Chg.refl _ _).alloc _).alloc _
  have hs1 : ((w0.alloc (.cells #[.pointer (some ⟨p, 0, none⟩)] 27)).alloc (.cells #[.slice a k cap] 46)).heap.size = w0.heap.size + 2 := by simp
  have hs0 : (w0.alloc (.cells #[.pointer (some ⟨p, 0, none⟩)] 27)).heap.size = w0.heap.size + 1 := by simp
  rw [hs0] at b5
  have b3 := b3.alloc (.cells #[.slice a k cap] 46)
  have q3 := b3.at (i := 0) rfl
  have q5 := b5.at (i := 0) rfl
  have HC1 := Lib.hid c1
  have HS1 := Lib.hid hs1
  clear b3 b5 c1 hs1 hs0
  obtain ⟨z3, hz3⟩ : ∃ z, w0.heap.size = z := ⟨_, rfl⟩
  have HZ3 := Lib.hid hz3
  rw [hz3] at q3 q5 HS1
  (try simp only [hz3])
  clear hz3
  generalize (w0.alloc _).alloc _ = W1 at *
  have HX1 := Lib.hid (HH.out.to HC1.out)
  go_wp2_with fail
  refine (pAll HX1.out.p HNL.out (by omega)).mono ?_
  rintro y W2 ⟨v, rfl, ho2, c2⟩
  have HX2 := Lib.hid (HX1.out.to c2)
  have HQ3 := Lib.hid (c2.cell q3 (by simp))
  have HQ5 := Lib.hid (c2.cell q5 (by simp))
  have hvb : ∀ z ∈ v.ownBlock.toList, z3 + 2 ≤ z := fun z hz => by have := own_base ho2 z (by simpa using hz); have := HS1.out; omega
  have hvl : ∀ z ∈ v.ownBlock.toList, z < W2.heap.size := fun z hz => (ho2.lt z (by simpa using hz)).2
  have HI2 := Lib.hid ((HI.out.chg HC1.out (by simp)).chg c2 (by simp))
  have HO2 := Lib.hid ho2
  have hI0 : ∀ o, a = some o → zs ≠ [] → o.block < z3 := fun o ho hne => by
    rcases HI.out with q | ⟨g, e, hb⟩
    · exact absurd q hne
    · rw [e] at ho; injection ho with ho; subst ho; have := hb.lt; have := HZ3.out; show g < z3; omega
  have HVB := Lib.hid hvb
  have HI0 := Lib.hid hI0
  have HC2 := Lib.hid (HC1.out.trans c2)
  have HSZ := Lib.hid c2.size
  have HXF : Hid (∀ z ∈ v.ownBlock.toList, z ∉ FE ∧ z ∉ FL ∧ z ∉ FP ∧ w.heap.size ≤ z) := fun z hz => by
    have h1 := hvb z hz
    have h2 := HZ3.out
    have h3 := HH.out.e.c.size
    exact ⟨fun hm => by have := (HH.out.e.lt z hm).2; omega, fun hm => by have := (HH.out.l.lt z hm).2; omega, fun hm => by have := HH.out.p.lt z hm; omega, by omega⟩
  obtain ⟨vP, hdP, -, -⟩ := HX2.out.p.hd
  have HP0 := Lib.hid (hdP.at (i := 0) rfl)
  have HPF : Hid (∀ z ∈ v.ownBlock.toList, p ≠ z) := fun z hz e => (HXF.out z hz).2.2.1 (e ▸ HH.out.p.inF)
  have HDF := Lib.hid (delF_batch ho2 HNL.out (by omega) (.pointer (some ⟨z3 + 1, 0, none⟩)) (.pointer (some ⟨z3, 0, none⟩)) (fun x => decide (ePos W.T x ∈ zs)) (fun wx cx x hx => by
    refine batchLit (nl := nl) (l := l) (S := S) (most := most) (L := L) (FL := FL) (FP := FP) (tl := tl) ((HX2.out.aside cx HXF.out).e) ht (cx.cell HP0.out (fun hm => HPF.out _ hm rfl)) (cx.cell HQ5.out (fun hm => absurd (HVB.out _ hm) (by show ¬ (z3 + 2 ≤ z3 + 1); omega))) (cx.cell HQ3.out (fun hm => absurd (HVB.out _ hm) (by show ¬ (z3 + 2 ≤ z3); omega))) HZ.out (by omega) ?_ x (HLO.out x hx).1 (HLO.out x hx).2
    rcases HI2.out with q | ⟨g, e, hb⟩
    · exact .inl q
    · by_cases hne : zs = []
      · exact .inl hne
      · exact .inr ⟨g, e, hb.chg cx (fun hm => by have h1 : g < z3 := HI0.out _ e hne; have := HVB.out _ hm; omega)⟩))
  clear ho2 c2 hdP hI0 hvb q3 q5
  go_wp2_with fail
  refine HDF.out.mono ?_
  rintro y W3 ⟨v7, rfl, hM, c3⟩
  have HC3 : Hid (Chg [] w0 W3) := HC2.out.trans' c3 (fun z hz => .inr (by have := HVB.out z hz; have := HZ3.out; omega))
  obtain ⟨L0, hL0⟩ : ∃ l, (L.filter fun x => !decide (ePos W.T x ∈ zs)) = l := ⟨_, rfl⟩
  have hl0 : L0.length ≤ 1000 := by
    rw [← hL0]
    have := List.length_filter_le (fun x => !decide (ePos W.T x ∈ zs)) L
    have := HNL.out
    omega
  rw [hL0] at hM HR
  obtain ⟨B, hB⟩ : ∃ b, W1.heap.size = b := ⟨_, rfl⟩
  obtain ⟨B1, hB1⟩ : ∃ b, W2.heap.size = b := ⟨_, rfl⟩
  rw [hB, hB1] at hM
  have hB3 : w0.heap.size ≤ B := by have := HS1.out; have := HZ3.out; omega
  have hB4 : B1 ≤ W3.heap.size := by have := c3.size; omega
  have hMb : B ≤ B1 := by have := HX1.out.e.c; rw [← hB, ← hB1]; exact HSZ.out
  have HMS := Lib.hid hM
  have HL0 := Lib.hid hl0
  clear hM hL0 hB hB1 c3 hl0 hvl HDF HX2 HX1 HQ3 HQ5 HP0 HPF HXF HI2 HI0 HVB
  obtain ⟨i0, hi, hz0, hz1, hz2⟩ := info_parts info_env
  obtain ⟨a7, c7, hv7⟩ : ∃ a7 c7, v7 = .slice a7 L0.length c7 := by
    rcases HMS.out with ⟨h1, h2⟩ | ⟨g, cp, h1, _⟩
    · exact ⟨none, 0, by rw [h1, h2]; rfl⟩
    · exact ⟨_, cp, h1⟩
  subst hv7
  go_wp2_with fail
  go_loopw [7, 8] (fun va vb wx => ∃ (M out : List Env) (m q : Nat) (a7 a8 : Option Addr) (c7 c8 : Nat), va = .slice a7 m c7 ∧ vb = .slice a8 q c8 ∧ Hid (M.length = m ∧ out.length = q) ∧ m + q ≤ 1000 ∧ Hid (Msl wx B B1 (.slice a7 m c7) M) ∧ Hid (wx.ownsRow B1 32 4 (.slice a8 q c8) q (flat nc out)) ∧ Hid (out ++ bat (n.toNat - q) M = R) ∧ Hid (Chg [] w0 wx) ∧ B1 ≤ wx.heap.size) (fun va _ _ => lenV va)
  case atStart => exact ⟨L0, [], L0.length, 0, a7, none, c7, 0, rfl, rfl, ⟨rfl, rfl⟩, HL0.out, HMS, ⟨by simp [flat], .inl ⟨rfl, rfl⟩⟩, by simpa [Hid] using HR.out, HC3, hB4⟩
  case round =>
    clear HMS HR HC3 hB4 HL0
    obtain ⟨M, out, m, q, a7, a8, c7, c8, rfl, rfl, HLN, hmq, HMS, HOU, HR, HC, hBx⟩ := hrel
    have i1 : (m : Int) ≤ 1000 := by omega
    have i2 : (q : Int) ≤ 1000 := by omega
    by_cases hgo : (q : Int) < n ∧ 0 < m
    · have d1 : decide ((q : Int) < n) = true := by simpa using hgo.1
      have d2 : decide ((m : Int) > 0) = true := by simp; omega
      have d2' : decide ((0 : Int) < (m : Int)) = true := by simp; omega
      have d3' : decide (0 < m) = true := by simp; omega
      have hne : M ≠ [] := fun e => by have := HLN.out.1; rw [e] at this; simp at this; omega
      obtain ⟨j, hjm, hji⟩ := first_some hne
      rw [HLN.out.1] at hjm
      have j1 : (0 : Int) ≤ (j : Int) := by omega
      have j2 : (j : Int) < (m : Int) := by omega
      have j3 : (j : Int) < 1000 := by omega
      obtain ⟨gM, hveq, hg1, hg2, hEr⟩ : ∃ gM, a7 = some ⟨gM, 0, none⟩ ∧ B ≤ gM ∧ gM < B1 ∧ Erow wr gM c7 M := by
        rcases HMS.out with ⟨_, h2⟩ | ⟨g, cp, h1, h2, h3, h4⟩
        · exact absurd h2 hne
        · injection h1 with e1 e2 e3
          exact ⟨g, e1, h2, h3, e3 ▸ h4⟩
      subst hveq
      have hbat : bat (n.toNat - q) M = M.getD j Env.zero :: bat (n.toNat - (q + 1)) (M.eraseIdx j) := by
        rw [show n.toNat - q = (n.toNat - (q + 1)) + 1 by omega, bat_succ _ hne, hji, Int.toNat_natCast]
      have HBT := Lib.hid hbat
      have HJI := Lib.hid hji
      have HER := Lib.hid hEr
      have hm0 : 0 < m := hgo.2
      have hqn : (q : Int) < n := hgo.1
      clear hgo hne hbat hji hEr HMS
      go_wp2_with fail
      refine (pFirst HLN.out.1 (by omega) (.inr ⟨gM, rfl, HER.out.beg⟩)).mono ?_
      rw [HJI.out]
      rintro y W5 ⟨rfl, c5⟩
      replace HER := Lib.hid (HER.out.chg c5 (by simp))
      replace HOU := Lib.hid (own_chg2 HOU.out c5 (by simp))
      replace HC := Lib.hid (HC.out.trans c5)
      have hB5 : B1 ≤ W5.heap.size := by have := c5.size; omega
      have hjM : j < M.length := by rw [HLN.out.1]; exact hjm
      obtain ⟨e0, e1, e2, e3⟩ := Nrow.at HER.out.beg hjM
      generalize M.getD j Env.zero = x at *
      have none1 : ∀ u ∈ nc x, u.oneCell' = true := fun u hu => flat_one [x] u (by simpa [flat] using hu)
      clear c5 hBx hjM
      go_wp2_with (at_builtin; refine wpList_append_own _ rfl (.tmp 25) (.tmp 30) 29 rfl B1 32 i0 (nv Env.zero) 4 32 Try.underlying29 hi hz0 hz1 hz2 rfl (by decide) _ q (flat nc out) rfl (HOU.out.alloc _) ⟨W5.heap.size, 0, none⟩ 1 1 (nc x) rfl rfl ?c1 ?c2 ?c3 ?c4 ?c5 ?_)
      case c1 => exact fun j u hu => by rw [add_none, Nat.zero_add]; exact (Blk.new W5 (nc x) 32).at hu
      case c2 => exact none1
      case c3 => unfold maxLen; omega
      case c4 => omega
      case c5 => simp; omega
      intro v8 W6 hown6 hg6 _
      obtain ⟨a9, c9, hv9⟩ := own_slice hown6
      subst hv9
      have c6 : Chg (Value.slice a8 q c8).ownBlock.toList W5 W6 := ((Chg.refl _ _).alloc _).grown hg6 (fun k hk => .inl (by simp [hk]))
      have hob : ∀ z ∈ (Value.slice a8 q c8).ownBlock.toList, B1 ≤ z := fun z hz => own_base HOU.out z (by simpa using hz)
      have hER6 := HER.out.chg c6 (fun hm => by have := hob _ hm; omega)
      have HC6 : Hid (Chg [] w0 W6) := HC.out.trans' c6 (fun z hz => .inr (by have := hob z hz; omega))
      have HO6 : Hid (W6.ownsRow B1 32 4 (.slice a9 (q + 1) c9) (q + 1) (flat nc (out ++ [x]))) := by
        show World.ownsRow _ _ _ _ _ _ _
        rw [flat_append]
        simpa [flat] using hown6
      have hB6 : B1 ≤ W6.heap.size := by have := c6.size; omega
      have HER6 := Lib.hid hER6
      have wj : IntKind.i64.wrap ((j : Int) + 1) = (j : Int) + 1 := by simp [IntKind.wrap, IntKind.bits, IntKind.signed]; omega
      clear hown6 hg6 c6 hER6 HER HOU HC e0 e1 e2 e3 none1
      go_wp2_with fail
      refine (envDelete HER6.out HLN.out.1 j hjm).mono ?_
      rintro y W7 ⟨rfl, hE7, c7'⟩
      have HE7 := Lib.hid hE7
      have HO7 := Lib.hid (own_chg2 HO6.out c7' (fun k hk => by have := own_base HO6.out k hk; simp; omega))
      have HC7 : Hid (Chg [] w0 W7) := HC6.out.trans' c7' (fun z hz => .inr (by simp at hz; omega))
      have hB7 : B1 ≤ W7.heap.size := by have := c7'.size; omega
      have hle : (M.eraseIdx j).length = m - 1 := by rw [List.length_eraseIdx, HLN.out.1, if_pos hjm]
      have HLE := Lib.hid hle
      clear hE7 c7' HO6 HC6 HER6 hle
      go_wp2_with fail
      go_roundw
      case rel => exact ⟨M.eraseIdx j, out ++ [x], m - 1, q + 1, _, _, _, _, rfl, rfl, ⟨HLE.out, by rw [List.length_append, HLN.out.2]; rfl⟩, by omega, .inr ⟨gM, c7, by rw [HLE.out], hg1, hg2, HE7.out⟩, HO7, by
        show _ = _
        rw [List.append_assoc]
        have := HR.out
        rw [HBT.out] at this
        exact this, HC7, hB7⟩
      case measure => simp [lenV]; omega
    · have hRo : Hid (R = out) := by
        show _ = _
        rw [← HR.out]
        by_cases h0 : 0 < m
        · have : n.toNat - q = 0 := by omega
          rw [this]; simp [bat]
        · have : M = [] := List.eq_nil_of_length_eq_zero (by have := HLN.out.1; omega)
          rw [this, bat_nil, List.append_nil]
      have HO8 : Hid (wr.ownsRow w0.heap.size 32 4 (.slice a8 q c8) R.length (flat nc R)) := by
        have h1 := own_low HOU.out (b' := w0.heap.size) (by omega)
        have h2 := HLN.out.2
        show World.ownsRow _ _ _ _ _ _ _
        rw [hRo.out, h2]
        exact h1
      by_cases h1 : (q : Int) < n
      · have h0 : m = 0 := by omega
        have d1 : decide ((q : Int) < n) = true := by simpa using h1
        subst h0
        go_wp2_with fail
        go_ret
        exact ⟨_, rfl, HO8.out, HC.out⟩
      · have d1 : decide ((q : Int) < n) = false := by simpa using h1
        go_wp2_with fail
        go_ret
        exact ⟨_, rfl, HO8.out, HC.out⟩
set_option maxHeartbeats 4000000 in
theorem pDrop {w w0 : World} {g l p nl : Nat} {FE FL FP : List Nat} {W : WS} {S : LS} {most : Int} {L : List Env} {t tl : Nat} (h : PX w w0 g l p nl FE FL FP W S most L t tl) (ht : t ≤ 900000) (hL : L.length ≤ 1000) (hLo : ∀ x ∈ L, x.Ok ∧ x ∈ W.T)
    (a : Option Addr) (zs : List Int) (k cap : Nat) (hz : zs.length = k) (hk : k ≤ 1000000) (hI : Isl w0 a zs) (hnF : ∀ o, a = some o → o.block ∉ FP) (R : List Env) (hR : (L.filter fun x => !decide (ePos W.T x ∈ zs)) = R) :
    Calls Try.prog 25 #[.pointer (some ⟨p, 0, none⟩), .slice a k cap] w0 fun y w' => y = .returned (.tuple #[]) ∧ ∃ FP', PX w w' g l p nl FE FL FP' W S most R t tl ∧ Chg FP w0 w' ∧ Grw w0.heap.size FP FP' := by
  have HH := Lib.hid h
  have HI := Lib.hid hI
  have HLO := Lib.hid hLo
  have HZ := Lib.hid hz
  have HR := Lib.hid hR
  obtain ⟨nL, hnL⟩ : ∃ m, L.length = m := ⟨_, rfl⟩
  have HNL := Lib.hid hnL
  rw [hnL] at hL
  clear h hI hLo hz hR hnL
  go_enter Try.func25, Try.ntmps25
  go_upto_region 1 with (fail)
  have b3 := Blk.new w0 [.pointer (some ⟨p, 0, none⟩)] 27
  have b5 := Blk.new (w0.alloc (.cells #[.pointer (some ⟨p, 0, none⟩)] 27)) [.slice a k cap] 46
  have c1 : Chg [] w0 ((w0.alloc (.cells #[.pointer (some ⟨p, 0, none⟩)] 27)).alloc (.cells #[.slice a k cap] 46)) := ((Chg.refl _ _).alloc _).alloc _
  have hs0 : (w0.alloc (.cells #[.pointer (some ⟨p, 0, none⟩)] 27)).heap.size = w0.heap.size + 1 := by simp
  rw [hs0] at b5
  have b3 := b3.alloc (.cells #[.slice a k cap] 46)
  have q3 := b3.at (i := 0) rfl
  have q5 := b5.at (i := 0) rfl
  have HC1 := Lib.hid c1
  clear b3 b5 c1 hs0
  obtain ⟨z3, hz3⟩ : ∃ z, w0.heap.size = z := ⟨_, rfl⟩
  have HZ3 := Lib.hid hz3
  rw [hz3] at q3 q5
  (try simp only [hz3])
  clear hz3
  generalize (w0.alloc _).alloc _ = W1 at *
  have HX1 := Lib.hid (HH.out.to HC1.out)
  have HXD := Lib.hid (HX1.out.to ((Chg.refl [] W1).drew))
  obtain ⟨v, hdP, hoP, hvP⟩ := HXD.out.p.hd
  rw [HNL.out] at hoP
  obtain ⟨aP, cP, hve, -⟩ := own_nsl hoP
  subst hve
  have p2 : W1.cell? ⟨p, 2, none⟩ = some (.slice aP nL cP) := hdP.at (i := 2) rfl
  have hpf : W1.frozen? ⟨p, 2, none⟩ = false := hdP.free 2
  have HQ3 : Hid (W1.drew.cell? ⟨z3, 0, none⟩ = some (.pointer (some ⟨p, 0, none⟩))) := q3
  have HQ5 : Hid (W1.drew.cell? ⟨z3 + 1, 0, none⟩ = some (.slice a k cap)) := q5
  have HP0 := Lib.hid (hdP.at (i := 0) rfl)
  have hpz : p < z3 := by have := HH.out.p.lt p HH.out.p.inF; have := HZ3.out; omega
  have hvb : ∀ z ∈ (Value.slice aP nL cP).ownBlock.toList, z < z3 ∧ z ∈ FP ∧ z ≠ p := fun z hz => by
    have h1 := hvP z (by simpa using hz)
    have h2 := HH.out.p.lt z h1
    have h3 := HZ3.out
    have h4 := own_base hoP z (by simpa using hz)
    exact ⟨by omega, h1, by omega⟩
  have HVB := Lib.hid hvb
  have HXF : Hid (∀ z ∈ (Value.slice aP nL cP).ownBlock.toList, z ∉ FE) := fun z hz hm => (HH.out.d1 z hm).2 (hvb z hz).2.1
  have HI2 : Hid (Isl W1.drew a zs) := HI.out.chg (HC1.out.drew) (by simp)
  have HNF := Lib.hid hnF
  have HDF := Lib.hid (delF_drop hoP HNL.out (by omega) (.pointer (some ⟨z3 + 1, 0, none⟩)) (.pointer (some ⟨z3, 0, none⟩)) (fun x => decide (ePos W.T x ∈ zs)) (fun wx cx x hx => by
    refine dropLit (nl := nl) (l := l) (S := S) (most := most) (L := L) (FL := FL) (FP := FP) (tl := tl) (HXD.out.e.aside cx (fun z hz => ⟨HXF.out z hz, HH.out.lo z (HVB.out z hz).2.1⟩)) ht (cx.cell HP0.out (fun hm => (HVB.out _ hm).2.2 rfl)) (cx.cell HQ5.out (fun hm => absurd (HVB.out _ hm).1 (by show ¬ (z3 + 1 < z3); omega))) (cx.cell HQ3.out (fun hm => absurd (HVB.out _ hm).1 (by show ¬ (z3 < z3); omega))) HZ.out (by omega) (HI2.out.chg cx (fun z hz o ho e => HNF.out o ho (e ▸ (HVB.out z hz).2.1))) x (HLO.out x hx).1 (HLO.out x hx).2))
  rw [HR.out] at HDF
  have HD := Lib.hid hdP
  have HVP := Lib.hid hvP
  have HOP := Lib.hid hoP
  clear hdP hoP hvP hvb hnF
  have hsW : z3 ≤ W1.heap.size := by have := HC1.out.size; have := HZ3.out; omega
  go_region_law ((go_simp; go_at_call 72; (refine HDF.out.mono ?_); rintro y w2 ⟨v2, rfl, ho2, hv2, cc⟩; obtain ⟨a2, c2, rfl⟩ := own_slice ho2; have q3' := cc.cell q3 (fun hm => absurd (HVB.out _ hm).1 (by show ¬ (z3 < z3); omega)); have hD2 := HD.out.chg cc (fun hm => (HVB.out _ hm).2.2 rfl); have p22 := hD2.at (i := 2) rfl; have pf2 := hD2.free 2; dsimp only))
  all_goals
    have hb3 := hD2.set 2 (.slice a2 R.length c2)
    have hvq : ∀ z, Value.ownBlock (.slice a2 R.length c2) = some z → z ∈ FP ∧ z ≠ p := fun z hz => by
      have h1 := HVB.out z (by simpa using (hv2 ▸ hz))
      exact h1.2
    have ho3 : (w2.setCell ⟨p, 2, none⟩ (.slice a2 R.length c2)).ownsRow (p + 1) 32 4 (.slice a2 R.length c2) R.length (flat nc R) := own_sto ho2 (fun k hk => (hvq k hk).2)
    have c11 : Chg (p :: (Value.slice aP nL cP).ownBlock.toList) W1.drew (w2.setCell ⟨p, 2, none⟩ (.slice a2 R.length c2)) := (cc.mono (fun z hz => by simp [hz])).setCell _ _ (.inl (by simp))
    obtain ⟨FP1, hP1, hcP1, hgP1⟩ := HXD.out.p.push HD.out HVP.out c11 hb3 ho3 (fun k hk => .inl (hvq k hk).1)
    have hX1' := HXD.out.pool hP1 hcP1 hgP1
    have hC9 : Chg FP w0 (w2.setCell ⟨p, 2, none⟩ (.slice a2 R.length c2)) := (HC1.out.drew.mono (by simp)).trans hcP1
    have hG9 : Grw w0.heap.size FP FP1 := fun z hz => (hgP1 z hz).imp id (fun q => Nat.le_trans HC1.out.drew.size q)
    clear hb3 ho3 c11 hP1 hcP1 hgP1 ho2 hD2
    go_wp2_with fail
    go_end0
    exact ⟨rfl, FP1, hX1', hC9, hG9⟩
end Go.Proofs.Yteabcpmpcbjicaa
