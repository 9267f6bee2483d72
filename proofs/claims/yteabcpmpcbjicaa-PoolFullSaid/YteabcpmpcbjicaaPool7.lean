
import Derived.Test.YteabcpmpcbjicaaPool6
namespace Go.Proofs.Yteabcpmpcbjicaa
set_option linter.unusedVariables false
set_option maxRecDepth 100000
open Go Go.Proofs Go.RowKit Go.Maps
attribute [local go_sem ↓] Go.wp_at_zero Go.wp_at_succ

def set4 (c : List Value) (i : Nat) (e : Env) : List Value := (((c.set i (.int .i64 e.client)).set (i + 1) (.int .u64 e.nonce)).set (i + 2) (.int .u64 e.fee)).set (i + 3) (.int .i64 e.cipher)
theorem flat_setE : ∀ (l : List Env) (k : Nat) (e : Env), k < l.length → set4 (flat nc l) (k * 4) e = flat nc (l.set k e)
  | [], k, e, h => by simp at h
  | x :: l, 0, e, h => by simp [flat, nc, set4]
  | x :: l, k + 1, e, h => by
    have ih := flat_setE l k e (by simpa using h)
    rw [List.set_cons_succ]
    show set4 (nc x ++ flat nc l) _ _ = nc x ++ flat nc (l.set k e)
    rw [← ih]
    have g : ∀ (c : List Value) (j : Nat) (v : Value), (nc x ++ c).set (j + 4) v = nc x ++ c.set j v := fun c j v => by
      rw [List.set_append_right _ _ (by rw [nc_len]; omega), nc_len, show j + 4 - 4 = j by omega]
    unfold set4
    rw [show (k + 1) * 4 = k * 4 + 4 by omega, show k * 4 + 4 + 1 = k * 4 + 1 + 4 by omega, show k * 4 + 4 + 2 = k * 4 + 2 + 4 by omega, show k * 4 + 4 + 3 = k * 4 + 3 + 4 by omega, g, g, g, g]
def sto4 (w : World) (g i : Nat) (e : Env) : World := (((w.setCell ⟨g, i, none⟩ (.int .i64 e.client)).setCell ⟨g, i + 1, none⟩ (.int .u64 e.nonce)).setCell ⟨g, i + 2, none⟩ (.int .u64 e.fee)).setCell ⟨g, i + 3, none⟩ (.int .i64 e.cipher)
theorem sto4_chg {w : World} {g i : Nat} {e : Env} : Chg [g] w (sto4 w g i e) :=
  ((((Chg.refl [g] w).setCell _ _ (.inl (by simp))).setCell _ _ (.inl (by simp))).setCell _ _ (.inl (by simp))).setCell _ _ (.inl (by simp))
/-- The row, in full. -/
theorem Erow.full {w : World} {g cap : Nat} {M : List Env} (h : Erow w g cap M) : ∃ sp, Blk w g 32 (flat nc M ++ sp) ∧ (flat nc M ++ sp).length = cap * 4 ∧ M.length ≤ cap ∧ cap ≤ maxLen := by
  obtain ⟨cur, h1, h2, h3, h4, h5⟩ := h
  refine ⟨cur.toList.drop (M.length * 4), ?_, ?_, h2, h3⟩
  · unfold Blk; rw [h1, ← h5, List.take_append_drop]
  · rw [← h5, List.take_append_drop]; simpa using h4
theorem Erow.of {w : World} {g cap : Nat} {M : List Env} {sp : List Value} (h : Blk w g 32 (flat nc M ++ sp)) (hl : (flat nc M ++ sp).length = cap * 4) (h2 : M.length ≤ cap) (h3 : cap ≤ maxLen) : Erow w g cap M :=
  ⟨(flat nc M ++ sp).toArray, h, h2, h3, by simpa using hl, by
    rw [List.toList_toArray, List.take_append_of_le_length (by rw [flat_len nc_len]; exact Nat.le_refl _), List.take_of_length_le (by rw [flat_len nc_len]; exact Nat.le_refl _)]⟩
theorem Erow.sto {w : World} {g cap : Nat} {M : List Env} (h : Erow w g cap M) {i : Nat} (hi : i < M.length) (e : Env) : Erow (sto4 w g (i * 4) e) g cap (M.set i e) := by
  obtain ⟨sp, hb, hl, h2, h3⟩ := h.full
  have hf := flat_len nc_len M
  have hb2 := (((hb.set (i * 4) (.int .i64 e.client)).set (i * 4 + 1) (.int .u64 e.nonce)).set (i * 4 + 2) (.int .u64 e.fee)).set (i * 4 + 3) (.int .i64 e.cipher)
  have he : ((((flat nc M ++ sp).set (i * 4) (.int .i64 e.client)).set (i * 4 + 1) (.int .u64 e.nonce)).set (i * 4 + 2) (.int .u64 e.fee)).set (i * 4 + 3) (.int .i64 e.cipher) = flat nc (M.set i e) ++ sp := by
    rw [← flat_setE M i e hi]
    unfold set4
    rw [List.set_append_left _ _ (by omega), List.set_append_left _ _ (by simp; omega), List.set_append_left _ _ (by simp; omega), List.set_append_left _ _ (by simp; omega)]
  rw [he] at hb2
  exact Erow.of hb2 (by rw [List.length_append, flat_len nc_len, List.length_set, ← hf, ← List.length_append]; exact hl) (by simpa using h2) h3
theorem Erow.shorter {w : World} {g cap : Nat} {M : List Env} (h : Erow w g cap M) (k : Nat) : Erow w g cap (M.take k) := by
  obtain ⟨sp, hb, hl, h2, h3⟩ := h.full
  have e : flat nc M = flat nc (M.take k) ++ flat nc (M.drop k) := by rw [← flat_append, List.take_append_drop]
  rw [e, List.append_assoc] at hb hl
  exact Erow.of hb hl (by rw [List.length_take]; omega) h3
/-- One more is looked at: it goes. -/
theorem keep_skip {p : Env → Bool} {L : List Env} {j : Nat} (hj : j < L.length) (h : p (L.getD j Env.zero) = true) : (L.take (j + 1)).filter (fun x => !p x) = (L.take j).filter (fun x => !p x) := by
  rw [take_snocE hj, List.filter_append]
  generalize L.getD j Env.zero = x at *
  simp [h]
theorem keep_more {p : Env → Bool} {L : List Env} {j : Nat} (hj : j < L.length) (h : p (L.getD j Env.zero) = false) : (L.take (j + 1)).filter (fun x => !p x) = (L.take j).filter (fun x => !p x) ++ [L.getD j Env.zero] := by
  rw [take_snocE hj, List.filter_append]
  generalize L.getD j Env.zero = x at *
  simp [h]
theorem take_setE {α : Type} : ∀ (l : List α) (i : Nat) (x : α), (l.set i x).take i = l.take i
  | [], _, _ => by simp
  | _ :: _, 0, _ => by simp
  | y :: l, i + 1, x => by simp [take_setE l i x]
theorem idxE_cases (p : Env → Bool) (L : List Env) : ((∀ x ∈ L, p x = false) ∧ idxE p L = -1) ∨ ∃ j, j < L.length ∧ idxE p L = (j : Nat) ∧ p (L.getD j Env.zero) = true ∧ ∀ x ∈ L.take j, p x = false := by
  induction L with
  | nil => exact .inl ⟨by simp, rfl⟩
  | cons x l ih =>
    by_cases hx : p x = true
    · exact .inr ⟨0, by simp, by unfold idxE; rw [if_pos hx]; rfl, by simpa using hx, by simp⟩
    · have hx2 : p x = false := by simpa using hx
      rcases ih with ⟨h1, h2⟩ | ⟨j, h1, h2, h3, h4⟩
      · refine .inl ⟨fun y hy => ?_, by unfold idxE; rw [if_neg hx, h2]; simp⟩
        rcases List.mem_cons.1 hy with q | q
        · rw [q]; exact hx2
        · exact h1 y q
      · refine .inr ⟨j + 1, by simpa using h1, by unfold idxE; rw [if_neg hx, h2, if_neg (by omega)]; omega, by simpa using h3, fun y hy => ?_⟩
        rw [List.take_succ_cons] at hy
        rcases List.mem_cons.1 hy with q | q
        · rw [q]; exact hx2
        · exact h4 y q
set_option maxHeartbeats 8000000 in
theorem envDelF_batch {w : World} {g n cap : Nat} {L : List Env} (h : Erow w g cap L) (hn : L.length = n) (hb : n ≤ 1000000) (c c2 : Value) (p : Env → Bool)
    (hf : ∀ wx, Chg [g] w wx → ∀ x ∈ L, Calls Try.prog 73 #[nv x, c, c2] wx fun e w' => e = .returned (.bool (p x)) ∧ Chg [] wx w') :
    Calls Try.prog 72 #[.slice (some ⟨g, 0, none⟩) n cap, .func (.func 73) #[] #[c, c2]] w fun e w' => ∃ m, e = .returned (.slice (some ⟨g, 0, none⟩) m cap) ∧ (L.filter fun x => !p x).length = m ∧ Erow w' g cap (L.filter fun x => !p x) ∧ Chg [g] w w' := by
  have HN := Lib.hid hn
  have HI := Lib.hid (envIndex_batch (cap := cap) hn c c2 p (by omega) (.inr ⟨rfl, h.beg⟩) (fun wx cx x hx => hf wx (cx.mono (by simp)) x hx))
  have HH := Lib.hid h
  have HF := Lib.hid hf
  have hcn : n ≤ cap := by obtain ⟨cur, _, h2, _⟩ := h; omega
  clear h hf hn
  rcases idxE_cases p L with ⟨hall, hi⟩ | ⟨i0, hi0, hi, hpi, hti⟩
  · have hd1 : ((-1 : Int) == -1) = true := rfl
    rw [hi] at HI
    have hfl : L.filter (fun x => !p x) = L := List.filter_eq_self.2 (fun x hx => by simp [hall x hx])
    have HFL := Lib.hid hfl
    clear hi hall hfl
    go_enter Try.func72, Try.ntmps72
    go_wp2_with fail
    refine HI.out.mono ?_
    rintro e w2 ⟨rfl, cc⟩
    go_wp2_with fail
    go_ret
    exact ⟨n, rfl, by rw [HFL.out]; exact HN.out, by rw [HFL.out]; exact HH.out.chg cc (by simp), cc.mono (by simp)⟩
  · have hd1 : ((i0 : Int) == -1) = false := by simp
    rw [hi] at HI
    have hin : i0 < n := by rw [HN.out] at hi0; exact hi0
    have j1 : (i0 : Int) < 1000000 := by omega
    have HK0 : Hid ((L.take (i0 + 1)).filter (fun x => !p x) = L.take i0) := by
      show _ = _
      rw [keep_skip hi0 hpi]
      exact List.filter_eq_self.2 (fun x hx => by simp [hti x hx])
    clear hi hpi hti
    go_enter Try.func72, Try.ntmps72
    go_wp2_with fail
    refine HI.out.mono ?_
    rintro e w2 ⟨rfl, cc⟩
    have HE2 := Lib.hid (HH.out.chg cc (by simp))
    have HC2 : Hid (Chg [g] w w2) := cc.mono (by simp)
    clear cc hi0
    go_wp2_with fail
    go_loopw [5, 6] (fun a b wr => ∃ (i j : Nat) (M : List Env), i < j ∧ j ≤ n ∧ a = .int .i64 i ∧ b = .int .i64 j ∧ Hid (Erow wr g cap M) ∧ Hid (M.length = n) ∧ Hid (M.take i = (L.take j).filter (fun x => !p x)) ∧ Hid (M.drop j = L.drop j) ∧ Hid (Chg [g] w wr)) (fun _ b _ => n - (intOf b).toNat)
    case atStart => exact ⟨i0, i0 + 1, L, by omega, by omega, rfl, by go_num, HE2, HN, HK0.out.symm, rfl, HC2⟩
    case round =>
      clear HE2 HC2 HK0
      obtain ⟨i, j, M, hij, hj, rfl, rfl, HE, HM, HT, HD, HC⟩ := hrel
      by_cases hlt : j < n
      · have hjL : j < L.length := by rw [HN.out]; exact hlt
        have hjM : j < M.length := by rw [HM.out]; exact hlt
        have hmj : M.getD j Env.zero = L.getD j Env.zero := by
          have h1 := congrArg (fun l => l.getD 0 Env.zero) HD.out
          simpa [List.getD, List.getElem?_drop] using h1
        obtain ⟨c0, c1, c2', c3⟩ := Nrow.at HE.out.beg hjM
        rw [hmj] at c0 c1 c2' c3
        have hcall := HF.out
        have hmem := getD_memE hjL
        have hskip := keep_skip (p := p) hjL
        have hmore := keep_more (p := p) hjL
        have hdr : M.drop (j + 1) = L.drop (j + 1) := by
          have h1 := congrArg (List.drop 1) HD.out
          simpa [List.drop_drop, Nat.add_comm] using h1
        have HDR := Lib.hid hdr
        have HSK := Lib.hid hskip
        have HMO := Lib.hid hmore
        have HME := Lib.hid hmem
        have cD : Chg [] wr (wr.alloc (.cells #[.int .i64 (L.getD j Env.zero).client, .int .u64 (L.getD j Env.zero).nonce, .int .u64 (L.getD j Env.zero).fee, .int .i64 (L.getD j Env.zero).cipher] 32)) := (Chg.refl _ _).alloc _
        have hb8 : Blk (wr.alloc (.cells #[.int .i64 (L.getD j Env.zero).client, .int .u64 (L.getD j Env.zero).nonce, .int .u64 (L.getD j Env.zero).fee, .int .i64 (L.getD j Env.zero).cipher] 32)) wr.heap.size 32 (nc (L.getD j Env.zero)) := Blk.new wr (nc (L.getD j Env.zero)) 32
        have HE3 := Lib.hid (HE.out.chg cD (by simp))
        have HC3 := Lib.hid (HC.out.trans (cD.mono (by simp)))
        have hgb : g < wr.heap.size := HE.out.lt
        have i1 : (0 : Int) ≤ (j : Int) := by omega
        have i2 : (j : Int) < (n : Int) := by omega
        have i3 : (j : Int) < 1000000 := by omega
        have i4 : (0 : Int) ≤ (i : Int) := by omega
        have i5 : (i : Int) < (n : Int) := by omega
        have i6 : (i : Int) < 1000000 := by omega
        generalize L.getD j Env.zero = x at *
        clear hjL hjM hmj hcall hmem hskip hmore hdr cD HE HC
        go_upto_region 8 with (fail)
        clear c0 c1 c2' c3
        generalize hb9 : wr.heap.size = b8 at *
        clear hb9
        generalize wr.alloc _ = W1 at *
        have x0 := hb8.at (i := 0) rfl
        have x1 := hb8.at (i := 1) rfl
        have x2 := hb8.at (i := 2) rfl
        have x3 := hb8.at (i := 3) rfl
        have hcall := HF.out W1 HC3.out x HME.out
        cases hpx : p x
        · rw [hpx] at hcall
          have HPX := Lib.hid hpx
          have HCA := Lib.hid hcall
          clear hpx hcall
          go_wp2_with fail
          refine HCA.out.mono ?_
          rintro e w4 ⟨rfl, cc⟩
          have HE4 := Lib.hid (HE3.out.chg cc (by simp))
          have HC4 := Lib.hid (HC3.out.trans (cc.mono (by simp)))
          have hb4 := hb8.chg cc (by simp)
          clear HE3 HC3 hb8 cc x0 x1 x2 x3
          have x0 := hb4.at (i := 0) rfl
          have x1 := hb4.at (i := 1) rfl
          have x2 := hb4.at (i := 2) rfl
          have x3 := hb4.at (i := 3) rfl
          have hiM : i < M.length := by rw [HM.out]; omega
          obtain ⟨e0, e1, e2, e3⟩ := Nrow.at HE4.out.beg hiM
          have f0 := HE4.out.beg.free (i * 4)
          have f1 := HE4.out.beg.free (i * 4 + 1)
          have f2 := HE4.out.beg.free (i * 4 + 2)
          have f3 := HE4.out.beg.free (i * 4 + 3)
          have HE5 := Lib.hid (HE4.out.sto hiM x)
          have HC5 := Lib.hid (HC4.out.trans (sto4_chg (w := w4) (g := g) (i := i * 4) (e := x)))
          have HM5 : Hid ((M.set i x).length = n) := by show _ = _; rw [List.length_set]; exact HM.out
          have HT5 : Hid ((M.set i x).take (i + 1) = (L.take (j + 1)).filter (fun x => !p x)) := by
            show _ = _
            rw [HMO.out HPX.out, ← HT.out, List.take_succ_eq_append_getElem (by rw [List.length_set]; exact hiM)]
            simp [take_setE]
          have HD5 : Hid ((M.set i x).drop (j + 1) = L.drop (j + 1)) := by
            show _ = _
            rw [← HDR.out, List.drop_set, if_pos (by omega)]
          clear hiM hb4
          go_upto_region 10 with (fail)
          clear e0 e1 e2 e3 f0 f1 f2 f3 x0 x1 x2 x3 HE4 HC4
          unfold sto4 at HE5 HC5
          generalize World.setCell (World.setCell (World.setCell (World.setCell w4 _ _) _ _) _ _) _ _ = W5 at *
          go_wp2_with fail
          go_roundw
          case rel => exact ⟨i + 1, j + 1, _, by omega, by omega, by go_num, by go_num, HE5, HM5, HT5, HD5, HC5⟩
          case measure => simp [intOf]; omega
        · rw [hpx] at hcall
          have HPX := Lib.hid hpx
          have HCA := Lib.hid hcall
          clear hpx hcall
          go_wp2_with fail
          refine HCA.out.mono ?_
          rintro e w4 ⟨rfl, cc⟩
          have HE4 := Lib.hid (HE3.out.chg cc (by simp))
          have HC4 := Lib.hid (HC3.out.trans (cc.mono (by simp)))
          have HT4 : Hid (M.take i = (L.take (j + 1)).filter (fun x => !p x)) := by show _ = _; rw [HSK.out HPX.out]; exact HT.out
          clear HE3 HC3 hb8 cc x0 x1 x2 x3
          go_wp2_with fail
          go_roundw
          case rel => exact ⟨i, j + 1, M, by omega, by omega, rfl, by go_num, HE4, HM, HT4, HDR, HC4⟩
          case measure => simp [intOf]; omega
      · have e9 : n = j := by omega
        subst e9
        have hflt : L.filter (fun x => !p x) = M.take i := by rw [HT.out, List.take_of_length_le (by rw [HN.out]; exact Nat.le_refl _)]
        have hin : i < n := hij
        obtain ⟨cur, k1, k2, k3, k4, k5⟩ := HE.out
        have hfit : i * 4 + (n - i) * 4 ≤ cur.size := by rw [HM.out] at k2; rw [k4]; omega
        have hci : ¬ cap = i := by omega
        have i5 : (i : Int) ≤ (n : Int) := by omega
        have i6 : (n : Int) ≤ (cap : Int) := by omega
        have i4 : (0 : Int) ≤ (i : Int) := by omega
        have i7 : (i : Int) ≤ (cap : Int) := by omega
        have h01 : 0 < n - i := by omega
        have HFLT := Lib.hid hflt
        have K5 := Lib.hid k5
        have K4 := Lib.hid k4
        clear hflt k5 k4 HE hlt
        go_wp2_with (refine wpList_clearE _ rfl (.tmp 38) rfl g (i * 4) (n - i) (cap - i) _ rfl cur (.inr ⟨h01, rfl⟩) k1 hfit ?_)
        intro w6 cur6 q1 q2 q3 q4
        go_wp2_with fail
        go_ret
        have hle : (M.take i).length = i := by rw [List.length_take, HM.out]; omega
        refine ⟨i, rfl, by rw [HFLT.out]; exact hle, ?_, HC.out.trans q4⟩
        rw [HFLT.out]
        refine ⟨cur6, q1, by rw [hle]; omega, k3, by rw [q2]; exact K4.out, ?_⟩
        rw [hle, q3, flat_takeE, ← K5.out, List.take_take, HM.out, Nat.min_eq_left (by omega)]
set_option maxHeartbeats 8000000 in
theorem envDelF_drop {w : World} {g n cap : Nat} {L : List Env} (h : Erow w g cap L) (hn : L.length = n) (hb : n ≤ 1000000) (c c2 : Value) (p : Env → Bool)
    (hf : ∀ wx, Chg [g] w wx → ∀ x ∈ L, Calls Try.prog 76 #[nv x, c, c2] wx fun e w' => e = .returned (.bool (p x)) ∧ Chg [] wx w') :
    Calls Try.prog 72 #[.slice (some ⟨g, 0, none⟩) n cap, .func (.func 76) #[] #[c, c2]] w fun e w' => ∃ m, e = .returned (.slice (some ⟨g, 0, none⟩) m cap) ∧ (L.filter fun x => !p x).length = m ∧ Erow w' g cap (L.filter fun x => !p x) ∧ Chg [g] w w' := by
  have HN := Lib.hid hn
  have HI := Lib.hid (envIndex_drop (cap := cap) hn c c2 p (by omega) (.inr ⟨rfl, h.beg⟩) (fun wx cx x hx => hf wx (cx.mono (by simp)) x hx))
  have HH := Lib.hid h
  have HF := Lib.hid hf
  have hcn : n ≤ cap := by obtain ⟨cur, _, h2, _⟩ := h; omega
  clear h hf hn
  rcases idxE_cases p L with ⟨hall, hi⟩ | ⟨i0, hi0, hi, hpi, hti⟩
  · have hd1 : ((-1 : Int) == -1) = true := rfl
    rw [hi] at HI
    have hfl : L.filter (fun x => !p x) = L := List.filter_eq_self.2 (fun x hx => by simp [hall x hx])
    have HFL := Lib.hid hfl
    clear hi hall hfl
    go_enter Try.func72, Try.ntmps72
    go_wp2_with fail
    refine HI.out.mono ?_
    rintro e w2 ⟨rfl, cc⟩
    go_wp2_with fail
    go_ret
    exact ⟨n, rfl, by rw [HFL.out]; exact HN.out, by rw [HFL.out]; exact HH.out.chg cc (by simp), cc.mono (by simp)⟩
  · have hd1 : ((i0 : Int) == -1) = false := by simp
    rw [hi] at HI
    have hin : i0 < n := by rw [HN.out] at hi0; exact hi0
    have j1 : (i0 : Int) < 1000000 := by omega
    have HK0 : Hid ((L.take (i0 + 1)).filter (fun x => !p x) = L.take i0) := by
      show _ = _
      rw [keep_skip hi0 hpi]
      exact List.filter_eq_self.2 (fun x hx => by simp [hti x hx])
    clear hi hpi hti
    go_enter Try.func72, Try.ntmps72
    go_wp2_with fail
    refine HI.out.mono ?_
    rintro e w2 ⟨rfl, cc⟩
    have HE2 := Lib.hid (HH.out.chg cc (by simp))
    have HC2 : Hid (Chg [g] w w2) := cc.mono (by simp)
    clear cc hi0
    go_wp2_with fail
    go_loopw [5, 6] (fun a b wr => ∃ (i j : Nat) (M : List Env), i < j ∧ j ≤ n ∧ a = .int .i64 i ∧ b = .int .i64 j ∧ Hid (Erow wr g cap M) ∧ Hid (M.length = n) ∧ Hid (M.take i = (L.take j).filter (fun x => !p x)) ∧ Hid (M.drop j = L.drop j) ∧ Hid (Chg [g] w wr)) (fun _ b _ => n - (intOf b).toNat)
    case atStart => exact ⟨i0, i0 + 1, L, by omega, by omega, rfl, by go_num, HE2, HN, HK0.out.symm, rfl, HC2⟩
    case round =>
      clear HE2 HC2 HK0
      obtain ⟨i, j, M, hij, hj, rfl, rfl, HE, HM, HT, HD, HC⟩ := hrel
      by_cases hlt : j < n
      · have hjL : j < L.length := by rw [HN.out]; exact hlt
        have hjM : j < M.length := by rw [HM.out]; exact hlt
        have hmj : M.getD j Env.zero = L.getD j Env.zero := by
          have h1 := congrArg (fun l => l.getD 0 Env.zero) HD.out
          simpa [List.getD, List.getElem?_drop] using h1
        obtain ⟨c0, c1, c2', c3⟩ := Nrow.at HE.out.beg hjM
        rw [hmj] at c0 c1 c2' c3
        have hcall := HF.out
        have hmem := getD_memE hjL
        have hskip := keep_skip (p := p) hjL
        have hmore := keep_more (p := p) hjL
        have hdr : M.drop (j + 1) = L.drop (j + 1) := by
          have h1 := congrArg (List.drop 1) HD.out
          simpa [List.drop_drop, Nat.add_comm] using h1
        have HDR := Lib.hid hdr
        have HSK := Lib.hid hskip
        have HMO := Lib.hid hmore
        have HME := Lib.hid hmem
        have cD : Chg [] wr (wr.alloc (.cells #[.int .i64 (L.getD j Env.zero).client, .int .u64 (L.getD j Env.zero).nonce, .int .u64 (L.getD j Env.zero).fee, .int .i64 (L.getD j Env.zero).cipher] 32)) := (Chg.refl _ _).alloc _
        have hb8 : Blk (wr.alloc (.cells #[.int .i64 (L.getD j Env.zero).client, .int .u64 (L.getD j Env.zero).nonce, .int .u64 (L.getD j Env.zero).fee, .int .i64 (L.getD j Env.zero).cipher] 32)) wr.heap.size 32 (nc (L.getD j Env.zero)) := Blk.new wr (nc (L.getD j Env.zero)) 32
        have HE3 := Lib.hid (HE.out.chg cD (by simp))
        have HC3 := Lib.hid (HC.out.trans (cD.mono (by simp)))
        have hgb : g < wr.heap.size := HE.out.lt
        have i1 : (0 : Int) ≤ (j : Int) := by omega
        have i2 : (j : Int) < (n : Int) := by omega
        have i3 : (j : Int) < 1000000 := by omega
        have i4 : (0 : Int) ≤ (i : Int) := by omega
        have i5 : (i : Int) < (n : Int) := by omega
        have i6 : (i : Int) < 1000000 := by omega
        generalize L.getD j Env.zero = x at *
        clear hjL hjM hmj hcall hmem hskip hmore hdr cD HE HC
        go_upto_region 8 with (fail)
        clear c0 c1 c2' c3
        generalize hb9 : wr.heap.size = b8 at *
        clear hb9
        generalize wr.alloc _ = W1 at *
        have x0 := hb8.at (i := 0) rfl
        have x1 := hb8.at (i := 1) rfl
        have x2 := hb8.at (i := 2) rfl
        have x3 := hb8.at (i := 3) rfl
        have hcall := HF.out W1 HC3.out x HME.out
        cases hpx : p x
        · rw [hpx] at hcall
          have HPX := Lib.hid hpx
          have HCA := Lib.hid hcall
          clear hpx hcall
          go_wp2_with fail
          refine HCA.out.mono ?_
          rintro e w4 ⟨rfl, cc⟩
          have HE4 := Lib.hid (HE3.out.chg cc (by simp))
          have HC4 := Lib.hid (HC3.out.trans (cc.mono (by simp)))
          have hb4 := hb8.chg cc (by simp)
          clear HE3 HC3 hb8 cc x0 x1 x2 x3
          have x0 := hb4.at (i := 0) rfl
          have x1 := hb4.at (i := 1) rfl
          have x2 := hb4.at (i := 2) rfl
          have x3 := hb4.at (i := 3) rfl
          have hiM : i < M.length := by rw [HM.out]; omega
          obtain ⟨e0, e1, e2, e3⟩ := Nrow.at HE4.out.beg hiM
          have f0 := HE4.out.beg.free (i * 4)
          have f1 := HE4.out.beg.free (i * 4 + 1)
          have f2 := HE4.out.beg.free (i * 4 + 2)
          have f3 := HE4.out.beg.free (i * 4 + 3)
          have HE5 := Lib.hid (HE4.out.sto hiM x)
          have HC5 := Lib.hid (HC4.out.trans (sto4_chg (w := w4) (g := g) (i := i * 4) (e := x)))
          have HM5 : Hid ((M.set i x).length = n) := by show _ = _; rw [List.length_set]; exact HM.out
          have HT5 : Hid ((M.set i x).take (i + 1) = (L.take (j + 1)).filter (fun x => !p x)) := by
            show _ = _
            rw [HMO.out HPX.out, ← HT.out, List.take_succ_eq_append_getElem (by rw [List.length_set]; exact hiM)]
            simp [take_setE]
          have HD5 : Hid ((M.set i x).drop (j + 1) = L.drop (j + 1)) := by
            show _ = _
            rw [← HDR.out, List.drop_set, if_pos (by omega)]
          clear hiM hb4
          go_upto_region 10 with (fail)
          clear e0 e1 e2 e3 f0 f1 f2 f3 x0 x1 x2 x3 HE4 HC4
          unfold sto4 at HE5 HC5
          generalize World.setCell (World.setCell (World.setCell (World.setCell w4 _ _) _ _) _ _) _ _ = W5 at *
          go_wp2_with fail
          go_roundw
          case rel => exact ⟨i + 1, j + 1, _, by omega, by omega, by go_num, by go_num, HE5, HM5, HT5, HD5, HC5⟩
          case measure => simp [intOf]; omega
        · rw [hpx] at hcall
          have HPX := Lib.hid hpx
          have HCA := Lib.hid hcall
          clear hpx hcall
          go_wp2_with fail
          refine HCA.out.mono ?_
          rintro e w4 ⟨rfl, cc⟩
          have HE4 := Lib.hid (HE3.out.chg cc (by simp))
          have HC4 := Lib.hid (HC3.out.trans (cc.mono (by simp)))
          have HT4 : Hid (M.take i = (L.take (j + 1)).filter (fun x => !p x)) := by show _ = _; rw [HSK.out HPX.out]; exact HT.out
          clear HE3 HC3 hb8 cc x0 x1 x2 x3
          go_wp2_with fail
          go_roundw
          case rel => exact ⟨i, j + 1, M, by omega, by omega, rfl, by go_num, HE4, HM, HT4, HDR, HC4⟩
          case measure => simp [intOf]; omega
      · have e9 : n = j := by omega
        subst e9
        have hflt : L.filter (fun x => !p x) = M.take i := by rw [HT.out, List.take_of_length_le (by rw [HN.out]; exact Nat.le_refl _)]
        have hin : i < n := hij
        obtain ⟨cur, k1, k2, k3, k4, k5⟩ := HE.out
        have hfit : i * 4 + (n - i) * 4 ≤ cur.size := by rw [HM.out] at k2; rw [k4]; omega
        have hci : ¬ cap = i := by omega
        have i5 : (i : Int) ≤ (n : Int) := by omega
        have i6 : (n : Int) ≤ (cap : Int) := by omega
        have i4 : (0 : Int) ≤ (i : Int) := by omega
        have i7 : (i : Int) ≤ (cap : Int) := by omega
        have h01 : 0 < n - i := by omega
        have HFLT := Lib.hid hflt
        have K5 := Lib.hid k5
        have K4 := Lib.hid k4
        clear hflt k5 k4 HE hlt
        go_wp2_with (refine wpList_clearE _ rfl (.tmp 38) rfl g (i * 4) (n - i) (cap - i) _ rfl cur (.inr ⟨h01, rfl⟩) k1 hfit ?_)
        intro w6 cur6 q1 q2 q3 q4
        go_wp2_with fail
        go_ret
        have hle : (M.take i).length = i := by rw [List.length_take, HM.out]; omega
        refine ⟨i, rfl, by rw [HFLT.out]; exact hle, ?_, HC.out.trans q4⟩
        rw [HFLT.out]
        refine ⟨cur6, q1, by rw [hle]; omega, k3, by rw [q2]; exact K4.out, ?_⟩
        rw [hle, q3, flat_takeE, ← K5.out, List.take_take, HM.out, Nat.min_eq_left (by omega)]
end Go.Proofs.Yteabcpmpcbjicaa
