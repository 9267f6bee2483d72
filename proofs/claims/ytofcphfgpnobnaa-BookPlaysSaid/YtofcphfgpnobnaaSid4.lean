import Derived.Test.YtofcphfgpnobnaaSid3
import Derived.StillTailTactics
import Derived.BigQuiet
import Derived.Deep.CutBlock
import Derived.Deep.DeepCutAuto
namespace Go.Proofs.Ytofcphfgpnobnaa
set_option linter.unusedVariables false
open Go Go.Proofs Go.RowKit
attribute [local go_sem ↓] Go.wp_at_zero Go.wp_at_succ

/-- What is out behind j orders, and whether the new one is in. -/
def PshI (up : Bool) (x : Ord) (L : List Ord) (j : Nat) (b : Bool) (P : List Ord) : Prop := P ++ (if b then L.drop j else ins up x (L.drop j)) = ins up x L
theorem PshI.start (up : Bool) (x : Ord) (L : List Ord) : PshI up x L 0 false [] := by simp [PshI]
theorem drop_getD {L : List Ord} {j : Nat} (h : j < L.length) : L.drop j = L.getD j Ord.zero :: L.drop (j + 1) := by
  rw [List.drop_eq_getElem_cons h]; simp [List.getD, h]
theorem PshI.isin {up : Bool} {x : Ord} {L P : List Ord} {j : Nat} (h : PshI up x L j true P) (hj : j < L.length) : PshI up x L (j + 1) true (P ++ [L.getD j Ord.zero]) := by
  unfold PshI at h ⊢
  rw [if_pos rfl] at h ⊢
  rw [← h, drop_getD hj]; simp
theorem PshI.now {up : Bool} {x : Ord} {L P : List Ord} {j : Nat} (h : PshI up x L j false P) (hj : j < L.length) (ha : ahead up x (L.getD j Ord.zero) = true) : PshI up x L (j + 1) true (P ++ [x] ++ [L.getD j Ord.zero]) := by
  unfold PshI at h ⊢
  rw [if_neg (by simp)] at h
  rw [if_pos rfl, ← h, drop_getD hj, ins, if_pos ha]; simp
theorem PshI.not {up : Bool} {x : Ord} {L P : List Ord} {j : Nat} (h : PshI up x L j false P) (hj : j < L.length) (ha : ahead up x (L.getD j Ord.zero) = false) : PshI up x L (j + 1) false (P ++ [L.getD j Ord.zero]) := by
  unfold PshI at h ⊢
  rw [if_neg (by simp)] at h ⊢
  rw [← h, drop_getD hj, ins, if_neg (by rw [ha]; simp)]; simp
theorem PshI.done {up : Bool} {x : Ord} {L P : List Ord} {b : Bool} (h : PshI up x L L.length b P) : ins up x L = if b then P else P ++ [x] := by
  unfold PshI at h
  rw [← h, List.drop_length]
  cases b <;> simp [ins]
theorem PshI.len {up : Bool} {x : Ord} {L P : List Ord} {j : Nat} {b : Bool} (h : PshI up x L j b P) : P.length ≤ L.length + 1 := by
  have h1 := congrArg List.length h
  rw [(ins_perm up x L).length_eq, List.length_append] at h1
  simp at h1; omega

theorem ownsRow_chg {w w' : World} {base n : Nat} {T : TypeId} {sz : Nat} {v : Value} {xs : List Value} (h : w.ownsRow base T sz v n xs) (k : Chg [] w w') : w'.ownsRow base T sz v n xs := by
  refine ⟨h.1, ?_⟩
  rcases h.2 with h2 | ⟨g, cap, cur, h1, h2, h3, h4⟩
  · exact .inl h2
  · exact .inr ⟨g, cap, cur, h1, h2, by rw [k.block g (Array.getElem?_eq_some_iff.1 h3).1 (by simp)]; exact h3, h4⟩

set_option maxRecDepth 100000 in
set_option maxHeartbeats 4000000 in
/-- Push. -/
theorem rPush {w : World} {g o s : Nat} {up : Bool} {L : List Ord} (h : Sid w g o s up L) (x : Ord) (hm : L.length ≤ 100000000000) :
    Calls Try.prog 25 #[.pointer (some ⟨g, o, none⟩), ov x] w fun e w' => e = .returned (.tuple #[]) ∧ ∃ s', Sid w' g o s' up (ins up x L) ∧ Chg [g] w w' ∧ But g (o + 1) w w' ∧ (s' = s ∨ w.heap.size ≤ s') := by
  obtain ⟨i0, hin, iz0, iz1, iz2⟩ := info_parts info_ord
  have HH := Lib.hid h
  have hlt := h.lt
  clear h
  go_enter Try.func25, Try.ntmps25
  have hc0 : Chg [] w (w.alloc (.cells #[.int .i64 x.id, .int .i64 x.client, .bool x.buy, .int .u64 x.price, .int .u64 x.qty] 28)) := (Chg.refl _ _).alloc _
  have hb0 : Blk (w.alloc (.cells #[.int .i64 x.id, .int .i64 x.client, .bool x.buy, .int .u64 x.price, .int .u64 x.qty] 28)) w.heap.size 28 (oc x) := Blk.new w (oc x) 28
  go_wp2_with fail
  have hlb := hb0.lt
  generalize w.alloc _ = W at *
  go_loopw [4, 5, 6] (fun v b i wr => ∃ (j : Nat) (bb : Bool) (P : List Ord), j ≤ L.length ∧ b = .bool bb ∧ i = .int .i64 j ∧ Hid (PshI up x L j bb P) ∧ Chg [] W wr ∧ wr.ownsRow W.heap.size 28 5 v P.length (ocs P)) (fun _ _ i _ => L.length - (intOf i).toNat)
  case atStart => exact ⟨0, false, [], by omega, rfl, rfl, PshI.start _ _ _, Chg.refl _ _, World.ownsRow_nil _ _ _ _⟩
  case round =>
    obtain ⟨j, bb, P, hj, rfl, rfl, hP, hC, hown⟩ := hrel
    have hS := HH.out.chg (hc0.trans hC) (by simp) (by simp)
    have hb := hb0.chg hC (by simp)
    have hPl := hP.out.len
    by_cases hlt' : j < L.length
    · obtain ⟨c, h1, e2, e3, hr, x0, x1, x2, x3, x4⟩ := hS.at hlt'
      have h0 := hS.c0
      have y0 := hb.at (i := 0) rfl
      have y1 := hb.at (i := 1) rfl
      have y2 := hb.at (i := 2) rfl
      have y3 := hb.at (i := 3) rfl
      have y4 := hb.at (i := 4) rfl
      have i1 : (0 : Int) ≤ (j : Int) := by omega
      have i2 : (j : Int) < (L.length : Int) := by omega
      have k1 : Hid (bb = true → PshI up x L (j + 1) true (P ++ [L.getD j Ord.zero])) := fun e => by subst e; exact hP.out.isin hlt'
      have k2 : Hid (bb = false → ahead up x (L.getD j Ord.zero) = true → PshI up x L (j + 1) true (P ++ [x] ++ [L.getD j Ord.zero])) := fun e => by subst e; exact hP.out.now hlt'
      have k3 : Hid (bb = false → ahead up x (L.getD j Ord.zero) = false → PshI up x L (j + 1) false (P ++ [L.getD j Ord.zero])) := fun e => by subst e; exact hP.out.not hlt'
      obtain ⟨u, hu⟩ : ∃ u, L.getD j Ord.zero = u := ⟨_, rfl⟩
      rw [hu] at x0 x1 x2 x3 x4 k1 k2 k3
      have HU := Lib.hid hu
      clear hP hr hS hu
      cases bb with
      | true =>
        have HP := Lib.hid (k1.out rfl)
        clear k1 k2 k3
        go_wp2_with fail
        go_quiet (fail)
        have hC2 := hC.drewN nq
        have hown2 := ownsRow_chg hown ((Chg.refl [] wr).drewN nq)
        clear hC hown hb h1 h0 x0 x1 x2 x3 x4 y0 y1 y2 y3 y4
        generalize wr.drewN nq = Z at *
        have hb := hb0.chg hC2 (by simp)
        have hS := HH.out.chg (hc0.trans hC2) (by simp) (by simp)
        obtain ⟨c, h1, _, _, _, x0, x1, x2, x3, x4⟩ := hS.at hlt'
        rw [HU.out] at x0 x1 x2 x3 x4
        clear hS
        have y0 := hb.at (i := 0) rfl
        have y1 := hb.at (i := 1) rfl
        have y2 := hb.at (i := 2) rfl
        have y3 := hb.at (i := 3) rfl
        have y4 := hb.at (i := 4) rfl
        go_upto_region 9 with (fail)
        go_wp2_with (at_builtin; refine wpList_append_own _ rfl (.tmp 37) (.tmp 45) 35 rfl W.heap.size 28 i0 (ov Ord.zero) 5 40 Try.underlying35 hin iz0 iz1 iz2 rfl (by decide) _ _ _ rfl (hown2.alloc _) ⟨Z.heap.size, 0, none⟩ 1 1 (oc u) rfl rfl ?c1 ?c2 ?c3 ?c4 ?c5 ?_)
        case c1 => exact news_new Z _ _
        case c2 => simp [oc, Value.oneCell']
        case c3 => unfold maxLen; first | omega | (simp; omega)
        case c4 => first | omega | (simp; omega)
        case c5 => have := hC2.size; simp; omega
        intro v' w1 hownx hgx _
        have hC3 : Chg [] W w1 := (hC2.alloc _).grown hgx (fun k hk => .inr (own_base hown2 k hk))
        rw [← ocs_snoc] at hownx
        have hown3 : w1.ownsRow W.heap.size 28 5 v' (P ++ [u]).length (ocs (P ++ [u])) := by simpa using hownx
        clear hgx hownx
        clear hown2 hC2 hb h1 x0 x1 x2 x3 x4 y0 y1 y2 y3 y4
        go_wp2_with fail
        go_roundw
        case rel => exact ⟨j + 1, true, _, by omega, rfl, by go_num, HP.out, hC3, hown3⟩
        case measure => simp [intOf]; omega
      | false =>
        go_wp2_with fail
        go_still_tail 15, (by kernel_rfl)
        change wpList _ _ _ _ _ wr.drew
        have hC2 := hC.drew
        have hown2 := hown.drew
        clear hC hown hb h1 h0 x0 x1 x2 x3 x4 y0 y1 y2 y3 y4
        generalize wr.drew = Z at *
        go_wp2_with fail
        refine (rAhead up x u Z).mono ?_
        rintro e w3 ⟨rfl, c3⟩
        have hC3 := hC2.trans c3
        have hown3 := ownsRow_chg hown2 c3
        clear hC2 hown2 c3
        by_cases ha : ahead up x u = true
        · have HP := Lib.hid (k2.out (by trivial) ha)
          rw [ha]
          clear ha k1 k2 k3
          have hb := hb0.chg hC3 (by simp)
          have hS := HH.out.chg (hc0.trans hC3) (by simp) (by simp)
          obtain ⟨c, h1, _, _, _, x0, x1, x2, x3, x4⟩ := hS.at hlt'
          rw [HU.out] at x0 x1 x2 x3 x4
          clear hS
          have y0 := hb.at (i := 0) rfl
          have y1 := hb.at (i := 1) rfl
          have y2 := hb.at (i := 2) rfl
          have y3 := hb.at (i := 3) rfl
          have y4 := hb.at (i := 4) rfl
          go_upto_region 8 with (fail)
          go_wp2_with (at_builtin; refine wpList_append_own _ rfl (.tmp 33) (.tmp 35) 35 rfl W.heap.size 28 i0 (ov Ord.zero) 5 40 Try.underlying35 hin iz0 iz1 iz2 rfl (by decide) _ _ _ rfl (hown3.alloc _) ⟨w3.heap.size, 0, none⟩ 1 1 (oc x) rfl rfl ?c1 ?c2 ?c3 ?c4 ?c5 ?_)
          case c1 => exact news_new w3 _ _
          case c2 => simp [oc, Value.oneCell']
          case c3 => unfold maxLen; first | omega | (simp; omega)
          case c4 => first | omega | (simp; omega)
          case c5 => have := hC3.size; simp; omega
          intro v' w4 hownx hgx _
          have hC4 : Chg [] W w4 := (hC3.alloc _).grown hgx (fun k hk => .inr (own_base hown3 k hk))
          rw [← ocs_snoc] at hownx
          have hown4 : w4.ownsRow W.heap.size 28 5 v' (P ++ [x]).length (ocs (P ++ [x])) := by simpa using hownx
          clear hgx hownx
          clear hown3 hC3 hb h1 x0 x1 x2 x3 x4 y0 y1 y2 y3 y4
          have hb := hb0.chg hC4 (by simp)
          have hS := HH.out.chg (hc0.trans hC4) (by simp) (by simp)
          obtain ⟨c, h1, _, _, _, x0, x1, x2, x3, x4⟩ := hS.at hlt'
          rw [HU.out] at x0 x1 x2 x3 x4
          clear hS
          have y0 := hb.at (i := 0) rfl
          have y1 := hb.at (i := 1) rfl
          have y2 := hb.at (i := 2) rfl
          have y3 := hb.at (i := 3) rfl
          have y4 := hb.at (i := 4) rfl
          go_upto_region 9 with (fail)
          go_wp2_with (at_builtin; refine wpList_append_own _ rfl (.tmp 37) (.tmp 45) 35 rfl W.heap.size 28 i0 (ov Ord.zero) 5 40 Try.underlying35 hin iz0 iz1 iz2 rfl (by decide) _ _ _ rfl (hown4.alloc _) ⟨w4.heap.size, 0, none⟩ 1 1 (oc u) rfl rfl ?c1 ?c2 ?c3 ?c4 ?c5 ?_)
          case c1 => exact news_new w4 _ _
          case c2 => simp [oc, Value.oneCell']
          case c3 => unfold maxLen; first | omega | (simp; omega)
          case c4 => first | omega | (simp; omega)
          case c5 => have := hC4.size; simp; omega
          intro v2 w5 hownx hgx _
          have hC5 : Chg [] W w5 := (hC4.alloc _).grown hgx (fun k hk => .inr (own_base hown4 k hk))
          rw [← ocs_snoc] at hownx
          have hown5 : w5.ownsRow W.heap.size 28 5 v2 ((P ++ [x]) ++ [u]).length (ocs ((P ++ [x]) ++ [u])) := by simpa using hownx
          clear hgx hownx
          clear hown4 hC4 hb h1 x0 x1 x2 x3 x4 y0 y1 y2 y3 y4
          go_wp2_with fail
          go_roundw
          case rel => exact ⟨j + 1, true, _, by omega, rfl, by go_num, HP.out, hC5, hown5⟩
          case measure => simp [intOf]; omega
        · have ha2 : ahead up x u = false := by simpa using ha
          have HP := Lib.hid (k3.out (by trivial) ha2)
          rw [ha2]
          clear ha ha2 k1 k2 k3
          have hb := hb0.chg hC3 (by simp)
          have hS := HH.out.chg (hc0.trans hC3) (by simp) (by simp)
          obtain ⟨c, h1, _, _, _, x0, x1, x2, x3, x4⟩ := hS.at hlt'
          rw [HU.out] at x0 x1 x2 x3 x4
          clear hS
          have y0 := hb.at (i := 0) rfl
          have y1 := hb.at (i := 1) rfl
          have y2 := hb.at (i := 2) rfl
          have y3 := hb.at (i := 3) rfl
          have y4 := hb.at (i := 4) rfl
          go_upto_region 9 with (fail)
          go_wp2_with (at_builtin; refine wpList_append_own _ rfl (.tmp 37) (.tmp 45) 35 rfl W.heap.size 28 i0 (ov Ord.zero) 5 40 Try.underlying35 hin iz0 iz1 iz2 rfl (by decide) _ _ _ rfl (hown3.alloc _) ⟨w3.heap.size, 0, none⟩ 1 1 (oc u) rfl rfl ?c1 ?c2 ?c3 ?c4 ?c5 ?_)
          case c1 => exact news_new w3 _ _
          case c2 => simp [oc, Value.oneCell']
          case c3 => unfold maxLen; first | omega | (simp; omega)
          case c4 => first | omega | (simp; omega)
          case c5 => have := hC3.size; simp; omega
          intro v' w4 hownx hgx _
          have hC4 : Chg [] W w4 := (hC3.alloc _).grown hgx (fun k hk => .inr (own_base hown3 k hk))
          rw [← ocs_snoc] at hownx
          have hown4 : w4.ownsRow W.heap.size 28 5 v' (P ++ [u]).length (ocs (P ++ [u])) := by simpa using hownx
          clear hgx hownx
          clear hown3 hC3 hb h1 x0 x1 x2 x3 x4 y0 y1 y2 y3 y4
          go_wp2_with fail
          go_roundw
          case rel => exact ⟨j + 1, false, _, by omega, rfl, by go_num, HP.out, hC4, hown4⟩
          case measure => simp [intOf]; omega
    · obtain rfl : j = L.length := by omega
      obtain ⟨a, c, h1, _, _, _⟩ := hS.row
      have hd := hP.out.done
      have hgg := hS.lt
      cases bb with
      | true =>
        have HD := Lib.hid hd
        obtain ⟨va, vc, rfl⟩ := own_slice hown
        have hf := hS.fr (o + 1)
        obtain ⟨s', hlay, hat⟩ := hS.layOwn (Chg.refl [] wr) (show g < W.heap.size by omega) hown
        have hC2 : Chg [g] w (wr.setCell ⟨g, o + 1, none⟩ (.slice va P.length vc)) := ((hc0.trans hC).mono (by simp)).setCell _ _ (by simp)
        have hBt : But g (o + 1) w (wr.setCell ⟨g, o + 1, none⟩ (.slice va P.length vc)) := But.set ((hc0.trans hC).block g hlt (by simp)) _
        clear hown hS hb hP hd
        go_wp2_with fail
        go_end0
        exact ⟨rfl, s', by rw [HD.out]; exact hlay, hC2, hBt, by omega⟩
      | false =>
        have HD := Lib.hid hd
        have y0 := hb.at (i := 0) rfl
        have y1 := hb.at (i := 1) rfl
        have y2 := hb.at (i := 2) rfl
        have y3 := hb.at (i := 3) rfl
        have y4 := hb.at (i := 4) rfl
        clear hP hd
        go_upto_region 11 with (fail)
        go_wp2_with (at_builtin; refine wpList_append_own _ rfl (.tmp 49) (.tmp 51) 35 rfl W.heap.size 28 i0 (ov Ord.zero) 5 40 Try.underlying35 hin iz0 iz1 iz2 rfl (by decide) _ _ _ rfl (hown.alloc _) ⟨wr.heap.size, 0, none⟩ 1 1 (oc x) rfl rfl ?c1 ?c2 ?c3 ?c4 ?c5 ?_)
        case c1 => exact news_new wr _ _
        case c2 => simp [oc, Value.oneCell']
        case c3 => unfold maxLen; first | omega | (simp; omega)
        case c4 => first | omega | (simp; omega)
        case c5 => have := hC.size; simp; omega
        intro v' w1 hownx hgx _
        have hC3 : Chg [] W w1 := (hC.alloc _).grown hgx (fun k hk => .inr (own_base hown k hk))
        rw [← ocs_snoc] at hownx
        have hown3 : w1.ownsRow W.heap.size 28 5 v' (P ++ [x]).length (ocs (P ++ [x])) := by simpa using hownx
        clear hgx hownx
        have hS2 := HH.out.chg (hc0.trans hC3) (by simp) (by simp)
        clear h1
        obtain ⟨a, c, h1, _, _, _⟩ := hS2.row
        obtain ⟨va, vc, rfl⟩ := own_slice hown3
        have hf := hS2.fr (o + 1)
        obtain ⟨s', hlay, hat⟩ := hS2.layOwn (Chg.refl [] w1) (show g < W.heap.size by omega) hown3
        have hC4 : Chg [g] w (w1.setCell ⟨g, o + 1, none⟩ (.slice va (P ++ [x]).length vc)) := ((hc0.trans hC3).mono (by simp)).setCell _ _ (by simp)
        have hBt : But g (o + 1) w (w1.setCell ⟨g, o + 1, none⟩ (.slice va (P ++ [x]).length vc)) := But.set ((hc0.trans hC3).block g hlt (by simp)) _
        simp only [List.length_append, List.length_cons, List.length_nil, Nat.zero_add] at hlay hC4 hBt
        clear hown3 hown hS2 hS hb y0 y1 y2 y3 y4
        go_wp2_with fail
        go_end0
        exact ⟨rfl, s', by rw [HD.out]; exact hlay, hC4, hBt, by omega⟩
end Go.Proofs.Ytofcphfgpnobnaa
