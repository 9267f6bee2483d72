
import Derived.Test.YteabcpmpcbjicaaPool
import Derived.Laws.CopyRow
import Derived.Deep.RegionLaw
namespace Go.Proofs.Yteabcpmpcbjicaa
set_option linter.unusedVariables false
set_option maxRecDepth 100000
open Go Go.Proofs Go.RowKit Go.Maps
attribute [local go_sem ↓] Go.wp_at_zero Go.wp_at_succ

theorem info_env : (Try.prog.info? 32).map (fun i => (i.zero, i.size, i.bytes)) = some (some (nv Env.zero), 4, 32) := by kernel_rfl
theorem zero_env (w : World) : (zeroValue 32).run Try.prog w = .ok (nv Env.zero) w := by kernel_rfl
/-- The row of a block: as many places as cap. -/
def Erow (w : World) (g cap : Nat) (L : List Env) : Prop := ∃ cur : Array Value, w.heap[g]? = some (.cells cur 32 (0, 0)) ∧ L.length ≤ cap ∧ cap ≤ maxLen ∧ cur.size = cap * 4 ∧ cur.toList.take (L.length * 4) = flat nc L
theorem Erow.lt {w : World} {g cap : Nat} {L : List Env} (h : Erow w g cap L) : g < w.heap.size := h.elim fun _ k => (Array.getElem?_eq_some_iff.1 k.1).1
theorem Erow.beg {w : World} {g cap : Nat} {L : List Env} (h : Erow w g cap L) : Nrow w g L := by
  obtain ⟨cur, h1, h2, h3, h4, h5⟩ := h
  refine ⟨cur.toList.drop (L.length * 4), ?_⟩
  unfold Blk
  rw [h1, ← h5, List.take_append_drop]
theorem Erow.chg {w w' : World} {g cap : Nat} {L : List Env} {S : List Nat} (h : Erow w g cap L) (c : Chg S w w') (hg : g ∉ S) : Erow w' g cap L := by
  obtain ⟨cur, h1, h2⟩ := h
  exact ⟨cur, (c.block g (Array.getElem?_eq_some_iff.1 h1).1 hg).trans h1, h2⟩
theorem Erow.own {w : World} {g cap base : Nat} {L : List Env} (h : Erow w g cap L) (hb : base ≤ g) {n : Nat} (hn : L.length = n) : w.ownsRow base 32 4 (.slice (some ⟨g, 0, none⟩) n cap) n (flat nc L) := by
  obtain ⟨cur, h1, h2, h3, h4, h5⟩ := h
  subst hn
  exact ⟨flat_len nc_len L, .inr ⟨g, cap, cur, rfl, hb, h1, h2, h3, h4, h5⟩⟩
theorem own_erow {w : World} {base n : Nat} {v : Value} {L : List Env} (h : w.ownsRow base 32 4 v n (flat nc L)) : (v = .slice none 0 0 ∧ n = 0 ∧ L = []) ∨ ∃ g cap, v = .slice (some ⟨g, 0, none⟩) n cap ∧ base ≤ g ∧ L.length = n ∧ Erow w g cap L := by
  have hl : L.length = n := by have := h.1; rw [flat_len nc_len] at this; omega
  rcases h.2 with ⟨h1, h2⟩ | ⟨g, cap, cur, h1, h2, h3, h4, h5, h6, h7⟩
  · exact .inl ⟨h1, h2, List.eq_nil_of_length_eq_zero (by omega)⟩
  · exact .inr ⟨g, cap, h1, h2, hl, cur, h3, by omega, h5, h6, by rw [hl]; exact h7⟩
theorem setRow_chg {w : World} {g : Nat} {old cs : Array Value} {t : TypeId} {fr : Nat × Nat} (hg : w.heap[g]? = some (.cells old t fr)) : Chg [g] w (w.setRow g cs) :=
  ⟨rfl, rfl, rfl, by simp, fun k hk hn => by
    simp only [List.mem_singleton] at hn
    simp only [World.setRow, Array.getElem?_modify]
    rw [if_neg (fun e => hn e.symm)]⟩
theorem flat_one : ∀ (M : List Env), ∀ u ∈ flat nc M, u.oneCell' = true
  | [], u, hu => by simp [flat] at hu
  | x :: M, u, hu => by
    unfold flat at hu
    rcases List.mem_append.1 hu with h | h
    · simp only [nc, List.mem_cons, List.not_mem_nil, or_false] at h
      rcases h with rfl | rfl | rfl | rfl <;> rfl
    · exact flat_one M u h
/-- append where there is room: the whole row behind it. -/
theorem step_append_rowE {ops : Array Oper} {o : Oper} {a : Act} {w : World} {K : Act → World → Prop} {Q : Exit → Act → World → Prop} {E : Prop}
    (hgd : o.guard = none) (s x : Operand) (hop : o.op = Op.call { callee := Callee.builtin Builtin.append, args := #[s, x], argTypes := #[29, 29] })
    (g n cap : Nat) (cur : Array Value) (hg : w.heap[g]? = some (.cells cur 32 (0, 0))) (hs : a.eval s = .slice (some ⟨g, 0, none⟩) n cap)
    (ad : Addr) (m c : Nat) (M : List Env) (hx : a.eval x = .slice (some ad) m c) (hm : M.length = m) (hc : ∀ j u, (flat nc M)[j]? = some u → w.cell? (ad.add j) = some u)
    (hroom : n + m ≤ cap) (hsz : cur.size = cap * 4)
    (hK : ∀ w' (cur' : Array Value), w'.heap[g]? = some (.cells cur' 32 (0, 0)) → cur'.size = cur.size → cur'.toList = cur.toList.take (n * 4) ++ flat nc M ++ cur.toList.drop ((n + m) * 4) → Chg [g] w w' → K (a.put o.dst (.slice (some ⟨g, 0, none⟩) (n + m) cap)) w') :
    if Region.wanted o (yielded ops a.tmps) = true then Oper.wp Try.prog o a w K Q else E := by
  obtain ⟨i0, hi, hz0, hz1, hz2⟩ := info_parts info_env
  have hw : Region.wanted o (yielded ops a.tmps) = true := by simp [Region.wanted, hgd]
  rw [if_pos hw]
  have hl : (flat nc M).length = m * i0.size := by rw [flat_len nc_len, hm, hz1]
  have h1 := flat_one M
  have hfit : n * i0.size + (flat nc M).length ≤ cur.size := by rw [hl, hz1, hsz]; omega
  have hrun := run_append_room (P := Try.prog) (w := w) 29 o.type 32 i0 Try.underlying29 hi g n cap cur hg ad m c (flat nc M) hl hc h1 hroom hfit
  unfold Oper.wp
  simp [execOp, hop, resolve, invoke, builtin, hs, hx, hrun, Result.andThen]
  refine hK _ _ (setRow_heap _ _ _ _ _ _ hg) ?_ ?_ (setRow_chg hg)
  · have := flat_len nc_len M
    simp only [List.size_toArray, List.length_append, List.length_take, List.length_drop, Array.length_toList]
    rw [hz1, this, hm]
    omega
  · rw [hz1, flat_len nc_len, hm, List.toList_toArray]
    rw [show n * 4 + m * 4 = (n + m) * 4 by omega, List.append_assoc]
/-- clear of what stands behind. -/
theorem wpList_clearE (w : World) {ops : Array Oper} {rest : List Oper} {o : Oper} {a : Act} {Q : Exit → Act → World → Prop} (hgd : o.guard = none) (s : Operand) (hop : o.op = Op.call { callee := Callee.builtin Builtin.clear, args := #[s], argTypes := #[29] })
    (g off n c : Nat) (v : Value) (hs : a.eval s = v) (cur : Array Value) (hv : n = 0 ∧ (∃ ad c, v = .slice ad 0 c) ∨ 0 < n ∧ v = .slice (some ⟨g, off, none⟩) n c) (hg : w.heap[g]? = some (.cells cur 32 (0, 0))) (hfit : off + n * 4 ≤ cur.size)
    (hK : ∀ w' (cur' : Array Value), w'.heap[g]? = some (.cells cur' 32 (0, 0)) → cur'.size = cur.size → cur'.toList.take off = cur.toList.take off → Chg [g] w w' → wpList Try.prog ops Q rest (a.put o.dst (.tuple #[])) w') : wpList Try.prog ops Q (o :: rest) a w := by
  refine wpList_plain hgd fun K' hK' => ?_
  rcases hv with ⟨rfl, ad, c2, rfl⟩ | ⟨h0, rfl⟩
  · have hrun : (Builtin.clear_ #[29] o.type #[.slice ad 0 c2]).run Try.prog w = .ok (.tuple #[]) w := by
      cases ad <;> simp [Builtin.clear_, run_underlying Try.underlying29]
    unfold Oper.wp
    simp [execOp, hop, resolve, invoke, builtin, hs, hrun, Result.andThen]
    exact hK' _ _ (hK _ _ hg rfl rfl (Chg.refl _ _))
  · obtain ⟨zs, hzs⟩ : ∃ zs, (Builtin.zeroCells (nv Env.zero).cells n).toList = zs := ⟨_, rfl⟩
    have hzl : zs.length = n * 4 := by rw [← hzs]; simp [Builtin.zeroCells, Value.cells]
    have hz1 : ∀ u ∈ zs, u.oneCell' = true := by
      intro u hu
      rw [← hzs] at hu
      simp only [Builtin.zeroCells, Array.toList_map, List.mem_map] at hu
      obtain ⟨j, _, rfl⟩ := hu
      have : ∀ k, k < 4 → ((nv Env.zero).cells[k]!).oneCell' = true := by decide
      exact this _ (Nat.mod_lt _ (by decide))
    have hst := run_storeCells_at Try.prog g off 32 zs 0 cur w hg (by rw [hzl]; omega) hz1
    simp only [Nat.add_zero] at hst
    have hrun : (Builtin.clear_ #[29] o.type #[.slice (some ⟨g, off, none⟩) n c]).run Try.prog w = .ok (.tuple #[]) (w.setRow g (cur.toList.take off ++ zs ++ cur.toList.drop (off + zs.length)).toArray) := by
      obtain ⟨m, rfl⟩ : ∃ m, n = m + 1 := ⟨n - 1, by omega⟩
      have hzs2 : (Builtin.zeroCells (Value.agg #[.int .i64 0, .int .u64 0, .int .u64 0, .int .i64 0]).cells (m + 1)).toList = zs := hzs
      simp [Builtin.clear_, run_underlying Try.underlying29]
      rw [hzs2, hst]
      simp [Result.andThen]
    unfold Oper.wp
    simp [execOp, hop, resolve, invoke, builtin, hs, hrun, Result.andThen]
    refine hK' _ _ (hK _ _ (setRow_heap _ _ _ _ _ _ hg) ?_ ?_ (setRow_chg hg))
    · simp; omega
    · simp
      rw [List.take_append_of_le_length (by simp; omega), List.take_take, Nat.min_self]
theorem flat_dropE : ∀ (k : Nat) (l : List Env), flat nc (l.drop k) = (flat nc l).drop (k * 4)
  | 0, l => by simp
  | k + 1, [] => by simp [flat]
  | k + 1, x :: l => by
    rw [List.drop_succ_cons, flat_dropE k l]
    show _ = (nc x ++ flat nc l).drop _
    rw [show (k + 1) * 4 = (nc x).length + k * 4 by rw [nc_len]; omega, List.drop_append, List.drop_of_length_le (l := nc x) (by omega), List.nil_append, Nat.add_sub_cancel_left]
theorem flat_takeE (k : Nat) (l : List Env) : flat nc (l.take k) = (flat nc l).take (k * 4) := flat_take nc_len l k
set_option maxHeartbeats 4000000 in
/-- slices.Delete of one. -/
theorem envDeleteM {w : World} {g cap : Nat} {L : List Env} (h : Erow w g cap L) (i m : Nat) (hn : L.length = i + m + 1) :
    Calls Try.prog 63 #[.slice (some ⟨g, 0, none⟩) (i + m + 1) cap, .int .i64 (i : Int), .int .i64 ((i : Int) + 1)] w fun e w' => e = .returned (.slice (some ⟨g, 0, none⟩) (i + m) cap) ∧ Erow w' g cap (L.eraseIdx i) ∧ Chg [g] w w' := by
  have hbeg := h.beg
  have hcell : ∀ j u, (flat nc (L.drop (i + 1)))[j]? = some u → w.drew.cell? ((⟨g, (i + 1) * 4, none⟩ : Addr).add j) = some u := fun j u hu => by
    rw [flat_dropE, List.getElem?_drop] at hu
    rw [add_none]
    exact Beg.at hbeg hu
  obtain ⟨cur, h1, h2, h3, h4, h5⟩ := h
  rw [hn] at h2 h5
  have HN := Lib.hid hn
  have H5 := Lib.hid h5
  have H1 : w.drew.heap[g]? = some (.cells cur 32 (0, 0)) := h1
  have H4 := h4
  have hm : (L.drop (i + 1)).length = m := by rw [List.length_drop, hn]; omega
  have hd0 : ∀ ad : Addr, m = 0 → ∀ j u, (flat nc (L.drop (i + 1)))[j]? = some u → w.drew.cell? (ad.add j) = some u := fun ad h0 j u hu => by
    rw [List.drop_of_length_le (by rw [hn]; omega)] at hu
    simp [flat] at hu
  have j1 : (0 : Int) ≤ (i : Int) := by omega
  have j2 : (i : Int) ≤ (i : Int) + 1 := by omega
  have j3 : (i : Int) + 1 ≤ (i : Int) + (m : Int) + 1 := by omega
  have j4 : (i : Int) + (m : Int) + 1 ≤ (cap : Int) := by omega
  have j5 : (0 : Int) ≤ (i : Int) + 1 := by omega
  have j6 : (i : Int) ≤ (cap : Int) := by omega
  have j7 : ((i : Int) == (i : Int) + 1) = false := by simp; omega
  have hlt := (Array.getElem?_eq_some_iff.1 h1).1
  have hroom : i + m ≤ cap := by omega
  have hcm : ¬ cap = i + m := by omega
  clear hn h5 h1 h4
  go_enter Try.func63, Try.ntmps63
  go_upto_region 5 with (fail)
  go_cut [0] from 20 to 26 (fun v wx => v = .slice (some ⟨g, 0, none⟩) (i + m) cap ∧ ∃ cur' : Array Value, wx.heap[g]? = some (.cells cur' 32 (0, 0)) ∧ cur'.size = cur.size ∧ cur'.toList = cur.toList.take (i * 4) ++ flat nc (L.drop (i + 1)) ++ cur.toList.drop ((i + m) * 4) ∧ Chg [g] w wx)
  case first =>
    by_cases hci : cap = i + 1
    · have hm0 : m = 0 := by omega
      have HM0 := Lib.hid hm0
      have HCI := Lib.hid hci
      subst hci
      clear hm0
      go_region_law (fail)
      all_goals
        go_wp2_with fail
        go_meet
        refine ⟨by rw [HM0.out]; rfl, cur, H1, rfl, ?_, (Chg.refl [g] w).drew⟩
        have e0 : L.drop (i + 1) = [] := List.drop_of_length_le (by have := HN.out; have := HM0.out; omega)
        rw [e0, HM0.out]
        simp [flat]
    · go_region_law (refine step_append_rowE rfl (.tmp 22) (.tmp 25) rfl g i cap cur H1 rfl ⟨g, (i + 1) * 4, none⟩ m (cap - (i + 1)) (L.drop (i + 1)) rfl hm hcell hroom H4 ?_; intro w' cur' k1 k2 k3 k4)
      all_goals
        go_wp2_with fail
        go_meet
        exact ⟨rfl, cur', k1, k2, k3, ((Chg.refl [g] w).drew).trans k4⟩
  case rest =>
    obtain ⟨rfl, cur', k1, k2, k3, k4⟩ := hcut
    have hc2 : ¬ cap = i + m := by omega
    have hfit : (i + m) * 4 + (i + m + 1 - (i + m)) * 4 ≤ cur'.size := by rw [k2, H4]; omega
    have i7 : (i : Int) + (m : Int) ≤ (i : Int) + (m : Int) + 1 := by omega
    have i8 : (0 : Int) ≤ (i : Int) + (m : Int) := by omega
    have i9 : (i : Int) + (m : Int) + 1 ≤ (cap : Int) := by omega
    have h01 : 0 < i + m + 1 - (i + m) := by omega
    have K3 := Lib.hid k3
    have K2 := Lib.hid k2
    have K4 := Lib.hid k4
    clear hcell hd0 hm k3 k2 k4 hcm
    go_wp2_with (refine wpList_clearE _ rfl (.tmp 31) rfl g ((i + m) * 4) (i + m + 1 - (i + m)) (cap - (i + m)) _ rfl cur' (.inr ⟨h01, rfl⟩) k1 hfit ?_)
    intro w2 cur2 q1 q2 q3 q4
    go_wp2_with fail
    go_ret
    refine ⟨rfl, ⟨cur2, q1, ?_, h3, by rw [q2, K2.out, H4], ?_⟩, K4.out.trans q4⟩
    · rw [List.length_eraseIdx, HN.out]; split <;> omega
    · have hl : (L.eraseIdx i).length = i + m := by rw [List.length_eraseIdx, HN.out, if_pos (by omega)]; omega
      rw [hl, q3, K3.out]
      have e1 : (cur.toList.take (i * 4)) = flat nc (L.take i) := by rw [flat_takeE, ← H5.out, List.take_take, Nat.min_eq_left (by omega)]
      have e2 : (L.take i ++ L.drop (i + 1)).length = i + m := by rw [List.length_append, List.length_take, List.length_drop, HN.out]; omega
      rw [e1, ← flat_append, List.eraseIdx_eq_take_drop_succ, List.take_append_of_le_length (by rw [flat_len nc_len, e2]; omega), List.take_of_length_le (by rw [flat_len nc_len, e2]; omega)]
theorem envDelete {w : World} {g n cap : Nat} {L : List Env} (h : Erow w g cap L) (hn : L.length = n) (i : Nat) (hi : i < n) :
    Calls Try.prog 63 #[.slice (some ⟨g, 0, none⟩) n cap, .int .i64 (i : Int), .int .i64 ((i : Int) + 1)] w fun e w' => e = .returned (.slice (some ⟨g, 0, none⟩) (n - 1) cap) ∧ Erow w' g cap (L.eraseIdx i) ∧ Chg [g] w w' := by
  obtain ⟨m, rfl⟩ : ∃ m, n = i + m + 1 := ⟨n - i - 1, by omega⟩
  have := envDeleteM h i m hn
  simpa using this
end Go.Proofs.Yteabcpmpcbjicaa
