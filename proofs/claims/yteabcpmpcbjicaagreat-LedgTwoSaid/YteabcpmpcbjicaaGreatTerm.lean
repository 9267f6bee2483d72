
import Derived.Test.YteabcpmpcbjicaaGreatWire2
import Derived.Laws.IdiomStrings
import Derived.Lib.SlBytesConst
import Derived.Maps.OwnSet
namespace Go.Proofs.YteabcpmpcbjicaaGreat
set_option linter.unusedVariables false
open Go Go.Proofs Go.RowKit Go.Maps
attribute [local go_sem ↓] Go.wp_at_zero Go.wp_at_succ

/-! Bytes as strings. -/
def ub (l : List Int) : List UInt8 := l.map fun n => UInt8.ofNat n.toNat
def bstr (l : List Int) : ByteArray := ⟨(ub l).toArray⟩
def Byt (l : List Int) : Prop := ∀ x ∈ l, 0 ≤ x ∧ x < 256
theorem ub_append (l m : List Int) : ub (l ++ m) = ub l ++ ub m := List.map_append
theorem ub_len (l : List Int) : (ub l).length = l.length := by simp [ub]
theorem ofNat_toNat8 {n : Int} (h : 0 ≤ n ∧ n < 256) : ((UInt8.ofNat n.toNat).toNat : Int) = n := by
  have : (UInt8.ofNat n.toNat).toNat = n.toNat := by
    rw [UInt8.toNat_ofNat']
    omega
  omega
theorem ub_inj : ∀ {l m : List Int}, Byt l → Byt m → ub l = ub m → l = m
  | [], [], _, _, _ => rfl
  | [], _ :: _, _, _, h => by simp [ub] at h
  | _ :: _, [], _, _, h => by simp [ub] at h
  | x :: l, y :: m, hl, hm, h => by
    simp only [ub, List.map_cons, List.cons.injEq] at h
    have h1 := ofNat_toNat8 (hl x (by simp))
    have h2 := ofNat_toNat8 (hm y (by simp))
    rw [h.1] at h1
    have : x = y := by omega
    rw [this, ub_inj (l := l) (m := m) (fun z hz => hl z (by simp [hz])) (fun z hz => hm z (by simp [hz])) h.2]
theorem num8_byt (n : Int) : Byt (num8 n) := by
  intro x hx
  simp only [num8, List.mem_cons, List.not_mem_nil, or_false] at hx
  rcases hx with rfl | rfl | rfl | rfl | rfl | rfl | rfl | rfl <;> omega
theorem num8_inj {a b : Int} (ha : U a) (hb : U b) (h : num8 a = num8 b) : a = b := by
  obtain ⟨a0, a1⟩ := ha
  obtain ⟨b0, b1⟩ := hb
  simp only [num8, List.cons.injEq] at h
  omega
theorem byt_append {l m : List Int} (hl : Byt l) (hm : Byt m) : Byt (l ++ m) := fun x hx => (List.mem_append.1 hx).elim (hl x) (hm x)
/-- string(b). -/
theorem conv_str {w : World} {g n c : Nat} {l : List Int} (hb : Byt l) (hl : l.length = n) (h : Beg w g 5 (bys l)) :
    (convert 95 9 (.slice (some ⟨g, 0, none⟩) n c)).run Tryz.prog w = .ok (.string (bstr l)) w := by
  have := run_convert_bytes_back (P := Tryz.prog) w 95 9 5 ⟨g, 0, none⟩ c (ub l) Tryz.underlying95 Tryz.underlying5 Tryz.underlying9 (by
    intro j hj
    rw [add_none, Nat.zero_add]
    refine h.at ?_
    have hj' : j < l.length := by rwa [ub_len] at hj
    rw [show (bys l)[j]? = some (.int .u8 l[j]) by simp [bys, hj']]
    have : (ub l)[j] = UInt8.ofNat (l[j]).toNat := by simp [ub]
    rw [this, ofNat_toNat8 (hb _ (List.getElem_mem hj'))])
  rw [ub_len, hl] at this
  exact this
/-! The map of rows of bytes. -/
def pos (T : List (List UInt8)) (b : List UInt8) : Int := if b ∈ T then ((T.idxOf b : Nat) : Int) + 1 else 0
def tins (T : List (List UInt8)) (b : List UInt8) : List (List UInt8) := if b ∈ T then T else T ++ [b]
theorem mem_tins (T : List (List UInt8)) (b : List UInt8) : b ∈ tins T b := by unfold tins; split <;> simp_all
theorem pos_tins_new {T : List (List UInt8)} {b : List UInt8} (h : b ∉ T) : pos (tins T b) b = (T.length : Int) + 1 := by
  unfold pos tins
  rw [if_neg h, if_pos (by simp), List.idxOf_append, if_neg h]
  simp
theorem pos_tins_other {T : List (List UInt8)} {b c : List UInt8} (h : c ≠ b) : pos (tins T b) c = pos T c := by
  unfold tins
  split
  · rfl
  · unfold pos
    by_cases hc : c ∈ T
    · rw [if_pos hc, if_pos (by simp [hc]), List.idxOf_append, if_pos hc]
    · rw [if_neg hc, if_neg (by simp [hc, h])]
theorem pos_pos {T : List (List UInt8)} {b : List UInt8} (h : b ∈ T) : 1 ≤ pos T b ∧ pos T b ≤ T.length := by
  unfold pos
  rw [if_pos h]
  have := List.idxOf_lt_length_of_mem h
  omega
theorem keyStr : Keyed Tryz.prog 9 := string_keyed Tryz.underlying9
theorem zeroI (w : World) : (zeroValue 3).run Tryz.prog w = .ok (.int .i64 0) w := by kernel_rfl
/-- Block b is a map of at most T's length entries: each row's place. -/
def MapS (w : World) (b : Nat) (T : List (List UInt8)) : Prop :=
  ∃ D : DataW Unit, IsMap D ∧ w.ownsMap Tryz.prog 9 (plainElem Tryz.prog 3) b T.length D ∧ ∀ x : List UInt8, x.length ≤ maxLen → D.atKey (.string x) (.lit (.int .i64 0)) = .lit (.int .i64 (pos T x))
theorem MapS.lt {w : World} {b : Nat} {T : List (List UInt8)} (h : MapS w b T) : b < w.heap.size := h.elim fun D g => g.2.1.lt
theorem MapS.chg {S : List Nat} {w w' : World} {b : Nat} {T : List (List UInt8)} (h : MapS w b T) (g : Chg S w w') (hn : b ∉ S) : MapS w' b T := by
  obtain ⟨D, h1, ⟨es, cl, h2, h3⟩, h4⟩ := h
  exact ⟨D, h1, ⟨es, cl, (g.block b (Array.getElem?_eq_some_iff.1 h2).1 hn).trans h2, h3⟩, h4⟩
theorem MapS.new (w : World) : MapS (w.alloc (.map #[] 0)) w.heap.size [] := ⟨.map [], isMap_empty, World.ownsMap_made _ _ _ _, fun x _ => rfl⟩
set_option maxRecDepth 100000 in
theorem key_str (l : List Int) (hk : l.length ≤ maxLen) : keyOf Tryz.prog 9 (.string (bstr l)) = some (.string (ub l)) := by
  have h : (bstr l).size ≤ maxLen := by show (ub l).toArray.size ≤ maxLen; simp [ub_len]; exact hk
  have e : (bstr l).data.toList = ub l := by unfold bstr; exact List.toList_toArray
  rw [WideMaps.keyOf_string_mk Tryz.underlying9 h, e]
set_option maxRecDepth 100000 in
theorem MapS.look {w : World} {b : Nat} {T : List (List UInt8)} (h : MapS w b T) (l : List Int) (hk : l.length ≤ maxLen) : (Instr.lookup 192 (.map (some b)) (.string (bstr l)) false).run Tryz.prog w = .ok (.int .i64 (pos T (ub l))) w := by
  obtain ⟨D, h1, h2, h3⟩ := h
  obtain ⟨c, hr, hc, _⟩ := h2.lookup_int keyStr Tryz.underlying192 Tryz.underlying3 (zeroI w) (key_str l hk)
  rw [h3 (ub l) (by rw [ub_len]; exact hk)] at hc
  injection hc with hc
  injection hc with _ hc
  rw [hr, hc]
set_option maxRecDepth 100000 in
theorem wpList_putS (w : World) {ops : Array Oper} {rest : List Oper} {o : Oper} {a : Act} {Q : Exit → Act → World → Prop}
    (hg : o.guard = none) (m x v : Operand) (hop : o.op = Op.mapUpdate 192 m x v) (b : Nat) (T : List (List UInt8))
    (hm : a.eval m = .map (some b)) (h : MapS w b T) (hT : T.length ≤ 1000000000) (l : List Int) (hx : a.eval x = .string (bstr l)) (hk : l.length ≤ maxLen) (n : Int) (hn : n = (T.length : Int) + 1) (hv : a.eval v = .int .i64 n) (hin : ub l ∉ T)
    (hK : ∀ w', MapS w' b (T ++ [ub l]) → Chg [b] w w' → wpList Tryz.prog ops Q rest (a.put o.dst undef) w') : wpList Tryz.prog ops Q (o :: rest) a w := by
  obtain ⟨D, h1, h2, h3⟩ := h
  subst hn
  have hI : I ((T.length : Int) + 1) := ⟨by omega, by omega⟩
  refine wpList_mapUpdate_own w hg m x v 192 hop 9 3 keyStr Tryz.underlying192 _ b _ D hm h2 (by unfold maxLen; omega) _ _ _ hx hv (key_str l hk) (.lit (.int .i64 ((T.length : Int) + 1))) [] (plainElem_int Tryz.underlying3 (I_lit hI)) ?_
  intro w' g1 g2
  have hkl : WideAt.IsKeyLit (.string (ub l)) := keyStr.key (key_str l hk)
  refine hK w' ⟨_, h1.put _ _, by rw [List.length_append]; exact g1, fun y hy => ?_⟩ ((Chg.refl _ _).grown g2 (by simp))
  have ht : tins T (ub l) = T ++ [ub l] := by unfold tins; rw [if_neg hin]
  by_cases e : y = ub l
  · subst e
    rw [atKey_put_same h1 hkl, ← ht, pos_tins_new hin]
  · rw [atKey_put_other (by intro h; injection h with h; exact e h), h3 y hy, ← ht, pos_tins_other e]
theorem MapS.drewN {w : World} {b : Nat} {T : List (List UInt8)} (h : MapS w b T) (n : Nat) : MapS (w.drewN n) b T := h
/-- An arena of rows of bytes: its struct's block g, its map's block mb, its row. -/
structure Ter (w : World) (g mb : Nat) (F : List Nat) (T : List (List UInt8)) : Prop where
  hd : ∃ v, Blk w g 195 [v, .map (some mb)] ∧ w.ownsRow (g + 1) 9 1 v T.length (T.map fun b => Value.string ⟨b.toArray⟩) ∧ ∀ k, v.ownBlock = some k → k ∈ F
  mp : MapS w mb T
  inF : g ∈ F ∧ mb ∈ F
  lo : ∀ z ∈ F, mb ≤ z
  lt : ∀ z ∈ F, z < w.heap.size
  ne : mb < g
set_option maxHeartbeats 1000000 in
theorem tNew (w : World) : Calls Tryz.prog 63 #[] w fun e w' => e = .returned (.pointer (some ⟨w.heap.size + 1, 0, none⟩)) ∧ Ter w' (w.heap.size + 1) w.heap.size [w.heap.size + 1, w.heap.size] [] ∧ Chg [] w w' ∧ w'.heap.size = w.heap.size + 2 := by
  have hmm := @run_makeMap Tryz.prog
  go_enter Tryz.func63, Tryz.ntmps63
  go_wp2_with fail
  go_ret
  have hb := Blk.new (w.alloc (.map #[] 0)) [.slice none 0 0, .map (some w.heap.size)] 195
  have hm := (MapS.new w).chg (((Chg.refl [] _).alloc (.cells #[.slice none 0 0, .map (some w.heap.size)] 195))) (by simp)
  refine ⟨rfl, ⟨⟨_, by simpa using hb, ⟨by simp, .inl ⟨rfl, rfl⟩⟩, fun k hk => by simp [Value.ownBlock] at hk⟩, hm, by simp, by simp, by simp; omega, by omega⟩, ((Chg.refl _ _).alloc _).alloc _, by simp⟩
theorem info_str : (Tryz.prog.info? 9).map (fun i => (i.zero, i.size, i.bytes)) = some (some (.string ByteArray.empty), 1, 16) := by kernel_rfl
theorem own_sto {w : World} {base n : Nat} {T : TypeId} {sz : Nat} {v : Value} {xs : List Value} (h : w.ownsRow base T sz v n xs) {p : Addr} {u : Value} (hp : ∀ k, v.ownBlock = some k → k ≠ p.block) : (w.setCell p u).ownsRow base T sz v n xs := by
  refine ⟨h.1, ?_⟩
  rcases h.2 with h1 | ⟨gg, c, cur, hv, hg, hh, hr⟩
  · exact .inl h1
  · refine .inr ⟨gg, c, cur, hv, hg, ?_, hr⟩
    rw [Below.heap_setCell _ _ _ _ (hp gg (by rw [hv]; rfl))]
    exact hh
set_option maxRecDepth 100000 in
set_option maxHeartbeats 4000000 in
theorem tdig {w : World} {g mb : Nat} {F : List Nat} {T : List (List UInt8)} (h : Ter w g mb F T) {ga n c : Nat} {l : List Int} (hb : Byt l) (hl : l.length = n) (hn : n ≤ 1000000) (hT : T.length ≤ 1000000000) (hbe : Beg w ga 5 (bys l)) (hga : ga ∉ F) :
    Calls Tryz.prog 108 #[.pointer (some ⟨g, 0, none⟩), .slice (some ⟨ga, 0, none⟩) n c] w fun e w' => e = .returned (.int .i64 (pos (tins T (ub l)) (ub l))) ∧ ∃ F', Ter w' g mb F' (tins T (ub l)) ∧ Chg F w w' ∧ Grw w.heap.size F F' := by
  obtain ⟨v, hd, ho, hv⟩ := h.hd
  have d0 := hd.at (i := 0) rfl
  have d1 := hd.at (i := 1) rfl
  have kc := fun k => conv_str (w := w.drewN k) (c := c) hb hl hbe
  have kl := fun k => (h.mp.drewN k).look l (by unfold maxLen; omega)
  obtain ⟨d, hdd⟩ : ∃ d, pos T (ub l) = d := ⟨_, rfl⟩
  rw [hdd] at kl
  have HDD := Lib.hid hdd
  clear hdd
  by_cases hin : ub l ∈ T
  · have hd1 : (d == 0) = false := by have := (pos_pos hin).1; have := HDD.out; simp; omega
    go_enter Tryz.func108, Tryz.ntmps108
    go_upto_region 1 with (fail)
    go_quiet (fail)
    go_wp2_with fail
    go_ret
    have ht : tins T (ub l) = T := by unfold tins; rw [if_pos hin]
    rw [ht]
    exact ⟨by rw [HDD.out]; rfl, F, ⟨⟨v, hd, ho, hv⟩, h.mp, h.inF, h.lo, h.lt, h.ne⟩, (Chg.refl _ _).drewN _, Grw.refl _ _⟩
  · have hd0 : d = 0 := by rw [← HDD.out]; unfold pos; rw [if_neg hin]
    subst hd0
    obtain ⟨i0, hi, hz0, hz1, hz2⟩ := info_parts info_str
    have hlt := hd.lt
    have hmp := h.mp
    have hne := h.ne
    have HH := Lib.hid h
    obtain ⟨m, hm⟩ : ∃ m, T.length = m := ⟨_, rfl⟩
    rw [hm] at ho hT
    have HM := Lib.hid hm
    have HIN := Lib.hid hin
    have HL := Lib.hid hl
    clear hm hin hl h
    go_enter Tryz.func108, Tryz.ntmps108
    go_upto_region 1 with (fail)
    go_quiet (fail)
    go_upto_region 3 with (fail)
    have hc0 : Chg [] w (w.drewN nq) := (Chg.refl _ _).drewN _
    have kcW := conv_str (w := (w.drewN nq).drew) (c := c) hb HL.out hbe
    have hdW : Blk (w.drewN nq) g 195 [v, .map (some mb)] := hd
    have hoW : (w.drewN nq).ownsRow (g + 1) 9 1 v m (T.map fun b => Value.string ⟨b.toArray⟩) := ho
    have hmW : MapS (w.drewN nq) mb T := hmp
    have hbW : Beg (w.drewN nq) ga 5 (bys l) := hbe
    have hwl : g < (w.drewN nq).heap.size := hlt
    clear kc kl d0 d1 hd ho hmp hbe
    generalize w.drewN nq = W at *
    have d0 := hdW.at (i := 0) rfl
    have dA : ∀ ob, (W.alloc ob).cell? ⟨g, 0, none⟩ = some v := fun ob => (hdW.alloc ob).at (i := 0) rfl
    go_cut [5] from 15 to 25 (fun x wx => x = .int .i64 0 ∧ ∃ v1, Blk wx g 195 [v1, .map (some mb)] ∧ wx.ownsRow (g + 1) 9 1 v1 (m + 1) ((T.map fun b => Value.string ⟨b.toArray⟩) ++ [.string (bstr l)]) ∧ (∀ k, v1.ownBlock = some k → k ∈ F ∨ W.heap.size ≤ k) ∧ Chg (g :: v.ownBlock.toList) W wx)
    case first =>
      go_region_law (refine step_append_own _ rfl (.tmp 19) (.tmp 22) 193 rfl (g + 1) 9 i0 (.string ByteArray.empty) 1 16 Tryz.underlying193 hi hz0 hz1 hz2 rfl (by decide) v m (T.map fun b => Value.string ⟨b.toArray⟩) rfl ((hoW.alloc _).drew) ⟨W.heap.size, 0, none⟩ 1 1 [.string (bstr l)] rfl rfl (fun j u hj => one_new _ _ _ j u hj) (by simp [Value.oneCell']) (by unfold maxLen; omega) (by omega) (by simp; omega) ?_; intro v1 w1 hown1 hg1 hat1; obtain ⟨a1, c1, rfl⟩ := own_slice hown1; have hE1 : w1.heap[g]? = W.heap[g]? := (hg1.block g (by simp; omega) (fun e => by have := own_base hoW g e.symm; omega)).trans (Below.heap_alloc _ _ _ (by show g < W.heap.size; omega)); have hf1 := (hdW.same hE1).free 0; have c01 := (hdW.same hE1).at (i := 0) rfl; have hF : Chg (g :: v.ownBlock.toList) W w1 := (((Chg.refl _ W).alloc _).drew).grown hg1 (fun k hk => .inl (by simp [hk])))
      all_goals
        have hb2 := (hdW.same hE1).set 0 (.slice a1 (m + 1) c1)
        have ho2 : (w1.setCell ⟨g, 0, none⟩ (.slice a1 (m + 1) c1)).ownsRow (g + 1) 9 1 (.slice a1 (m + 1) c1) (m + 1) ((T.map fun b => Value.string ⟨b.toArray⟩) ++ [.string (bstr l)]) := own_sto hown1 (fun k hk => by have := own_base hown1 k hk; show k ≠ g; omega)
        have hat2 : ∀ k, Value.ownBlock (.slice a1 (m + 1) c1) = some k → k ∈ F ∨ W.heap.size ≤ k := fun k hk => hat1.elim (fun e => .inl (hv k (e ▸ hk))) (fun e => .inr (by rw [hk] at e; injection e with e; rw [e]; simp))
        have hF2 := hF.setCell ⟨g, 0, none⟩ (.slice a1 (m + 1) c1) (.inl (by simp))
        go_wp2_with fail
        go_meet
        exact ⟨rfl, _, hb2, ho2, hat2, hF2⟩
    case rest =>
      obtain ⟨rfl, v1, hb2, ho2, hat2, hF2⟩ := hcut
      obtain ⟨a1, c1, rfl⟩ := own_slice ho2
      have hmc : MapS wc mb T := hmW.chg hF2 (by
        simp only [List.mem_cons, not_or, Option.mem_toList]
        exact ⟨by omega, fun hk => by have := own_base hoW mb hk; omega⟩)
      have hCF : Chg F W wc := hF2.mono (fun z hz => by
        rcases List.mem_cons.1 hz with e | e
        · exact e ▸ HH.out.inF.1
        · exact hv z (by simpa using e))
      have hbc := hbW.chg hCF hga
      have kc2 := conv_str (w := wc.drew) (c := c) hb HL.out hbc
      have e0 := hb2.at (i := 0) rfl
      have e1 := hb2.at (i := 1) rfl
      have HC := Lib.hid (hc0.mono (fun z hz => by simp at hz) : Chg F w W)
      have HCF := Lib.hid hCF
      clear hF2 hmW hbW hoW hdW dA d0 kcW hc0 hCF hbc hi
      go_upto_region 5 with (fail)
      go_wp2_with fail
      go_still_tail 7, (by kernel_rfl)
      change wpList _ _ _ _ _ wc.drew
      have hcW : Chg F w wc.drew := (HC.out.trans HCF.out).drew
      have hb3 : Blk wc.drew g 195 [.slice a1 (m + 1) c1, .map (some mb)] := hb2
      have ho3 : wc.drew.ownsRow (g + 1) 9 1 (.slice a1 (m + 1) c1) (m + 1) ((T.map fun b => Value.string ⟨b.toArray⟩) ++ [.string (bstr l)]) := ho2
      have hm3 : MapS wc.drew mb T := hmc
      have hsz : W.heap.size ≤ wc.drew.heap.size := HCF.out.size
      clear hb2 ho2 hmc kc2 e0 e1
      generalize wc.drew = w3 at *
      go_wp2_with (at_mapUpdate; refine wpList_putS _ rfl (.tmp 34) (.tmp 36) (.tmp 37) rfl mb T rfl hm3 (by rw [HM.out]; exact hT) l rfl (by rw [HL.out]; unfold maxLen; omega) ((m : Int) + 1) (by rw [HM.out]) rfl HIN.out ?_)
      intro w4 hm4 hc4
      go_wp2_with fail
      go_ret
      have ht : tins T (ub l) = T ++ [ub l] := by unfold tins; rw [if_neg HIN.out]
      refine ⟨by rw [pos_tins_new HIN.out, HM.out]; rfl, ?_⟩
      rw [ht]
      have hlen : (T ++ [ub l]).length = m + 1 := by rw [List.length_append, HM.out]; rfl
      have hmap : (T ++ [ub l]).map (fun b => Value.string ⟨b.toArray⟩) = (T.map fun b => Value.string ⟨b.toArray⟩) ++ [.string (bstr l)] := by simp [bstr]
      have hb4 := hb3.chg hc4 (by simp; omega)
      have ho4 := own_chg2 ho3 hc4 (fun k hk => by have := own_base ho3 k hk; simp; omega)
      have hz := HC.out.size
      have hgm := HH.out.inF
      have hlm := HH.out.lo
      refine ⟨g :: mb :: (Value.slice a1 (m + 1) c1).ownBlock.toList, ⟨⟨_, hb4, by rw [hlen, hmap]; exact ho4, fun k hk => by simp [hk]⟩, hm4, by simp, fun z hz => ?_, fun z hz => ?_, hne⟩, hcW.trans (hc4.mono (fun z hz => by simp at hz; rw [hz]; exact hgm.2)), fun z hz' => ?_⟩
      · simp only [List.mem_cons, Option.mem_toList] at hz
        rcases hz with e | e | e
        · omega
        · omega
        · have := own_base ho3 z e; omega
      · simp only [List.mem_cons, Option.mem_toList] at hz
        rcases hz with e | e | e
        · rw [e]; exact hb4.lt
        · rw [e]; exact hm4.lt
        · exact (ho4.lt z e).2
      · simp only [List.mem_cons, Option.mem_toList] at hz'
        rcases hz' with e | e | e
        · exact .inl (e ▸ hgm.1)
        · exact .inl (e ▸ hgm.2)
        · exact (hat2 z e).imp id (fun q => by omega)
end Go.Proofs.YteabcpmpcbjicaaGreat
