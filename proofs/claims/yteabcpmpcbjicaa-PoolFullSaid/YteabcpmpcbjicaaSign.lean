
import Derived.Test.YteabcpmpcbjicaaTerm
import Derived.WalkSpells
namespace Go.Proofs.Yteabcpmpcbjicaa
set_option linter.unusedVariables false
set_option maxRecDepth 100000
open Go Go.Proofs Go.RowKit Go.Maps
attribute [local go_sem ↓] Go.wp_at_zero Go.wp_at_succ

/-! A map of numbers that is used as a set. -/
def sadd (l : List Int) (x : Int) : List Int := if x ∈ l then l else l ++ [x]
theorem mem_sadd {l : List Int} {x y : Int} : y ∈ sadd l x ↔ y ∈ l ∨ y = x := by
  unfold sadd
  split
  · constructor
    · exact .inl
    · rintro (h | rfl) <;> assumption
  · simp
theorem own_shrink {w : World} {k : TypeId} {R : Value → Option (DataW Unit × List MemPlace)} {b n : Nat} {D : DataW Unit} (h : w.ownsMap Try.prog k R b n D) : w.ownsMap Try.prog k R b (size D) D := by
  obtain ⟨es, clock, hb, F, hs, rfl⟩ := h
  have e1 : Maps.size (DataW.map ((es.toList.map (Go.WideElems.rg Try.prog k R)).foldr DataW.insert [])) = es.size := by simp [Maps.size, length_sorted]
  exact ⟨es, clock, hb, F, by rw [e1]; exact Nat.le_refl _, rfl⟩
def MapI (w : World) (b : Nat) (l : List Int) : Prop :=
  ∃ D : DataW Unit, Tidy D ∧ w.ownsMap Try.prog 3 (plainElem Try.prog 3) b l.length D ∧ size D = l.length ∧
    ∀ x, I x → D.atKey (.int .i64 x) (.lit (.int .i64 0)) = .lit (.int .i64 (if x ∈ l then 1 else 0)) ∧ has D (.int .i64 x) = decide (x ∈ l)
theorem MapI.lt {w : World} {b : Nat} {l : List Int} (h : MapI w b l) : b < w.heap.size := h.elim fun D g => g.2.1.lt
theorem MapI.chg {S : List Nat} {w w' : World} {b : Nat} {l : List Int} (h : MapI w b l) (g : Chg S w w') (hn : b ∉ S) : MapI w' b l := by
  obtain ⟨D, h1, ⟨es, cl, h2, h3⟩, h4⟩ := h
  exact ⟨D, h1, ⟨es, cl, (g.block b (Array.getElem?_eq_some_iff.1 h2).1 hn).trans h2, h3⟩, h4⟩
theorem MapI.new (w : World) : MapI (w.alloc (.map #[] 0)) w.heap.size [] := ⟨.map [], tidy_empty, World.ownsMap_made _ _ _ _, rfl, fun x _ => ⟨rfl, rfl⟩⟩
theorem MapI.look {w : World} {b : Nat} {l : List Int} (h : MapI w b l) {x : Int} (hx : I x) : (Instr.lookup 186 (.map (some b)) (.int .i64 x) false).run Try.prog w = .ok (.int .i64 (if x ∈ l then 1 else 0)) w := by
  obtain ⟨D, h1, h2, h3, h4⟩ := h
  obtain ⟨c, hr, hc, _⟩ := h2.lookup_int keyInt Try.underlying186 Try.underlying3 (zeroI w) (keyOf_int_mk Try.underlying3 (I_lit hx))
  rw [(h4 x hx).1] at hc
  injection hc with hc
  injection hc with _ hc
  rw [hr, hc]
theorem look_nilI (w : World) {x : Int} (hx : I x) : (Instr.lookup 186 (.map none) (.int .i64 x) false).run Try.prog w = .ok (.int .i64 0) w := by
  have := Maps.look_nil (w := w) false keyInt Try.underlying186 (zeroI w) (keyOf_int_mk Try.underlying3 (I_lit hx))
  simpa using this
theorem wpList_putI (w : World) {ops : Array Oper} {rest : List Oper} {o : Oper} {a : Act} {Q : Exit → Act → World → Prop}
    (hg : o.guard = none) (m x v : Operand) (hop : o.op = Op.mapUpdate 186 m x v) (b : Nat) (l : List Int)
    (hm : a.eval m = .map (some b)) (h : MapI w b l) (hn : l.length < maxLen) (key : Int) (hx : a.eval x = .int .i64 key) (hv : a.eval v = .int .i64 1) (hk : I key)
    (hK : ∀ w', MapI w' b (sadd l key) → Chg [b] w w' → wpList Try.prog ops Q rest (a.put o.dst undef) w') : wpList Try.prog ops Q (o :: rest) a w := by
  obtain ⟨D, h1, h2, h3, h4⟩ := h
  have hkey := keyOf_int_mk (P := Try.prog) (k := 3) Try.underlying3 (I_lit hk)
  refine wpList_mapUpdate_own w hg m x v 186 hop 3 3 keyInt Try.underlying186 _ b _ D hm h2 hn _ _ _ hx hv hkey (.lit (.int .i64 1)) [] (plainElem_int Try.underlying3 (by decide)) ?_
  intro w' g1 g2
  have hkl : WideAt.IsKeyLit (.int .i64 key) := keyInt.key hkey
  have hsz : size (D.put (.int .i64 key) (.lit (.int .i64 1))) = (sadd l key).length := by
    rw [size_put h1, (h4 key hk).2, h3]
    unfold sadd
    by_cases e : key ∈ l <;> simp [e]
  refine hK w' ⟨_, h1.put hkl _, hsz ▸ own_shrink g1, hsz, fun y hy => ?_⟩ ((Chg.refl _ _).grown g2 (by simp))
  by_cases e : y = key
  · subst e
    rw [atKey_put_same h1.isMap hkl, has_put_same h1.isMap hkl]
    simp [mem_sadd]
  · have hne : (Lit.int IntKind.i64 y) ≠ .int .i64 key := by intro h; injection h with _ h; exact e h
    rw [atKey_put_other hne, has_put_other hne, (h4 y hy).1, (h4 y hy).2]
    simp [mem_sadd, e]
/-! A map of maps. -/
def Rm : Value → Option (DataW Unit × List MemPlace)
  | .map none => some (.lit (.int .i64 0), [])
  | .map (some b) => some (.lit (.int .i64 ((b : Int) + 1)), [])
  | _ => none
def cod : Option Nat → Int
  | none => 0
  | some b => (b : Int) + 1
theorem Rm_inv {v : Value} {q : Option Nat} {ps : List MemPlace} (h : Rm v = some (.lit (.int .i64 (cod q)), ps)) : v = .map q := by
  unfold Rm at h
  split at h
  · cases q with
    | none => rfl
    | some b => simp [cod] at h; omega
  · rename_i b
    cases q with
    | none => simp [cod] at h; omega
    | some c => simp [cod] at h; rw [show b = c from by omega]
  · cases h
def MapM (w : World) (b n : Nat) (q : Int → Option Nat) : Prop :=
  ∃ D : DataW Unit, IsMap D ∧ w.ownsMap Try.prog 3 Rm b n D ∧ ∀ x, I x → D.atKey (.int .i64 x) (.lit (.int .i64 0)) = .lit (.int .i64 (cod (q x)))
theorem MapM.lt {w : World} {b n : Nat} {q : Int → Option Nat} (h : MapM w b n q) : b < w.heap.size := h.elim fun D g => g.2.1.lt
theorem MapM.chg {S : List Nat} {w w' : World} {b n : Nat} {q : Int → Option Nat} (h : MapM w b n q) (g : Chg S w w') (hn : b ∉ S) : MapM w' b n q := by
  obtain ⟨D, h1, ⟨es, cl, h2, h3⟩, h4⟩ := h
  exact ⟨D, h1, ⟨es, cl, (g.block b (Array.getElem?_eq_some_iff.1 h2).1 hn).trans h2, h3⟩, h4⟩
theorem MapM.mono {w : World} {b n m : Nat} {q : Int → Option Nat} (h : MapM w b n q) (hm : n ≤ m) : MapM w b m q := by
  obtain ⟨D, h1, h2, h4⟩ := h
  exact ⟨D, h1, h2.mono hm, h4⟩
theorem MapM.new (w : World) : MapM (w.alloc (.map #[] 0)) w.heap.size 0 (fun _ => none) := ⟨.map [], isMap_empty, World.ownsMap_made _ _ _ _, fun x _ => rfl⟩
theorem zeroM (w : World) : (zeroValue 186).run Try.prog w = .ok (.map none) w := by kernel_rfl
theorem MapM.look {w : World} {b n : Nat} {q : Int → Option Nat} (h : MapM w b n q) {x : Int} (hx : I x) : (Instr.lookup 176 (.map (some b)) (.int .i64 x) false).run Try.prog w = .ok (.map (q x)) w := by
  obtain ⟨D, h1, h2, h4⟩ := h
  obtain ⟨v, ps, hr, hv⟩ := h2.lookup keyInt Try.underlying176 (zeroM w) (zd := .lit (.int .i64 0)) (zp := []) rfl (keyOf_int_mk Try.underlying3 (I_lit hx))
  rw [h4 x hx] at hv
  rw [hr, Rm_inv hv]
def updO (q : Int → Option Nat) (k : Int) (b : Nat) : Int → Option Nat := fun x => if x = k then some b else q x
theorem wpList_putM (w : World) {ops : Array Oper} {rest : List Oper} {o : Oper} {a : Act} {Q : Exit → Act → World → Prop}
    (hg : o.guard = none) (m x v : Operand) (hop : o.op = Op.mapUpdate 176 m x v) (b n : Nat) (q : Int → Option Nat)
    (hm : a.eval m = .map (some b)) (h : MapM w b n q) (hn : n < maxLen) (key : Int) (c : Nat) (hx : a.eval x = .int .i64 key) (hv : a.eval v = .map (some c)) (hk : I key)
    (hK : ∀ w', MapM w' b (n + 1) (updO q key c) → Chg [b] w w' → wpList Try.prog ops Q rest (a.put o.dst undef) w') : wpList Try.prog ops Q (o :: rest) a w := by
  obtain ⟨D, h1, h2, h4⟩ := h
  have hkey := keyOf_int_mk (P := Try.prog) (k := 3) Try.underlying3 (I_lit hk)
  refine wpList_mapUpdate_own w hg m x v 176 hop 3 186 keyInt Try.underlying176 _ b n D hm h2 hn _ _ _ hx hv hkey (.lit (.int .i64 ((c : Int) + 1))) [] rfl ?_
  intro w' g1 g2
  have hkl : WideAt.IsKeyLit (.int .i64 key) := keyInt.key hkey
  refine hK w' ⟨_, h1.put _ _, g1, fun y hy => ?_⟩ ((Chg.refl _ _).grown g2 (by simp))
  by_cases e : y = key
  · subst e
    rw [atKey_put_same h1 hkl]
    simp [updO, cod]
  · rw [atKey_put_other (by intro h; injection h with _ h; exact e h), h4 y hy]
    simp [updO, e]
/-! A book of signatures: who signed a digest. -/
structure Sgn (w : World) (g mb : Nat) (F : List Nat) (n : Nat) (f : Int → List Int) : Prop where
  hd : Blk w g 178 [.map (some mb)]
  mp : ∃ q : Int → Option Nat, MapM w mb n q ∧ (∀ x b, q x = some b → b ∈ F ∧ b ≠ g ∧ b ≠ mb ∧ MapI w b (f x)) ∧ (∀ x, q x = none → f x = []) ∧ ∀ x y b, q x = some b → q y = some b → x = y
  inF : g ∈ F ∧ mb ∈ F
  lo : ∀ z ∈ F, mb ≤ z
  lt : ∀ z ∈ F, z < w.heap.size
  ne : mb < g
theorem Sgn.aside {w w' : World} {g mb : Nat} {F S : List Nat} {n : Nat} {f : Int → List Int} (h : Sgn w g mb F n f) (c : Chg S w w') (hs : ∀ z ∈ S, z ∉ F) : Sgn w' g mb F n f := by
  obtain ⟨q, m1, m2, m3, m4⟩ := h.mp
  exact ⟨h.hd.chg c (fun hm => hs _ hm h.inF.1), ⟨q, m1.chg c (fun hm => hs _ hm h.inF.2), fun x b hb => ⟨(m2 x b hb).1, (m2 x b hb).2.1, (m2 x b hb).2.2.1, (m2 x b hb).2.2.2.chg c (fun hm => hs _ hm (m2 x b hb).1)⟩, m3, m4⟩, h.inF, h.lo, fun z hz => Nat.lt_of_lt_of_le (h.lt z hz) c.size, h.ne⟩
theorem sNew (w : World) : Calls Try.prog 54 #[] w fun e w' => e = .returned (.pointer (some ⟨w.heap.size + 1, 0, none⟩)) ∧ Sgn w' (w.heap.size + 1) w.heap.size [w.heap.size + 1, w.heap.size] 0 (fun _ => []) ∧ Chg [] w w' ∧ w'.heap.size = w.heap.size + 2 := by
  have hmm := @run_makeMap Try.prog
  go_enter Try.func54, Try.ntmps54
  go_wp2_with fail
  go_ret
  have hb := Blk.new (w.alloc (.map #[] 0)) [.map (some w.heap.size)] 178
  have hm := (MapM.new w).chg (((Chg.refl [] _).alloc (.cells #[.map (some w.heap.size)] 178))) (by simp)
  exact ⟨rfl, ⟨by simpa using hb, ⟨fun _ => none, hm, (fun x b hb => by cases hb), (fun _ _ => rfl), (fun x y b hb => by cases hb)⟩, by simp, by simp, by simp; omega, by omega⟩, ((Chg.refl _ _).alloc _).alloc _, by simp⟩
set_option maxHeartbeats 1000000 in
theorem sHas {w : World} {g mb : Nat} {F : List Nat} {n : Nat} {f : Int → List Int} (h : Sgn w g mb F n f) (who d : Int) (hw : I who) (hd : I d) :
    Calls Try.prog 106 #[.pointer (some ⟨g, 0, none⟩), .int .i64 who, .int .i64 d] w fun e w' => e = .returned (.bool (decide (who ∈ f d))) ∧ w = w' := by
  obtain ⟨q, m1, m2, m3, m4⟩ := h.mp
  have d0 := h.hd.at (i := 0) rfl
  have l1 := m1.look hd
  cases hq : q d with
  | none =>
    have l2 := look_nilI w hw
    rw [hq] at l1
    have hf : Hid (f d = []) := m3 d hq
    clear hq m1 m2 m3 m4
    go_enter Try.func106, Try.ntmps106
    go_wp2_with fail
    go_ret
    exact ⟨by rw [hf.out]; rfl, rfl⟩
  | some b =>
    have l2 := (m2 d b hq).2.2.2.look hw
    rw [hq] at l1
    clear hq m1 m2 m3 m4
    by_cases e : who ∈ f d
    · rw [if_pos e] at l2
      have E := Lib.hid e
      clear e
      go_enter Try.func106, Try.ntmps106
      go_wp2_with fail
      go_ret
      exact ⟨by simp [E.out], rfl⟩
    · rw [if_neg e] at l2
      have E := Lib.hid e
      clear e
      go_enter Try.func106, Try.ntmps106
      go_wp2_with fail
      go_ret
      exact ⟨by simp [E.out], rfl⟩
def updL (f : Int → List Int) (d who : Int) : Int → List Int := fun x => if x = d then sadd (f x) who else f x
set_option maxHeartbeats 1000000 in
theorem sSign {w : World} {g mb : Nat} {F : List Nat} {n : Nat} {f : Int → List Int} (h : Sgn w g mb F n f) (who d : Int) (hw : I who) (hd : I d) (hn : n ≤ 1000000000) (hf : (f d).length ≤ 1000000000) :
    Calls Try.prog 58 #[.pointer (some ⟨g, 0, none⟩), .int .i64 who, .int .i64 d] w fun e w' => e = .returned (.tuple #[]) ∧ ∃ F', Sgn w' g mb F' (n + 1) (updL f d who) ∧ Chg F w w' ∧ Grw w.heap.size F F' := by
  obtain ⟨q, m1, m2, m3, m4⟩ := h.mp
  have d0 := h.hd.at (i := 0) rfl
  have l1 := m1.look hd
  have hmm := @run_makeMap Try.prog
  have HH := Lib.hid h
  have hmb := h.hd.lt
  have hmm' := m1.lt
  have hne := h.ne
  cases hq : q d with
  | none =>
    rw [hq] at l1
    have hfd : Hid (f d = []) := m3 d hq
    have hen : (binOp .eql 186 (.map none) (.map none)).run Try.prog w = .ok (.bool true) w := run_eql_map_nil w 186 3 3 none Try.underlying186
    have HQ := Lib.hid hq
    have M1 := Lib.hid m1
    have M2 := Lib.hid m2
    have M3 := Lib.hid m3
    have M4 := Lib.hid m4
    clear hq m1 m2 m3 m4 h
    go_enter Try.func58, Try.ntmps58
    go_wp2_with (at_mapUpdate; refine wpList_putM _ rfl (.tmp 16) (.tmp 17) (.tmp 18) rfl mb n q rfl (M1.out.chg ((Chg.refl [] w).alloc _) (by simp)) (by unfold maxLen; omega) d w.heap.size rfl rfl hd ?_)
    intro w2 hM2 hc2
    have cA : Chg [] w (w.alloc (.map #[] 0)) := (Chg.refl [] w).alloc _
    have hI2 : MapI w2 w.heap.size [] := (MapI.new w).chg hc2 (by simp; omega)
    have hb2 := ((HH.out.hd.chg cA (by simp)).chg hc2 (by simp; omega))
    have d02 := hb2.at (i := 0) rfl
    have l2 := hM2.look hd
    have hu : updO q d w.heap.size d = some w.heap.size := by simp [updO]
    rw [hu] at l2
    have HC := Lib.hid ((cA.mono (by simp)).trans hc2 : Chg [mb] w w2)
    have HM := Lib.hid hM2
    have hs2 := hc2.size
    have hsa : (w.alloc (.map #[] 0)).heap.size = w.heap.size + 1 := by simp
    rw [hsa] at hs2
    clear hu l1 d0 hM2 hc2 cA hen hsa
    generalize hK : w.heap.size = K at *
    have HK := Lib.hid hK
    clear hK
    go_wp2_with (at_mapUpdate; refine wpList_putI _ rfl _ _ _ rfl K [] rfl hI2 (by decide) who rfl rfl hw ?_)
    intro w3 hI3 hc3
    go_wp2_with fail
    go_end0
    have hin := HH.out.inF
    have hlt : ∀ z ∈ F, z < K := fun z hz => by have := HH.out.lt z hz; have := HK.out; omega
    have hKw := HK.out
    refine ⟨rfl, K :: F, ⟨hb2.chg hc3 (by simp; omega), ⟨updO q d K, HM.out.chg hc3 (by simp; omega), fun x b hx => ?_, fun x hx => ?_, fun x y b hx hy => ?_⟩, by simp [hin], ?_, ?_, hne⟩, ?_, ?_⟩
    · unfold updO at hx
      split at hx
      · rename_i e
        injection hx with hx
        subst hx
        refine ⟨by simp, by omega, by omega, ?_⟩
        have : updL f d who x = sadd [] who := by unfold updL; rw [if_pos e, e, hfd.out]
        rw [this]
        exact hI3
      · rename_i e
        obtain ⟨p1, p2, p3, p4⟩ := M2.out x b hx
        have hbk := hlt b p1
        refine ⟨by simp [p1], p2, p3, ?_⟩
        have : updL f d who x = f x := by unfold updL; rw [if_neg e]
        rw [this]
        exact (p4.chg HC.out (by simp; exact p3)).chg hc3 (by simp; omega)
    · unfold updO at hx
      split at hx
      · cases hx
      · rename_i e
        have : updL f d who x = f x := by unfold updL; rw [if_neg e]
        rw [this]
        exact M3.out x hx
    · unfold updO at hx hy
      split at hx
      · rename_i e
        split at hy
        · rename_i e2; rw [e, e2]
        · injection hx with hx
          have := hlt b (M2.out y b hy).1
          omega
      · split at hy
        · injection hy with hy
          have := hlt b (M2.out x b hx).1
          omega
        · exact M4.out x y b hx hy
    · intro z hz
      rcases List.mem_cons.1 hz with e | e
      · omega
      · exact HH.out.lo z e
    · intro z hz
      have := hc3.size
      rcases List.mem_cons.1 hz with e | e
      · omega
      · have := hlt z e; omega
    · exact (HC.out.mono (fun z hz => by simp at hz; rw [hz]; exact hin.2)).trans' hc3 (fun z hz => by simp at hz; right; omega)
    · intro z hz
      rcases List.mem_cons.1 hz with e | e
      · right; omega
      · exact .inl e
  | some b =>
    rw [hq] at l1
    have hen : (binOp .eql 186 (.map (some b)) (.map none)).run Try.prog w = .ok (.bool false) w := run_eql_map_nil w 186 3 3 (some b) Try.underlying186
    obtain ⟨p1, p2, p3, p4⟩ := m2 d b hq
    have HQ := Lib.hid hq
    have M1 := Lib.hid m1
    have M2 := Lib.hid m2
    have M3 := Lib.hid m3
    have M4 := Lib.hid m4
    clear hq m1 m2 m3 m4 h
    go_enter Try.func58, Try.ntmps58
    go_wp2_with (at_mapUpdate; refine wpList_putI _ rfl _ _ _ rfl b (f d) rfl p4 (by unfold maxLen; omega) who rfl rfl hw ?_)
    intro w3 hI3 hc3
    go_wp2_with fail
    go_end0
    have hin := HH.out.inF
    have hlt := HH.out.lt
    refine ⟨rfl, F, ⟨HH.out.hd.chg hc3 (by simp; omega), ⟨q, (M1.out.chg hc3 (by simp; omega)).mono (Nat.le_succ n), fun x c hx => ?_, fun x hx => ?_, M4.out⟩, hin, HH.out.lo, fun z hz => ?_, hne⟩, ?_, Grw.refl _ _⟩
    · obtain ⟨r1, r2, r3, r4⟩ := M2.out x c hx
      refine ⟨r1, r2, r3, ?_⟩
      by_cases e : x = d
      · have e2 : c = b := by rw [e, HQ.out] at hx; injection hx with hx; exact hx.symm
        have : updL f d who x = sadd (f d) who := by unfold updL; rw [if_pos e, e]
        rw [this, e2]
        exact hI3
      · have : updL f d who x = f x := by unfold updL; rw [if_neg e]
        rw [this]
        exact r4.chg hc3 (by simp; intro e3; exact e (M4.out x d b (e3 ▸ hx) HQ.out))
    · have e : x ≠ d := fun e => by rw [e, HQ.out] at hx; cases hx
      have : updL f d who x = f x := by unfold updL; rw [if_neg e]
      rw [this]
      exact M3.out x hx
    · have := hc3.size; have := hlt z hz; omega
    · exact hc3.mono (fun z hz => by simp at hz; rw [hz]; exact p1)
end Go.Proofs.Yteabcpmpcbjicaa
