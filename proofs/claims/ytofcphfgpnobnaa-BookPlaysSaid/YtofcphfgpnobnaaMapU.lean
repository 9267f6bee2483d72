import Derived.Test.YtofcphfgpnobnaaMem
import Derived.Maps.Own
import Derived.Maps.OwnOps
import Derived.Maps.Views
namespace Go.Proofs.Ytofcphfgpnobnaa
set_option linter.unusedVariables false
open Go Go.Proofs Go.RowKit Go.Maps

theorem keyInt : Keyed Try.prog 3 := int_keyed Try.underlying3
theorem zeroU (w : World) : (zeroValue 26).run Try.prog w = .ok (.int .u64 0) w := by kernel_rfl

/-- Block b is a map of at most n entries; what it holds of a number: f. -/
def MapU (w : World) (b n : Nat) (f : Int → Int) : Prop :=
  ∃ D : DataW Unit, IsMap D ∧ w.ownsMap Try.prog 3 (plainElem Try.prog 26) b n D ∧ ∀ x, (Lit.int .i64 x).wf = true → D.atKey (.int .i64 x) (.lit (.int .u64 0)) = .lit (.int .u64 (f x)) ∧ U (f x)

theorem I_lit {x : Int} (h : I x) : (Lit.int .i64 x).wf = true := WalkArith.wf_i64 ⟨h.1, h.2⟩
theorem U_lit {x : Int} (h : U x) : (Lit.int .u64 x).wf = true := by
  refine WalkArith.wf_u64 ?_
  exact ⟨h.1, by have := h.2; omega⟩
theorem MapU.lt {w : World} {b n : Nat} {f : Int → Int} (h : MapU w b n f) : b < w.heap.size := h.elim fun D g => g.2.1.lt
theorem MapU.chg {S : List Nat} {w w' : World} {b n : Nat} {f : Int → Int} (h : MapU w b n f) (g : Chg S w w') (hn : b ∉ S) : MapU w' b n f := by
  obtain ⟨D, h1, ⟨es, cl, h2, h3⟩, h4⟩ := h
  exact ⟨D, h1, ⟨es, cl, (g.block b (Array.getElem?_eq_some_iff.1 h2).1 hn).trans h2, h3⟩, h4⟩
theorem MapU.alloc {w : World} {b n : Nat} {f : Int → Int} (h : MapU w b n f) (o : Obj) : MapU (w.alloc o) b n f := by
  obtain ⟨D, h1, h2, h4⟩ := h
  exact ⟨D, h1, h2.alloc o, h4⟩
theorem MapU.drew {w : World} {b n : Nat} {f : Int → Int} (h : MapU w b n f) : MapU w.drew b n f := h
theorem MapU.drewN {w : World} {b n : Nat} {f : Int → Int} (h : MapU w b n f) (m : Nat) : MapU (w.drewN m) b n f := h
theorem MapU.mono {w : World} {b n m : Nat} {f : Int → Int} (h : MapU w b n f) (hm : n ≤ m) : MapU w b m f := by
  obtain ⟨D, h1, h2, h4⟩ := h
  exact ⟨D, h1, h2.mono hm, h4⟩
theorem MapU.new (w : World) : MapU (w.alloc (.map #[] 0)) w.heap.size 0 (fun _ => 0) :=
  ⟨.map [], isMap_empty, World.ownsMap_made _ _ _ _, fun x _ => ⟨rfl, by simp [U]⟩⟩
theorem MapU.U {w : World} {b n : Nat} {f : Int → Int} (h : MapU w b n f) {x : Int} (hx : I x) : U (f x) := h.elim fun D g => (g.2.2 x (I_lit hx)).2
/-- One place of a map is written. -/
def upd (f : Int → Int) (c v : Int) : Int → Int := fun x => if x = c then v else f x
@[simp] theorem upd_same (f : Int → Int) (c v : Int) : upd f c v c = v := if_pos rfl

/-- m[x], in a walk. -/
theorem wpList_lookU (w : World) {ops : Array Oper} {rest : List Oper} {o : Oper} {a : Act} {Q : Exit → Act → World → Prop}
    (hg : o.guard = none) (m x : Operand) (hop : o.op = Op.lookup 72 m x false) (b n : Nat) (f : Int → Int)
    (hm : a.eval m = .map (some b)) (h : MapU w b n f) (key : Int) (hx : a.eval x = .int .i64 key) (hk : I key)
    (hK : wpList Try.prog ops Q rest (a.put o.dst (.int .u64 (f key))) w) : wpList Try.prog ops Q (o :: rest) a w := by
  obtain ⟨D, h1, h2, h3⟩ := h
  refine wpList_lookup_own_int w hg m x 72 hop 3 26 .u64 keyInt Try.underlying72 Try.underlying26 (zeroU w) b n D hm h2 _ _ hx (keyOf_int_mk Try.underlying3 (I_lit hk)) ?_
  intro c hc _
  rw [(h3 key (I_lit hk)).1] at hc
  injection hc with hc
  injection hc with _ hc
  rw [← hc]; exact hK

/-- m[x] = v, in a walk. -/
theorem wpList_putU (w : World) {ops : Array Oper} {rest : List Oper} {o : Oper} {a : Act} {Q : Exit → Act → World → Prop}
    (hg : o.guard = none) (m x v : Operand) (hop : o.op = Op.mapUpdate 72 m x v) (b n : Nat) (f : Int → Int)
    (hm : a.eval m = .map (some b)) (h : MapU w b n f) (hn : n < maxLen) (key val : Int) (hx : a.eval x = .int .i64 key) (hv : a.eval v = .int .u64 val) (hk : I key) (hu : U val)
    (hK : ∀ w', MapU w' b (n + 1) (upd f key val) → Chg [b] w w' → wpList Try.prog ops Q rest (a.put o.dst undef) w') : wpList Try.prog ops Q (o :: rest) a w := by
  obtain ⟨D, h1, h2, h3⟩ := h
  refine wpList_mapUpdate_own w hg m x v 72 hop 3 26 keyInt Try.underlying72 _ b n D hm h2 hn _ _ _ hx hv (keyOf_int_mk Try.underlying3 (I_lit hk)) (.lit (.int .u64 val)) [] (plainElem_int Try.underlying26 (U_lit hu)) ?_
  intro w' g1 g2
  have hkl : WideAt.IsKeyLit (.int .i64 key) := keyInt.key (keyOf_int_mk Try.underlying3 (I_lit hk))
  refine hK w' ⟨_, h1.put _ _, g1, fun y hy => ?_⟩ ((Chg.refl _ _).grown g2 (by simp))
  by_cases e : y = key
  · subst e
    rw [atKey_put_same h1 hkl]
    exact ⟨by rw [upd_same], by rw [upd_same]; exact hu⟩
  · rw [atKey_put_other (by intro h; injection h with _ h; exact e h)]
    have : upd f key val y = f y := if_neg e
    rw [this]
    exact h3 y hy
end Go.Proofs.Ytofcphfgpnobnaa
