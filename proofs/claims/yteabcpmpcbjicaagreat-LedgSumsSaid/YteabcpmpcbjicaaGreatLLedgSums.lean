/- Whatever is done, of each asset free, locked and got come to what was given; each entry paid at most its fee; one that was refused, but for its fee and the next nonce, turned nothing. -/
import Derived.Test.YteabcpmpcbjicaaGreatShell
import Derived.Test.YteabcpmpcbjicaaGreatShellN
import Derived.Test.YteabcpmpcbjicaaGreatLedgSums
namespace Go.Proofs.YteabcpmpcbjicaaGreat.ledgSums
open Go Go.ChangeShapes Go.WideShapes Go.ChangeAt Go.RowKit Go.Deep Go.Proofs.YteabcpmpcbjicaaGreat
set_option linter.unusedVariables false

theorem own : ownKnob Tryz.prog.godebug = none := by kernel_rfl
theorem laidOut : laidOutB Tryz.prog = true := by kernel_rfl

theorem walk (a0 : Option Addr) (len0 cap0 : Nat) (a1 : Option Addr) (len1 cap1 : Nat) (z1 : List Int) (w : World) (w0 : SRec [some .i64, some .u64, some .u64, none, some .i64, some .i64, some .i64, none, some .u64, some .u64, some .i64] w a0 len0 cap0) (w1 : SRow .u64 w a1 len1 cap1 z1) :
    Calls Tryz.prog 7 #[.slice a0 len0 cap0, .slice a1 len1 cap1] w fun e w' => e = .returned (.bool true) ∧ Below w.heap.size w w' := by
  obtain ⟨h1, h2, h3, h4, h5⟩ := w1.row
  exact ledgsums_walk _ _ _ _ _ _ _ _ w0 h1 (by omega) h4 h5

set_option maxRecDepth 100000 in
theorem lifted (os : Os) (started : os.Started) (H : Type) (enc : TypeId × Value → H) :
    ReturnsInHanded {} Tryz.checked os 7 .any (Rows.ledgSumsSpec.pre6 enc Tryz.prog Tryz.f7 Rows.ledgSumsRow.domain false) (Rows.ledgSumsSpec.post enc Tryz.prog Tryz.f7 false true false false) := by
  refine returnsInHanded_of_change (C := Tryz.checked) own started (by kernel_rfl) Tryz.func7
    (ChangeSpec.witness6 (enc := enc) (C := Tryz.checked) false ⟨#[], #[.slice none 0 0, .slice none 0 0], []⟩ 8 (by kernel_rfl) (by kernel_rfl) (by kernel_rfl) (by kernel_rfl)) ?_
  intro W base args ds gs before hval0 hW hcnd _
  have hval : ∀ (j : Nat) t v, Tryz.f7.params[j]? = some t → args[j]? = some v → Value.okWide Tryz.prog W .any base t v := hval0
  have hW' := hW
  obtain ⟨p, q, hA0, hV, rfl, hfz, hnd⟩ := hW
  have hA : DataW.TrodAll enc Tryz.prog W 0 (fun _ => true) true Tryz.f7.params.toList args.toList ds p := hA0
  rw [Tryz.params7] at hA hval
  obtain ⟨v0, vs0, d0, ds0, p0, q0, hargs, rfl, rfl, h0, r0⟩ := trodAll_cons hA
  obtain ⟨v1, vs1, d1, ds1, p1, q1, rfl, rfl, rfl, h1, r1⟩ := trodAll_cons r0
  obtain ⟨rfl, rfl, rfl⟩ := trodAll_nil r1
  obtain rfl : args = #[v0, v1] := by cases args; simp_all
  obtain ⟨rfl, rfl⟩ := trodVars_none hV
  obtain ⟨a0, len0, cap0, rfl⟩ := okWide_slice Tryz.underlying56 (hval 0 56 v0 rfl rfl)
  have k0 := h0
  have lt0 : ∀ x ∈ p0, x.block < W.heap.size := by obtain ⟨m, hm⟩ := k0; exact DataW.trod_lt m _ _ _ hm
  obtain ⟨fuel0, hf0⟩ := h0
  have w0 : SRec [some .i64, some .u64, some .u64, none, some .i64, some .i64, some .i64, none, some .u64, some .u64, some .i64] W a0 len0 cap0 := open_rec2 Tryz.underlying56 Tryz.underlying51 (by kernel_rfl) (by simp) (fun j k hk => by
      match j, k, hk with
      | 0, k, hk => exact .inl ⟨0, _, rfl, rfl, by kernel_rfl, by have := Tryz.underlying3; simp at hk; subst hk; exact this⟩
      | 1, k, hk => exact .inl ⟨1, _, rfl, rfl, by kernel_rfl, by have := Tryz.underlying27; simp at hk; subst hk; exact this⟩
      | 2, k, hk => exact .inl ⟨2, _, rfl, rfl, by kernel_rfl, by have := Tryz.underlying27; simp at hk; subst hk; exact this⟩
      | 3, k, hk => exact .inl ⟨3, _, rfl, rfl, by kernel_rfl, by have := Tryz.underlying4; simp at hk; subst hk; exact this⟩
      | 4, k, hk => exact .inr ⟨4, _, _, 0, _, rfl, Tryz.underlying49, rfl, rfl, of_decide_eq_true (by kernel_rfl), by kernel_rfl, by have := Tryz.underlying3; simp at hk; subst hk; exact this⟩
      | 5, k, hk => exact .inr ⟨4, _, _, 1, _, rfl, Tryz.underlying49, rfl, rfl, of_decide_eq_true (by kernel_rfl), by kernel_rfl, by have := Tryz.underlying3; simp at hk; subst hk; exact this⟩
      | 6, k, hk => exact .inr ⟨4, _, _, 2, _, rfl, Tryz.underlying49, rfl, rfl, of_decide_eq_true (by kernel_rfl), by kernel_rfl, by have := Tryz.underlying3; simp at hk; subst hk; exact this⟩
      | 7, k, hk => exact .inr ⟨4, _, _, 3, _, rfl, Tryz.underlying49, rfl, rfl, of_decide_eq_true (by kernel_rfl), by kernel_rfl, by have := Tryz.underlying4; simp at hk; subst hk; exact this⟩
      | 8, k, hk => exact .inr ⟨4, _, _, 4, _, rfl, Tryz.underlying49, rfl, rfl, of_decide_eq_true (by kernel_rfl), by kernel_rfl, by have := Tryz.underlying27; simp at hk; subst hk; exact this⟩
      | 9, k, hk => exact .inr ⟨4, _, _, 5, _, rfl, Tryz.underlying49, rfl, rfl, of_decide_eq_true (by kernel_rfl), by kernel_rfl, by have := Tryz.underlying27; simp at hk; subst hk; exact this⟩
      | 10, k, hk => exact .inr ⟨4, _, _, 6, _, rfl, Tryz.underlying49, rfl, rfl, of_decide_eq_true (by kernel_rfl), by kernel_rfl, by have := Tryz.underlying3; simp at hk; subst hk; exact this⟩
      | j + 11, k, hk => simp at hk) hf0
  obtain ⟨a1, len1, cap1, rfl⟩ := okWide_slice Tryz.underlying57 (hval 1 57 v1 rfl rfl)
  have k1 := h1
  have lt1 : ∀ x ∈ p1, x.block < W.heap.size := by obtain ⟨m, hm⟩ := k1; exact DataW.trod_lt m _ _ _ hm
  obtain ⟨fuel1, hf1⟩ := h1
  obtain ⟨z1, w1⟩ := open_row Tryz.underlying57 Tryz.underlying27 (by kernel_rfl) hf1
  clear hA0 hval0
  refine (walk a0 len0 cap0 a1 len1 cap1 z1 W w0 w1).mono fun e W' ⟨he, bel⟩ => ?_
  subst he
  exact ⟨_, rfl, _, _, _, [], _, [], hW', trodAll_mk1 (shut_bool Tryz.underlying4 _), (trodAll_cons_mk (Below.trod laidOut (by kernel_rfl) (of_decide_eq_true (by kernel_rfl)) k0 bel lt0) (trodAll_cons_mk (Below.trod laidOut (by kernel_rfl) (of_decide_eq_true (by kernel_rfl)) k1 bel lt1) trodAll_mk0)), rfl, bel.frame _, fun h => by cases h⟩

theorem over : Rows.ledgSumsRow.holds Tryz.pinned (OpenSpec.ofChange Rows.ledgSumsSpec) :=
  OpenClaim.holds_of_wide 7 Tryz.f7 rfl rfl rfl rfl rfl rfl rfl ⟨rfl, rfl, rfl, rfl, rfl⟩ rfl rfl rfl rfl rfl (by kernel_rfl) Tryz.func7 (by kernel_rfl)
    (of_decide_eq_true (by kernel_rfl)) (by unfold Func.isWrapper; first | (rw [if_pos (by decide +kernel)]; kernel_rfl) | (rw [if_neg (by decide +kernel)]; exact ⟨rfl, rfl⟩))
    (fun os started H enc _ => lifted os started H enc)

theorem proved : Rows.LedgSumsSaid := over
#print axioms proved
end Go.Proofs.YteabcpmpcbjicaaGreat.ledgSums
