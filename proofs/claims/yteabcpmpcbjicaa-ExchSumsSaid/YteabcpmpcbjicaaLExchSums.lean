/- Whatever orders come, meet, rest, go and are canceled, of each asset free and locked come to what they came to; nobody trades worse than they named. -/
import Derived.Test.YteabcpmpcbjicaaShell
import Derived.Test.YteabcpmpcbjicaaExchSums
namespace Go.Proofs.Yteabcpmpcbjicaa.exchSums
open Go Go.ChangeShapes Go.WideShapes Go.ChangeAt Go.RowKit Go.Deep Go.Proofs.Yteabcpmpcbjicaa
set_option linter.unusedVariables false

theorem own : ownKnob Try.prog.godebug = none := by kernel_rfl
theorem laidOut : laidOutB Try.prog = true := by kernel_rfl

theorem walk (a0 : Option Addr) (len0 cap0 : Nat) (w : World) (w0 : SRec [some .i64, some .i64, some .i64, none, some .u64, some .u64] w a0 len0 cap0) :
    Calls Try.prog 10 #[.slice a0 len0 cap0] w fun e w' => e = .returned (.bool true) ∧ Below w.heap.size w w' := by
  exact exsums_walk _ _ _ _ w0

set_option maxRecDepth 100000 in
theorem lifted (os : Os) (started : os.Started) (H : Type) (enc : TypeId × Value → H) :
    ReturnsInHanded {} Try.checked os 10 .any (Rows.exchSumsSpec.pre6 enc Try.prog Try.f10 Rows.exchSumsRow.domain false) (Rows.exchSumsSpec.post enc Try.prog Try.f10 false true false false) := by
  refine returnsInHanded_of_change (C := Try.checked) own started (by kernel_rfl) Try.func10
    (ChangeSpec.witness6 (enc := enc) (C := Try.checked) false ⟨#[], #[.slice none 0 0], []⟩ 8 (by kernel_rfl) (by kernel_rfl) (by kernel_rfl) (by kernel_rfl)) ?_
  intro W base args ds gs before hval0 hW hcnd _
  have hval : ∀ (j : Nat) t v, Try.f10.params[j]? = some t → args[j]? = some v → Value.okWide Try.prog W .any base t v := hval0
  have hW' := hW
  obtain ⟨p, q, hA0, hV, rfl, hfz, hnd⟩ := hW
  have hA : DataW.TrodAll enc Try.prog W 0 (fun _ => true) true Try.f10.params.toList args.toList ds p := hA0
  rw [Try.params10] at hA hval
  obtain ⟨v0, vs0, d0, ds0, p0, q0, hargs, rfl, rfl, h0, r0⟩ := trodAll_cons hA
  obtain ⟨rfl, rfl, rfl⟩ := trodAll_nil r0
  obtain rfl : args = #[v0] := by cases args; simp_all
  obtain ⟨rfl, rfl⟩ := trodVars_none hV
  obtain ⟨a0, len0, cap0, rfl⟩ := okWide_slice Try.underlying79 (hval 0 79 v0 rfl rfl)
  have k0 := h0
  have lt0 : ∀ x ∈ p0, x.block < W.heap.size := by obtain ⟨m, hm⟩ := k0; exact DataW.trod_lt m _ _ _ hm
  obtain ⟨fuel0, hf0⟩ := h0
  have w0 : SRec [some .i64, some .i64, some .i64, none, some .u64, some .u64] W a0 len0 cap0 := open_rec Try.underlying79 Try.underlying81 (by kernel_rfl) (by kernel_rfl) (by kernel_rfl) (by simp) (fun j k hk => by
      match j, k, hk with
      | 0, k, hk => exact ⟨_, rfl, by have := Try.underlying3; simp at hk; subst hk; exact this⟩
      | 1, k, hk => exact ⟨_, rfl, by have := Try.underlying3; simp at hk; subst hk; exact this⟩
      | 2, k, hk => exact ⟨_, rfl, by have := Try.underlying3; simp at hk; subst hk; exact this⟩
      | 3, k, hk => exact ⟨_, rfl, by have := Try.underlying4; simp at hk; subst hk; exact this⟩
      | 4, k, hk => exact ⟨_, rfl, by have := Try.underlying30; simp at hk; subst hk; exact this⟩
      | 5, k, hk => exact ⟨_, rfl, by have := Try.underlying30; simp at hk; subst hk; exact this⟩
      | j + 6, k, hk => simp at hk) hf0
  clear hA0 hval0
  refine (walk a0 len0 cap0 W w0).mono fun e W' ⟨he, bel⟩ => ?_
  subst he
  exact ⟨_, rfl, _, _, _, [], _, [], hW', trodAll_mk1 (shut_bool Try.underlying4 _), (trodAll_cons_mk (Below.trod laidOut (by kernel_rfl) (of_decide_eq_true (by kernel_rfl)) k0 bel lt0) trodAll_mk0), rfl, bel.frame _, fun h => by cases h⟩

theorem over : Rows.exchSumsRow.holds Try.pinned (OpenSpec.ofChange Rows.exchSumsSpec) :=
  OpenClaim.holds_of_wide 10 Try.f10 rfl rfl rfl rfl rfl rfl rfl ⟨rfl, rfl, rfl, rfl, rfl⟩ rfl rfl rfl rfl rfl (by kernel_rfl) Try.func10 (by kernel_rfl)
    (of_decide_eq_true (by kernel_rfl)) (by unfold Func.isWrapper; first | (rw [if_pos (by decide +kernel)]; kernel_rfl) | (rw [if_neg (by decide +kernel)]; exact ⟨rfl, rfl⟩))
    (fun os started H enc _ => lifted os started H enc)

theorem proved : Rows.ExchSumsSaid := over
#print axioms proved
end Go.Proofs.Yteabcpmpcbjicaa.exchSums
