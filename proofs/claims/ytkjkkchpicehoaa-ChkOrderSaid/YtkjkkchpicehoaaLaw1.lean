import Derived.Test.YtkjkkchpicehoaaMul
namespace Go.Proofs.Ytkjkkchpicehoaa
set_option linter.unusedVariables false
open Go Go.Proofs Go.RowKit

theorem heap_new (w : World) (o : Obj) : (w.alloc o).heap[w.heap.size]? = some o := (Go.MapKept.heap_alloc w o).1

theorem row64_new (w : World) (c : Array Value) (T : TypeId) (l : List Int) (h : c = (l.map (Value.int .u64)).toArray) : Row64 (w.alloc (.cells c T)) (some ⟨w.heap.size, 0, none⟩) l := by
  subst h
  refine .inr ⟨_, 0, rfl, fun j hj => ?_⟩
  simp only [World.cell?, heap_new]
  simp [hj, List.getD]

set_option maxHeartbeats 400000 in
theorem awake1 (w : World) : Calls Try.prog 18 #[] w fun e w' => e = .returned (.bool true) ∧ Below w.heap.size w w' := by
  go_enter Try.func18, Try.ntmps18
  go_wp2_with fail
  refine (add_is 3 4 7 true _ ⟨by omega, by omega⟩ ⟨by omega, by omega⟩ (by decide) (by decide)).mono ?_
  rintro e w' ⟨rfl, rfl⟩
  go_wp2_with fail
  refine (sub_is 1 2 0 false _ ⟨by omega, by omega⟩ ⟨by omega, by omega⟩ (by decide) (by decide)).mono ?_
  rintro e w' ⟨rfl, rfl⟩
  go_wp2_with fail
  refine (mul_is 4294967296 2147483648 9223372036854775808 true _ ⟨by omega, by omega⟩ ⟨by omega, by omega⟩ (by decide) (by decide)).mono ?_
  rintro e w' ⟨rfl, rfl⟩
  go_wp2_with fail
  refine (sum_is _ 3 _ [1, 2, 3] _ 6 true (by decide) (by decide) rfl (by simp [U]) (by simp) (row64_new _ _ _ _ rfl)).mono ?_
  rintro e w' ⟨rfl, rfl⟩
  go_wp2_with fail
  go_ret
  exact ⟨rfl, (Below.refl _ _).alloc (Nat.le_refl _) _⟩

end Go.Proofs.Ytkjkkchpicehoaa
