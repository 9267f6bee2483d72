import Derived.Test.YtkjkkchpicehoaaHold3
namespace Go.Proofs.Ytkjkkchpicehoaa
set_option linter.unusedVariables false
open Go Go.Proofs Go.RowKit Go.Maps

theorem hold_is {w : World} {fb mb b s n : Nat} {xs : List Int} {m : Nat} {f : Int → Int} {got : Int} (h : Fee w fb mb b s n xs m f got) (c fee : Int) (r : Int) (X : List Int) (F : Int → Int) (hc : I c) (hf : U fee) (hm : m + 4 < maxLen) (h1 : hHold n xs f c fee = r) (h2 : hHoldX n xs f c fee = X) (h3 : hHoldF n xs f c fee = F) :
    Calls Try.prog 41 #[.pointer (some ⟨fb, 0, none⟩), .int .i64 c, .int .u64 fee] w fun e w' => e = .returned (.int .u64 r) ∧ Fee w' fb mb b s n X (m + 2) F got ∧ Chg [fb, mb, s] w w' := by
  subst h1; subst h2; subst h3; exact hold_any h c fee hc hf hm
theorem settle_is {w : World} {fb mb b s n : Nat} {xs : List Int} {m : Nat} {f : Int → Int} {got : Int} (h : Fee w fb mb b s n xs m f got) (c fee : Int) (r g : Int) (X : List Int) (F : Int → Int) (hc : I c) (hf : U fee) (hm : m + 4 < maxLen) (h1 : sV f got c fee = r) (h2 : sX n xs f got c fee = X) (h3 : sF n xs f got c fee = F) (h4 : sGot f got c fee = g) :
    Calls Try.prog 39 #[.pointer (some ⟨fb, 0, none⟩), .int .i64 c, .int .u64 fee] w fun e w' => e = .returned (.int .u64 r) ∧ Fee w' fb mb b s n X (m + 2) F g ∧ Chg [fb, mb, s] w w' := by
  subst h1; subst h2; subst h3; subst h4; exact settle_any h c fee hc hf hm
theorem forfeit_is {w : World} {fb mb b s n : Nat} {xs : List Int} {m : Nat} {f : Int → Int} {got : Int} (h : Fee w fb mb b s n xs m f got) (c : Int) (r g : Int) (F : Int → Int) (hc : I c) (hm : m + 4 < maxLen) (h1 : fV f got c = r) (h3 : fF f got c = F) (h4 : fGot f got c = g) :
    Calls Try.prog 40 #[.pointer (some ⟨fb, 0, none⟩), .int .i64 c] w fun e w' => e = .returned (.int .u64 r) ∧ Fee w' fb mb b s n xs (m + 2) F g ∧ Chg [fb, mb, s] w w' := by
  subst h1; subst h3; subst h4; exact forfeit_any h c hc hm
theorem held_is {w : World} {fb mb b s n : Nat} {xs : List Int} {m : Nat} {f : Int → Int} {got : Int} (h : Fee w fb mb b s n xs m f got) (c r : Int) (hc : I c) (h1 : f c = r) :
    Calls Try.prog 37 #[.pointer (some ⟨fb, 0, none⟩), .int .i64 c] w fun e w' => e = .returned (.int .u64 r) ∧ w = w' := by
  subst h1; exact held_any h c hc
theorem Fee.lo {w w' : World} {fb mb b s : Nat} {S : List Nat} (hc : Chg [] w w') : True := trivial

set_option maxHeartbeats 4000000 in
set_option maxRecDepth 100000 in
theorem awake7 (w : World) : Calls Try.prog 42 #[] w fun e w' => e = .returned (.bool true) ∧ Below w.heap.size w w' := by
  go_enter Try.func42, Try.ntmps42
  go_wp2_with fail
  refine (new_is 1 1 [0, 0] _ (by decide) (by decide)).mono ?_
  rintro e w1 ⟨b, s, rfl, h1, c1, g1, g2⟩
  go_wp2_with fail
  refine (put_is h1 0 1 10 0 [0, 10] ⟨by omega, by omega⟩ (by decide) (by decide)).mono ?_
  rintro e w2 ⟨rfl, h2, c2⟩
  have c2 := c1.trans' c2 (by simpa using g1)
  clear c1
  go_wp2_with fail
  refine (feeNew_any h2).mono ?_
  rintro e w3 ⟨fb, mb, rfl, h3, c3, g3, g4⟩
  have z2 := c2.size
  have c3 := c2.trans c3
  have hs : ∀ x ∈ [fb, mb, s], x ∈ ([] : List Nat) ∨ w.heap.size ≤ x := by simp; omega
  clear c2
  go_wp2_with fail
  refine (hold_is h3 0 4 4 [0, 6] _ ⟨by omega, by omega⟩ ⟨by omega, by omega⟩ (by decide) (by decide) (by decide) rfl).mono ?_
  rintro e w4 ⟨rfl, h4, c4⟩
  have c4 := c3.trans' c4 hs
  clear c3
  go_wp2_with fail
  refine (hold_is h4 0 9 6 [0, 0] _ ⟨by omega, by omega⟩ ⟨by omega, by omega⟩ (by decide) (by decide) (by decide) rfl).mono ?_
  rintro e w5 ⟨rfl, h5, c5⟩
  have c5 := c4.trans' c5 hs
  clear c4 h3 h4
  go_wp2_with fail
  refine (held_is h5 0 10 ⟨by omega, by omega⟩ (by decide)).mono ?_
  rintro e w' ⟨rfl, rfl⟩
  go_wp2_with fail
  refine (settle_is h5 0 3 3 3 [0, 7] _ ⟨by omega, by omega⟩ ⟨by omega, by omega⟩ (by decide) (by decide) (by decide) rfl (by decide)).mono ?_
  rintro e w6 ⟨rfl, h6, c6⟩
  have c6 := c5.trans' c6 hs
  clear c5 h5
  go_wp2_with fail
  refine (hold_is h6 0 2 2 [0, 5] _ ⟨by omega, by omega⟩ ⟨by omega, by omega⟩ (by decide) (by decide) (by decide) rfl).mono ?_
  rintro e w7 ⟨rfl, h7, c7⟩
  have c7 := c6.trans' c7 hs
  clear c6 h6
  go_wp2_with fail
  refine (forfeit_is h7 0 2 5 _ ⟨by omega, by omega⟩ (by decide) (by decide) rfl (by decide)).mono ?_
  rintro e w8 ⟨rfl, h8, c8⟩
  have c8 := c7.trans' c8 hs
  clear c7 h7
  go_wp2_with fail
  refine (free_is h8.acc 0 1 5 (by decide)).mono ?_
  rintro e w' ⟨rfl, rfl⟩
  go_wp2_with fail
  refine (got_any h8).mono ?_
  rintro e w' ⟨rfl, rfl⟩
  go_wp2_with fail
  refine (held_is h8 0 0 ⟨by omega, by omega⟩ (by decide)).mono ?_
  rintro e w' ⟨rfl, rfl⟩
  go_wp2_with fail
  refine (hold_is h8 1 1 0 _ _ ⟨by omega, by omega⟩ ⟨by omega, by omega⟩ (by decide) (by decide) rfl rfl).mono ?_
  rintro e w9 ⟨rfl, h9, c9⟩
  have c9 := c8.trans' c9 hs
  clear c8 h8
  go_wp2_with fail
  go_ret
  exact ⟨rfl, c9.below⟩
end Go.Proofs.Ytkjkkchpicehoaa
