import Derived.Test.YtkjkkchpicehoaaMapU
import Derived.Test.YtkjkkchpicehoaaAcct5
namespace Go.Proofs.Ytkjkkchpicehoaa
set_option linter.unusedVariables false
open Go Go.Proofs Go.RowKit Go.Maps

/-- Fees in memory: the struct's block fb, the map's block mb, its accounts. -/
structure Fee (w : World) (fb mb b s n : Nat) (xs : List Int) (m : Nat) (f : Int → Int) (got : Int) : Prop where
  acc : Acc w b s n xs
  hd : Blk w fb 82 [.pointer (some ⟨b, 0, none⟩), .map (some mb), .int .u64 got]
  mp : MapU w mb m f
  ne : fb ≠ b ∧ fb ≠ s ∧ fb ≠ mb ∧ mb ≠ b ∧ mb ≠ s
  ug : U got

theorem Fee.chg {w w' : World} {fb mb b s n : Nat} {xs : List Int} {m : Nat} {f : Int → Int} {got : Int} {S : List Nat} (h : Fee w fb mb b s n xs m f got) (g : Chg S w w') (h1 : fb ∉ S) (h2 : mb ∉ S) (h3 : b ∉ S) (h4 : s ∉ S) : Fee w' fb mb b s n xs m f got :=
  ⟨h.acc.chg g h3 h4, h.hd.chg g h1, h.mp.chg g h2, h.ne, h.ug⟩
theorem Fee.mono {w : World} {fb mb b s n : Nat} {xs : List Int} {m m' : Nat} {f : Int → Int} {got : Int} (h : Fee w fb mb b s n xs m f got) (hm : m ≤ m') : Fee w fb mb b s n xs m' f got := ⟨h.acc, h.hd, h.mp.mono hm, h.ne, h.ug⟩
theorem Fee.drew {w : World} {fb mb b s n : Nat} {xs : List Int} {m : Nat} {f : Int → Int} {got : Int} (h : Fee w fb mb b s n xs m f got) : Fee w.drew fb mb b s n xs m f got := ⟨h.acc.drew, h.hd, h.mp, h.ne, h.ug⟩
theorem Fee.drewN {w : World} {fb mb b s n : Nat} {xs : List Int} {m : Nat} {f : Int → Int} {got : Int} (h : Fee w fb mb b s n xs m f got) (k : Nat) : Fee (w.drewN k) fb mb b s n xs m f got := ⟨h.acc.drewN k, h.hd, h.mp, h.ne, h.ug⟩

/-! What the calls come to. -/
def hV (n : Nat) (xs : List Int) (c fee : Int) : Int := min fee (aFree n xs c 1)
def hOk (n : Nat) (xs : List Int) (f : Int → Int) (c fee : Int) : Bool := cAddB (f c) (hV n xs c fee) && decide (aTakeE n xs c 1 (hV n xs c fee) = 0)
def hHold (n : Nat) (xs : List Int) (f : Int → Int) (c fee : Int) : Int := if hOk n xs f c fee = true then hV n xs c fee else 0
def hHoldX (n : Nat) (xs : List Int) (f : Int → Int) (c fee : Int) : List Int := if hOk n xs f c fee = true then aTake n xs c 1 (hV n xs c fee) else xs
def hHoldF (n : Nat) (xs : List Int) (f : Int → Int) (c fee : Int) : Int → Int := if hOk n xs f c fee = true then upd f c (cAddN (f c) (hV n xs c fee)) else f

def sV (f : Int → Int) (got c fee : Int) : Int := if cAddB got (min fee (f c)) = true then min fee (f c) else 0
def sGot (f : Int → Int) (got c fee : Int) : Int := if cAddB got (min fee (f c)) = true then cAddN got (min fee (f c)) else got
def sBack (f : Int → Int) (got c fee : Int) : Int := f c - sV f got c fee
def sX (n : Nat) (xs : List Int) (f : Int → Int) (got c fee : Int) : List Int := aPut n xs c 1 (sBack f got c fee)
def sF (n : Nat) (xs : List Int) (f : Int → Int) (got c fee : Int) : Int → Int := if aPutE n xs c 1 (sBack f got c fee) = 0 then upd (upd f c (sBack f got c fee)) c 0 else upd f c (sBack f got c fee)

def fV (f : Int → Int) (got c : Int) : Int := if cAddB got (f c) = true then f c else 0
def fGot (f : Int → Int) (got c : Int) : Int := if cAddB got (f c) = true then cAddN got (f c) else got
def fF (f : Int → Int) (got c : Int) : Int → Int := if cAddB got (f c) = true then upd f c 0 else f

theorem aFree_U {n : Nat} {xs : List Int} (h : AOk n xs) (c a : Int) : U (aFree n xs c a) := by
  unfold aFree; split
  · exact h.get _ _
  · simp [U]
theorem min_U {a b : Int} (ha : U a) (hb : U b) : U (min a b) := by
  obtain ⟨h1, h2⟩ := ha; obtain ⟨h3, h4⟩ := hb
  refine ⟨?_, ?_⟩ <;> omega
theorem hV_U {n : Nat} {xs : List Int} (h : AOk n xs) (c : Int) {fee : Int} (hf : U fee) : U (hV n xs c fee) := min_U hf (aFree_U h c 1)

/-- (*Fees).Held. -/
theorem held_any {w : World} {fb mb b s n : Nat} {xs : List Int} {m : Nat} {f : Int → Int} {got : Int} (h : Fee w fb mb b s n xs m f got) (c : Int) (hc : I c) :
    Calls Try.prog 37 #[.pointer (some ⟨fb, 0, none⟩), .int .i64 c] w fun e w' => e = .returned (.int .u64 (f c)) ∧ w = w' := by
  have h1 := h.hd.at (i := 1) rfl
  go_enter Try.func37, Try.ntmps37
  go_wp2_with (at_lookup; refine wpList_lookU _ rfl (.tmp 8) (.tmp 9) rfl mb m f rfl h.mp c rfl hc ?_)
  go_ret
  exact ⟨rfl, rfl⟩
/-- (*Fees).Got. -/
theorem got_any {w : World} {fb mb b s n : Nat} {xs : List Int} {m : Nat} {f : Int → Int} {got : Int} (h : Fee w fb mb b s n xs m f got) :
    Calls Try.prog 38 #[.pointer (some ⟨fb, 0, none⟩)] w fun e w' => e = .returned (.int .u64 got) ∧ w = w' := by
  have h2 := h.hd.at (i := 2) rfl
  go_enter Try.func38, Try.ntmps38
  go_wp2
  go_ret
  exact ⟨rfl, rfl⟩
/-- New. -/
theorem feeNew_any {w : World} {b s n : Nat} {xs : List Int} (h : Acc w b s n xs) :
    Calls Try.prog 36 #[.pointer (some ⟨b, 0, none⟩)] w fun e w' => ∃ fb mb, e = .returned (.pointer (some ⟨fb, 0, none⟩)) ∧ Fee w' fb mb b s n xs 0 (fun _ => 0) 0 ∧ Chg [] w w' ∧ w.heap.size ≤ fb ∧ w.heap.size ≤ mb := by
  have hmm := @run_makeMap Try.prog
  have hl := h.lt
  go_enter Try.func36, Try.ntmps36
  go_wp2
  go_ret
  refine ⟨w.heap.size + 1, w.heap.size, rfl, ⟨(h.alloc _).alloc _, ?_, (MapU.new w).alloc _, ⟨by omega, by omega, by omega, by omega, by omega⟩, by simp [U]⟩, ((Chg.refl _ _).alloc _).alloc _, by omega, by omega⟩
  have := Blk.new (w.alloc (.map #[] 0)) [.pointer (some ⟨b, 0, none⟩), .map (some w.heap.size), .int .u64 0] 82
  simpa using this
end Go.Proofs.Ytkjkkchpicehoaa
