/-
  No cell of these rows narrows 'for every input' (looked for: loops, veiled, ifaces, maps, wideKeys, modest, calm, conditions, laid).
  DERIVED. THE GIVEN ROWS OF THIS SEAT. 11 by the template 'for every input the law returns true; each argument reads behind the call as it read before'; 0 by the template 'total and deterministic' (their statements: YteabcpmpcbjicaaGreatTotals.lean).
  GIVEN WITH THE SEED: the statements are not yours to turn. If you find one false, say at which input.
  Laid BY PROGRAM, IN A SANDBOX (cutbox-rows.mjs): the forced cells as the released guide's own fill.sh prints them over the translation 82351c564c740778… (all of the seat's roots in one cut). By AI agents, Wed Nov 11 2026. No macro, syntax, notation, axiom, sorry.
-/
import Derived.Test.YteabcpmpcbjicaaGreatChecked
import GoSem.Claim
import GoSem.ClaimJoined
import GoSem.ClaimMapViews
import Derived.JoinedTies
import Derived.KernelRfl
namespace Go.Proofs.YteabcpmpcbjicaaGreat
/- THE CELL 'sum', in the pinned program and in every row, IS THE sha256 OF THE DUMP (.gsa) THAT YteabcpmpcbjicaaGreatProg.lean LOADS. Nothing in Lean hashes anything: it is a label: what it is worth is what the hold of that sum in a sandbox is worth. -/
noncomputable def Tryz.pinned : Pinned := { name := "yteabcpmpcbjicaagreat", sum := "82351c564c740778426b2c357f76d70fff5b9ad4659ec248b9800df0009f1c3b", checked := Tryz.checked }
namespace Rows
def none {H : Type} : Left H := { results := [], args := [] }

/-- 'tolseylaw23.RevlWaits': WHATEVER THE INPUT: true; the input reads as it did. -/
def revlWaitsSpec : ChangeSpec := { name := "revlWaits", fn := fun _ => fun
  | [d1, d2] => { results := [.lit (.bool true)], args := [d1, d2] }
  | _ => none }
def revlWaitsRow : OpenClaim := { program := "yteabcpmpcbjicaagreat", sum := "82351c564c740778426b2c357f76d70fff5b9ad4659ec248b9800df0009f1c3b", func := "tolsey/tolseylaw23.RevlWaits", spec := "revlWaits", inPlace := ["math/bits.Add64"], unfollowed := true, recurses := true, apart := false }
def RevlWaitsSaid : Prop := revlWaitsRow.holds Tryz.pinned (OpenSpec.ofChange revlWaitsSpec)

/-- ITS FALSE NEIGHBOUR: 'it returns false'. Refute it at one input. -/
def revlWaitsWrong : ChangeSpec := { name := "revlWaits", fn := fun _ => fun
  | [d1, d2] => { results := [.lit (.bool false)], args := [d1, d2] }
  | _ => none }
def RevlWaitsWrongFalsely : Prop := revlWaitsRow.holds Tryz.pinned (OpenSpec.ofChange revlWaitsWrong)

/-- 'tolseylaw23.RevlWanted': WHATEVER THE INPUT: true; the input reads as it did. -/
def revlWantedSpec : ChangeSpec := { name := "revlWanted", fn := fun _ => fun
  | [d1, d2, d3] => { results := [.lit (.bool true)], args := [d1, d2, d3] }
  | _ => none }
def revlWantedRow : OpenClaim := { program := "yteabcpmpcbjicaagreat", sum := "82351c564c740778426b2c357f76d70fff5b9ad4659ec248b9800df0009f1c3b", func := "tolsey/tolseylaw23.RevlWanted", spec := "revlWanted", inPlace := ["math/bits.Add64"], unfollowed := true, recurses := true, apart := false }
def RevlWantedSaid : Prop := revlWantedRow.holds Tryz.pinned (OpenSpec.ofChange revlWantedSpec)

/-- ITS FALSE NEIGHBOUR: 'it returns false'. Refute it at one input. -/
def revlWantedWrong : ChangeSpec := { name := "revlWanted", fn := fun _ => fun
  | [d1, d2, d3] => { results := [.lit (.bool false)], args := [d1, d2, d3] }
  | _ => none }
def RevlWantedWrongFalsely : Prop := revlWantedRow.holds Tryz.pinned (OpenSpec.ofChange revlWantedWrong)

/-- 'tolseylaw14.PoolNonces': WHATEVER THE INPUT: true; the input reads as it did. -/
def poolNoncesSpec : ChangeSpec := { name := "poolNonces", fn := fun _ => fun
  | [d1, d2] => { results := [.lit (.bool true)], args := [d1, d2] }
  | _ => none }
def poolNoncesRow : OpenClaim := { program := "yteabcpmpcbjicaagreat", sum := "82351c564c740778426b2c357f76d70fff5b9ad4659ec248b9800df0009f1c3b", func := "tolsey/tolseylaw14.PoolNonces", spec := "poolNonces", inPlace := ["math/bits.Add64"], unfollowed := true, recurses := true, apart := false }
def PoolNoncesSaid : Prop := poolNoncesRow.holds Tryz.pinned (OpenSpec.ofChange poolNoncesSpec)

/-- ITS FALSE NEIGHBOUR: 'it returns false'. Refute it at one input. -/
def poolNoncesWrong : ChangeSpec := { name := "poolNonces", fn := fun _ => fun
  | [d1, d2] => { results := [.lit (.bool false)], args := [d1, d2] }
  | _ => none }
def PoolNoncesWrongFalsely : Prop := poolNoncesRow.holds Tryz.pinned (OpenSpec.ofChange poolNoncesWrong)

/-- 'tolseylaw12.LedgPlays': WHATEVER THE INPUT: true; the input reads as it did. -/
def ledgPlaysSpec : ChangeSpec := { name := "ledgPlays", fn := fun _ => fun
  | [d1, d2, d3] => { results := [.lit (.bool true)], args := [d1, d2, d3] }
  | _ => none }
def ledgPlaysRow : OpenClaim := { program := "yteabcpmpcbjicaagreat", sum := "82351c564c740778426b2c357f76d70fff5b9ad4659ec248b9800df0009f1c3b", func := "tolsey/tolseylaw12.LedgPlays", spec := "ledgPlays", inPlace := ["math/bits.Add64"], unfollowed := true, recurses := true, apart := false }
def LedgPlaysSaid : Prop := ledgPlaysRow.holds Tryz.pinned (OpenSpec.ofChange ledgPlaysSpec)

/-- ITS FALSE NEIGHBOUR: 'it returns false'. Refute it at one input. -/
def ledgPlaysWrong : ChangeSpec := { name := "ledgPlays", fn := fun _ => fun
  | [d1, d2, d3] => { results := [.lit (.bool false)], args := [d1, d2, d3] }
  | _ => none }
def LedgPlaysWrongFalsely : Prop := ledgPlaysRow.holds Tryz.pinned (OpenSpec.ofChange ledgPlaysWrong)

/-- 'tolseylaw12.LedgSums': WHATEVER THE INPUT: true; the input reads as it did. -/
def ledgSumsSpec : ChangeSpec := { name := "ledgSums", fn := fun _ => fun
  | [d1, d2] => { results := [.lit (.bool true)], args := [d1, d2] }
  | _ => none }
def ledgSumsRow : OpenClaim := { program := "yteabcpmpcbjicaagreat", sum := "82351c564c740778426b2c357f76d70fff5b9ad4659ec248b9800df0009f1c3b", func := "tolsey/tolseylaw12.LedgSums", spec := "ledgSums", inPlace := ["math/bits.Add64"], unfollowed := true, recurses := true, apart := false }
def LedgSumsSaid : Prop := ledgSumsRow.holds Tryz.pinned (OpenSpec.ofChange ledgSumsSpec)

/-- ITS FALSE NEIGHBOUR: 'it returns false'. Refute it at one input. -/
def ledgSumsWrong : ChangeSpec := { name := "ledgSums", fn := fun _ => fun
  | [d1, d2] => { results := [.lit (.bool false)], args := [d1, d2] }
  | _ => none }
def LedgSumsWrongFalsely : Prop := ledgSumsRow.holds Tryz.pinned (OpenSpec.ofChange ledgSumsWrong)

/-- 'tolseylaw14.PoolPlays': WHATEVER THE INPUT: true; the input reads as it did. -/
def poolPlaysSpec : ChangeSpec := { name := "poolPlays", fn := fun _ => fun
  | [d1, d2, d3, d4, d5] => { results := [.lit (.bool true)], args := [d1, d2, d3, d4, d5] }
  | _ => none }
def poolPlaysRow : OpenClaim := { program := "yteabcpmpcbjicaagreat", sum := "82351c564c740778426b2c357f76d70fff5b9ad4659ec248b9800df0009f1c3b", func := "tolsey/tolseylaw14.PoolPlays", spec := "poolPlays", inPlace := ["math/bits.Add64"], unfollowed := true, recurses := true, apart := false }
def PoolPlaysSaid : Prop := poolPlaysRow.holds Tryz.pinned (OpenSpec.ofChange poolPlaysSpec)

/-- ITS FALSE NEIGHBOUR: 'it returns false'. Refute it at one input. -/
def poolPlaysWrong : ChangeSpec := { name := "poolPlays", fn := fun _ => fun
  | [d1, d2, d3, d4, d5] => { results := [.lit (.bool false)], args := [d1, d2, d3, d4, d5] }
  | _ => none }
def PoolPlaysWrongFalsely : Prop := poolPlaysRow.holds Tryz.pinned (OpenSpec.ofChange poolPlaysWrong)

/-- 'tolseylaw12.LedgTwo': WHATEVER THE INPUT: true; the input reads as it did. -/
def ledgTwoSpec : ChangeSpec := { name := "ledgTwo", fn := fun _ => fun
  | [d1, d2, d3] => { results := [.lit (.bool true)], args := [d1, d2, d3] }
  | _ => none }
def ledgTwoRow : OpenClaim := { program := "yteabcpmpcbjicaagreat", sum := "82351c564c740778426b2c357f76d70fff5b9ad4659ec248b9800df0009f1c3b", func := "tolsey/tolseylaw12.LedgTwo", spec := "ledgTwo", inPlace := ["math/bits.Add64"], unfollowed := true, recurses := true, apart := false }
def LedgTwoSaid : Prop := ledgTwoRow.holds Tryz.pinned (OpenSpec.ofChange ledgTwoSpec)

/-- ITS FALSE NEIGHBOUR: 'it returns false'. Refute it at one input. -/
def ledgTwoWrong : ChangeSpec := { name := "ledgTwo", fn := fun _ => fun
  | [d1, d2, d3] => { results := [.lit (.bool false)], args := [d1, d2, d3] }
  | _ => none }
def LedgTwoWrongFalsely : Prop := ledgTwoRow.holds Tryz.pinned (OpenSpec.ofChange ledgTwoWrong)

/-- 'tolseylaw12.LedgOwn': WHATEVER THE INPUT: true; the input reads as it did. -/
def ledgOwnSpec : ChangeSpec := { name := "ledgOwn", fn := fun _ => fun
  | [d1, d2] => { results := [.lit (.bool true)], args := [d1, d2] }
  | _ => none }
def ledgOwnRow : OpenClaim := { program := "yteabcpmpcbjicaagreat", sum := "82351c564c740778426b2c357f76d70fff5b9ad4659ec248b9800df0009f1c3b", func := "tolsey/tolseylaw12.LedgOwn", spec := "ledgOwn", inPlace := ["math/bits.Add64"], unfollowed := true, recurses := true, apart := false }
def LedgOwnSaid : Prop := ledgOwnRow.holds Tryz.pinned (OpenSpec.ofChange ledgOwnSpec)

/-- ITS FALSE NEIGHBOUR: 'it returns false'. Refute it at one input. -/
def ledgOwnWrong : ChangeSpec := { name := "ledgOwn", fn := fun _ => fun
  | [d1, d2] => { results := [.lit (.bool false)], args := [d1, d2] }
  | _ => none }
def LedgOwnWrongFalsely : Prop := ledgOwnRow.holds Tryz.pinned (OpenSpec.ofChange ledgOwnWrong)

/-- 'tolseylaw12.LedgStates': WHATEVER THE INPUT: true; the input reads as it did. -/
def ledgStatesSpec : ChangeSpec := { name := "ledgStates", fn := fun _ => fun
  | [d1, d2, d3] => { results := [.lit (.bool true)], args := [d1, d2, d3] }
  | _ => none }
def ledgStatesRow : OpenClaim := { program := "yteabcpmpcbjicaagreat", sum := "82351c564c740778426b2c357f76d70fff5b9ad4659ec248b9800df0009f1c3b", func := "tolsey/tolseylaw12.LedgStates", spec := "ledgStates", inPlace := ["math/bits.Add64"], unfollowed := true, recurses := true, apart := false }
def LedgStatesSaid : Prop := ledgStatesRow.holds Tryz.pinned (OpenSpec.ofChange ledgStatesSpec)

/-- ITS FALSE NEIGHBOUR: 'it returns false'. Refute it at one input. -/
def ledgStatesWrong : ChangeSpec := { name := "ledgStates", fn := fun _ => fun
  | [d1, d2, d3] => { results := [.lit (.bool false)], args := [d1, d2, d3] }
  | _ => none }
def LedgStatesWrongFalsely : Prop := ledgStatesRow.holds Tryz.pinned (OpenSpec.ofChange ledgStatesWrong)

/-- 'tolseylaw23.RevlPlays': WHATEVER THE INPUT: true; the input reads as it did. -/
def revlPlaysSpec : ChangeSpec := { name := "revlPlays", fn := fun _ => fun
  | [d1, d2, d3, d4, d5] => { results := [.lit (.bool true)], args := [d1, d2, d3, d4, d5] }
  | _ => none }
def revlPlaysRow : OpenClaim := { program := "yteabcpmpcbjicaagreat", sum := "82351c564c740778426b2c357f76d70fff5b9ad4659ec248b9800df0009f1c3b", func := "tolsey/tolseylaw23.RevlPlays", spec := "revlPlays", inPlace := ["math/bits.Add64"], unfollowed := true, recurses := true, apart := false }
def RevlPlaysSaid : Prop := revlPlaysRow.holds Tryz.pinned (OpenSpec.ofChange revlPlaysSpec)

/-- ITS FALSE NEIGHBOUR: 'it returns false'. Refute it at one input. -/
def revlPlaysWrong : ChangeSpec := { name := "revlPlays", fn := fun _ => fun
  | [d1, d2, d3, d4, d5] => { results := [.lit (.bool false)], args := [d1, d2, d3, d4, d5] }
  | _ => none }
def RevlPlaysWrongFalsely : Prop := revlPlaysRow.holds Tryz.pinned (OpenSpec.ofChange revlPlaysWrong)

/-- 'tolseylaw23.RevlSame': WHATEVER THE INPUT: true; the input reads as it did. -/
def revlSameSpec : ChangeSpec := { name := "revlSame", fn := fun _ => fun
  | [d1, d2, d3] => { results := [.lit (.bool true)], args := [d1, d2, d3] }
  | _ => none }
def revlSameRow : OpenClaim := { program := "yteabcpmpcbjicaagreat", sum := "82351c564c740778426b2c357f76d70fff5b9ad4659ec248b9800df0009f1c3b", func := "tolsey/tolseylaw23.RevlSame", spec := "revlSame", inPlace := ["math/bits.Add64"], unfollowed := true, recurses := true, apart := false }
def RevlSameSaid : Prop := revlSameRow.holds Tryz.pinned (OpenSpec.ofChange revlSameSpec)

/-- ITS FALSE NEIGHBOUR: 'it returns false'. Refute it at one input. -/
def revlSameWrong : ChangeSpec := { name := "revlSame", fn := fun _ => fun
  | [d1, d2, d3] => { results := [.lit (.bool false)], args := [d1, d2, d3] }
  | _ => none }
def RevlSameWrongFalsely : Prop := revlSameRow.holds Tryz.pinned (OpenSpec.ofChange revlSameWrong)

/- THE SECOND FORM. 'bulk': how many values and letters a reading holds, each counted each time it is reached (what is shared counts as often as it is met; a slice's spare places count too). A statement '..UptoSaid' is the law's where the arguments, and the package variables that the reading takes, are together of bulk at most 1048576: NARROWER than '..Said'. Prove '..Said' where nothing that the law and all that it calls make is longer than what came in: it says more and counts as full. Else prove '..UptoSaid'. A law counts once. -/
mutual
def uptoBulk {H : Type} : DataW H → Nat
  | .lit (.string bytes) => bytes.length + 1
  | .lit _ => 1
  | .nil => 1
  | .ptr d => uptoBulk d + 1
  | .slice elems spare => uptoBulkAll elems + uptoBulkAll spare + 1
  | .agg parts => uptoBulkAll parts + 1
  | .iface _ d => uptoBulk d + 1
  | .map entries => uptoBulkEntries entries + 1
  | .held _ => 1
def uptoBulkAll {H : Type} : List (DataW H) → Nat
  | [] => 0
  | d :: r => uptoBulk d + uptoBulkAll r
def uptoBulkEntries {H : Type} : List (Lit × DataW H) → Nat
  | [] => 0
  | x :: r => uptoBulkEntry x + uptoBulkEntries r
def uptoBulkEntry {H : Type} : Lit × DataW H → Nat
  | (.string bytes, d) => bytes.length + uptoBulk d + 1
  | (_, d) => uptoBulk d + 1
 end
def uptoSmall : (H : Type) → List (DataW H) → Bool := fun _ ds => decide (uptoBulkAll ds ≤ 1048576)
def OpenSpec.upto (s : _root_.Go.ChangeSpec) : _root_.Go.OpenSpec := { _root_.Go.OpenSpec.ofChange s with cond := some uptoSmall }

/-- 'tolseylaw23.RevlWaits', WHERE WHAT IT READS IS OF BULK AT MOST 1048576: true; the input reads as it did. -/
def revlWaitsUptoRow : OpenClaim := { program := "yteabcpmpcbjicaagreat", sum := "82351c564c740778426b2c357f76d70fff5b9ad4659ec248b9800df0009f1c3b", func := "tolsey/tolseylaw23.RevlWaits", spec := "revlWaits", inPlace := ["math/bits.Add64"], unfollowed := true, recurses := true, apart := false, narrowed := true }
def RevlWaitsUptoSaid : Prop := revlWaitsUptoRow.holds Tryz.pinned (OpenSpec.upto revlWaitsSpec)

/-- 'tolseylaw23.RevlWanted', WHERE WHAT IT READS IS OF BULK AT MOST 1048576: true; the input reads as it did. -/
def revlWantedUptoRow : OpenClaim := { program := "yteabcpmpcbjicaagreat", sum := "82351c564c740778426b2c357f76d70fff5b9ad4659ec248b9800df0009f1c3b", func := "tolsey/tolseylaw23.RevlWanted", spec := "revlWanted", inPlace := ["math/bits.Add64"], unfollowed := true, recurses := true, apart := false, narrowed := true }
def RevlWantedUptoSaid : Prop := revlWantedUptoRow.holds Tryz.pinned (OpenSpec.upto revlWantedSpec)

/-- 'tolseylaw14.PoolNonces', WHERE WHAT IT READS IS OF BULK AT MOST 1048576: true; the input reads as it did. -/
def poolNoncesUptoRow : OpenClaim := { program := "yteabcpmpcbjicaagreat", sum := "82351c564c740778426b2c357f76d70fff5b9ad4659ec248b9800df0009f1c3b", func := "tolsey/tolseylaw14.PoolNonces", spec := "poolNonces", inPlace := ["math/bits.Add64"], unfollowed := true, recurses := true, apart := false, narrowed := true }
def PoolNoncesUptoSaid : Prop := poolNoncesUptoRow.holds Tryz.pinned (OpenSpec.upto poolNoncesSpec)

/-- 'tolseylaw12.LedgPlays', WHERE WHAT IT READS IS OF BULK AT MOST 1048576: true; the input reads as it did. -/
def ledgPlaysUptoRow : OpenClaim := { program := "yteabcpmpcbjicaagreat", sum := "82351c564c740778426b2c357f76d70fff5b9ad4659ec248b9800df0009f1c3b", func := "tolsey/tolseylaw12.LedgPlays", spec := "ledgPlays", inPlace := ["math/bits.Add64"], unfollowed := true, recurses := true, apart := false, narrowed := true }
def LedgPlaysUptoSaid : Prop := ledgPlaysUptoRow.holds Tryz.pinned (OpenSpec.upto ledgPlaysSpec)

/-- 'tolseylaw12.LedgSums', WHERE WHAT IT READS IS OF BULK AT MOST 1048576: true; the input reads as it did. -/
def ledgSumsUptoRow : OpenClaim := { program := "yteabcpmpcbjicaagreat", sum := "82351c564c740778426b2c357f76d70fff5b9ad4659ec248b9800df0009f1c3b", func := "tolsey/tolseylaw12.LedgSums", spec := "ledgSums", inPlace := ["math/bits.Add64"], unfollowed := true, recurses := true, apart := false, narrowed := true }
def LedgSumsUptoSaid : Prop := ledgSumsUptoRow.holds Tryz.pinned (OpenSpec.upto ledgSumsSpec)

/-- 'tolseylaw14.PoolPlays', WHERE WHAT IT READS IS OF BULK AT MOST 1048576: true; the input reads as it did. -/
def poolPlaysUptoRow : OpenClaim := { program := "yteabcpmpcbjicaagreat", sum := "82351c564c740778426b2c357f76d70fff5b9ad4659ec248b9800df0009f1c3b", func := "tolsey/tolseylaw14.PoolPlays", spec := "poolPlays", inPlace := ["math/bits.Add64"], unfollowed := true, recurses := true, apart := false, narrowed := true }
def PoolPlaysUptoSaid : Prop := poolPlaysUptoRow.holds Tryz.pinned (OpenSpec.upto poolPlaysSpec)

/-- 'tolseylaw12.LedgTwo', WHERE WHAT IT READS IS OF BULK AT MOST 1048576: true; the input reads as it did. -/
def ledgTwoUptoRow : OpenClaim := { program := "yteabcpmpcbjicaagreat", sum := "82351c564c740778426b2c357f76d70fff5b9ad4659ec248b9800df0009f1c3b", func := "tolsey/tolseylaw12.LedgTwo", spec := "ledgTwo", inPlace := ["math/bits.Add64"], unfollowed := true, recurses := true, apart := false, narrowed := true }
def LedgTwoUptoSaid : Prop := ledgTwoUptoRow.holds Tryz.pinned (OpenSpec.upto ledgTwoSpec)

/-- 'tolseylaw12.LedgOwn', WHERE WHAT IT READS IS OF BULK AT MOST 1048576: true; the input reads as it did. -/
def ledgOwnUptoRow : OpenClaim := { program := "yteabcpmpcbjicaagreat", sum := "82351c564c740778426b2c357f76d70fff5b9ad4659ec248b9800df0009f1c3b", func := "tolsey/tolseylaw12.LedgOwn", spec := "ledgOwn", inPlace := ["math/bits.Add64"], unfollowed := true, recurses := true, apart := false, narrowed := true }
def LedgOwnUptoSaid : Prop := ledgOwnUptoRow.holds Tryz.pinned (OpenSpec.upto ledgOwnSpec)

/-- 'tolseylaw12.LedgStates', WHERE WHAT IT READS IS OF BULK AT MOST 1048576: true; the input reads as it did. -/
def ledgStatesUptoRow : OpenClaim := { program := "yteabcpmpcbjicaagreat", sum := "82351c564c740778426b2c357f76d70fff5b9ad4659ec248b9800df0009f1c3b", func := "tolsey/tolseylaw12.LedgStates", spec := "ledgStates", inPlace := ["math/bits.Add64"], unfollowed := true, recurses := true, apart := false, narrowed := true }
def LedgStatesUptoSaid : Prop := ledgStatesUptoRow.holds Tryz.pinned (OpenSpec.upto ledgStatesSpec)

/-- 'tolseylaw23.RevlPlays', WHERE WHAT IT READS IS OF BULK AT MOST 1048576: true; the input reads as it did. -/
def revlPlaysUptoRow : OpenClaim := { program := "yteabcpmpcbjicaagreat", sum := "82351c564c740778426b2c357f76d70fff5b9ad4659ec248b9800df0009f1c3b", func := "tolsey/tolseylaw23.RevlPlays", spec := "revlPlays", inPlace := ["math/bits.Add64"], unfollowed := true, recurses := true, apart := false, narrowed := true }
def RevlPlaysUptoSaid : Prop := revlPlaysUptoRow.holds Tryz.pinned (OpenSpec.upto revlPlaysSpec)

/-- 'tolseylaw23.RevlSame', WHERE WHAT IT READS IS OF BULK AT MOST 1048576: true; the input reads as it did. -/
def revlSameUptoRow : OpenClaim := { program := "yteabcpmpcbjicaagreat", sum := "82351c564c740778426b2c357f76d70fff5b9ad4659ec248b9800df0009f1c3b", func := "tolsey/tolseylaw23.RevlSame", spec := "revlSame", inPlace := ["math/bits.Add64"], unfollowed := true, recurses := true, apart := false, narrowed := true }
def RevlSameUptoSaid : Prop := revlSameUptoRow.holds Tryz.pinned (OpenSpec.upto revlSameSpec)

end Rows
end Go.Proofs.YteabcpmpcbjicaaGreat
