/-
  No cell of these rows narrows 'for every input' (looked for: loops, veiled, ifaces, maps, wideKeys, modest, calm, conditions, laid).
  DERIVED. THE GIVEN ROWS OF THIS SEAT. 12 by the template 'for every input the law returns true; each argument reads behind the call as it read before'; 0 by the template 'total and deterministic' (their statements: YteabcpmpcbjicaaTotals.lean).
  GIVEN WITH THE SEED: the statements are not yours to turn. If you find one false, say at which input.
  Laid BY PROGRAM, IN A SANDBOX (cutbox-rows.mjs): the forced cells as the released guide's own fill.sh prints them over the translation 19f24f0024800ebc… (all of the seat's roots in one cut). By AI agents, Wed Nov 11 2026. No macro, syntax, notation, axiom, sorry.
-/
import Derived.Test.YteabcpmpcbjicaaChecked
import GoSem.Claim
import GoSem.ClaimJoined
import GoSem.ClaimMapViews
import Derived.JoinedTies
import Derived.KernelRfl
namespace Go.Proofs.Yteabcpmpcbjicaa
/- THE CELL 'sum', in the pinned program and in every row, IS THE sha256 OF THE DUMP (.gsa) THAT YteabcpmpcbjicaaProg.lean LOADS. Nothing in Lean hashes anything: it is a label: what it is worth is what the hold of that sum in a sandbox is worth. -/
noncomputable def Try.pinned : Pinned := { name := "yteabcpmpcbjicaa", sum := "19f24f0024800ebc2cf92160d60a0a27a4eadcd114372129e309b914a455562d", checked := Try.checked }
namespace Rows
def none {H : Type} : Left H := { results := [], args := [] }

/-- 'tolseylaw14.PoolFull': WHATEVER THE INPUT: true; the input reads as it did. -/
def poolFullSpec : ChangeSpec := { name := "poolFull", fn := fun _ => fun
  | [d1, d2] => { results := [.lit (.bool true)], args := [d1, d2] }
  | _ => none }
def poolFullRow : OpenClaim := { program := "yteabcpmpcbjicaa", sum := "19f24f0024800ebc2cf92160d60a0a27a4eadcd114372129e309b914a455562d", func := "tolsey/tolseylaw14.PoolFull", spec := "poolFull", inPlace := ["math/bits.Add64"], unfollowed := true, recurses := true, apart := false }
def PoolFullSaid : Prop := poolFullRow.holds Try.pinned (OpenSpec.ofChange poolFullSpec)

/-- ITS FALSE NEIGHBOUR: 'it returns false'. Refute it at one input. -/
def poolFullWrong : ChangeSpec := { name := "poolFull", fn := fun _ => fun
  | [d1, d2] => { results := [.lit (.bool false)], args := [d1, d2] }
  | _ => none }
def PoolFullWrongFalsely : Prop := poolFullRow.holds Try.pinned (OpenSpec.ofChange poolFullWrong)

/-- 'tolseylaw14.PoolErrors': WHATEVER THE INPUT: true; the input reads as it did. -/
def poolErrorsSpec : ChangeSpec := { name := "poolErrors", fn := fun _ => fun
  | [d] => { results := [.lit (.bool true)], args := [d] }
  | _ => none }
def poolErrorsRow : OpenClaim := { program := "yteabcpmpcbjicaa", sum := "19f24f0024800ebc2cf92160d60a0a27a4eadcd114372129e309b914a455562d", func := "tolsey/tolseylaw14.PoolErrors", spec := "poolErrors", inPlace := ["math/bits.Add64"], unfollowed := true, recurses := true, apart := false }
def PoolErrorsSaid : Prop := poolErrorsRow.holds Try.pinned (OpenSpec.ofChange poolErrorsSpec)

/-- ITS FALSE NEIGHBOUR: 'it returns false'. Refute it at one input. -/
def poolErrorsWrong : ChangeSpec := { name := "poolErrors", fn := fun _ => fun
  | [d] => { results := [.lit (.bool false)], args := [d] }
  | _ => none }
def PoolErrorsWrongFalsely : Prop := poolErrorsRow.holds Try.pinned (OpenSpec.ofChange poolErrorsWrong)

/-- 'tolseylaw14.PoolBatch': WHATEVER THE INPUT: true; the input reads as it did. -/
def poolBatchSpec : ChangeSpec := { name := "poolBatch", fn := fun _ => fun
  | [d1, d2, d3] => { results := [.lit (.bool true)], args := [d1, d2, d3] }
  | _ => none }
def poolBatchRow : OpenClaim := { program := "yteabcpmpcbjicaa", sum := "19f24f0024800ebc2cf92160d60a0a27a4eadcd114372129e309b914a455562d", func := "tolsey/tolseylaw14.PoolBatch", spec := "poolBatch", inPlace := ["math/bits.Add64"], unfollowed := true, recurses := true, apart := false }
def PoolBatchSaid : Prop := poolBatchRow.holds Try.pinned (OpenSpec.ofChange poolBatchSpec)

/-- ITS FALSE NEIGHBOUR: 'it returns false'. Refute it at one input. -/
def poolBatchWrong : ChangeSpec := { name := "poolBatch", fn := fun _ => fun
  | [d1, d2, d3] => { results := [.lit (.bool false)], args := [d1, d2, d3] }
  | _ => none }
def PoolBatchWrongFalsely : Prop := poolBatchRow.holds Try.pinned (OpenSpec.ofChange poolBatchWrong)

/-- 'tolseylaw14.PoolDrops': WHATEVER THE INPUT: true; the input reads as it did. -/
def poolDropsSpec : ChangeSpec := { name := "poolDrops", fn := fun _ => fun
  | [d1, d2] => { results := [.lit (.bool true)], args := [d1, d2] }
  | _ => none }
def poolDropsRow : OpenClaim := { program := "yteabcpmpcbjicaa", sum := "19f24f0024800ebc2cf92160d60a0a27a4eadcd114372129e309b914a455562d", func := "tolsey/tolseylaw14.PoolDrops", spec := "poolDrops", inPlace := ["math/bits.Add64"], unfollowed := true, recurses := true, apart := false }
def PoolDropsSaid : Prop := poolDropsRow.holds Try.pinned (OpenSpec.ofChange poolDropsSpec)

/-- ITS FALSE NEIGHBOUR: 'it returns false'. Refute it at one input. -/
def poolDropsWrong : ChangeSpec := { name := "poolDrops", fn := fun _ => fun
  | [d1, d2] => { results := [.lit (.bool false)], args := [d1, d2] }
  | _ => none }
def PoolDropsWrongFalsely : Prop := poolDropsRow.holds Try.pinned (OpenSpec.ofChange poolDropsWrong)

/-- 'tolseylaw10.ExchCancels': WHATEVER THE INPUT: true; the input reads as it did. -/
def exchCancelsSpec : ChangeSpec := { name := "exchCancels", fn := fun _ => fun
  | [d1, d2, d3, d4] => { results := [.lit (.bool true)], args := [d1, d2, d3, d4] }
  | _ => none }
def exchCancelsRow : OpenClaim := { program := "yteabcpmpcbjicaa", sum := "19f24f0024800ebc2cf92160d60a0a27a4eadcd114372129e309b914a455562d", func := "tolsey/tolseylaw10.ExchCancels", spec := "exchCancels", inPlace := ["math/bits.Add64"], unfollowed := true, recurses := true, apart := false }
def ExchCancelsSaid : Prop := exchCancelsRow.holds Try.pinned (OpenSpec.ofChange exchCancelsSpec)

/-- ITS FALSE NEIGHBOUR: 'it returns false'. Refute it at one input. -/
def exchCancelsWrong : ChangeSpec := { name := "exchCancels", fn := fun _ => fun
  | [d1, d2, d3, d4] => { results := [.lit (.bool false)], args := [d1, d2, d3, d4] }
  | _ => none }
def ExchCancelsWrongFalsely : Prop := exchCancelsRow.holds Try.pinned (OpenSpec.ofChange exchCancelsWrong)

/-- 'tolseylaw12.LedgCodes': WHATEVER THE INPUT: true; the input reads as it did. -/
def ledgCodesSpec : ChangeSpec := { name := "ledgCodes", fn := fun _ => fun
  | [d] => { results := [.lit (.bool true)], args := [d] }
  | _ => none }
def ledgCodesRow : OpenClaim := { program := "yteabcpmpcbjicaa", sum := "19f24f0024800ebc2cf92160d60a0a27a4eadcd114372129e309b914a455562d", func := "tolsey/tolseylaw12.LedgCodes", spec := "ledgCodes", inPlace := ["math/bits.Add64"], unfollowed := true, recurses := true, apart := false }
def LedgCodesSaid : Prop := ledgCodesRow.holds Try.pinned (OpenSpec.ofChange ledgCodesSpec)

/-- ITS FALSE NEIGHBOUR: 'it returns false'. Refute it at one input. -/
def ledgCodesWrong : ChangeSpec := { name := "ledgCodes", fn := fun _ => fun
  | [d] => { results := [.lit (.bool false)], args := [d] }
  | _ => none }
def LedgCodesWrongFalsely : Prop := ledgCodesRow.holds Try.pinned (OpenSpec.ofChange ledgCodesWrong)

/-- 'tolseylaw12.LedgFees': WHATEVER THE INPUT: true; the input reads as it did. -/
def ledgFeesSpec : ChangeSpec := { name := "ledgFees", fn := fun _ => fun
  | [d1, d2, d3] => { results := [.lit (.bool true)], args := [d1, d2, d3] }
  | _ => none }
def ledgFeesRow : OpenClaim := { program := "yteabcpmpcbjicaa", sum := "19f24f0024800ebc2cf92160d60a0a27a4eadcd114372129e309b914a455562d", func := "tolsey/tolseylaw12.LedgFees", spec := "ledgFees", inPlace := ["math/bits.Add64"], unfollowed := true, recurses := true, apart := false }
def LedgFeesSaid : Prop := ledgFeesRow.holds Try.pinned (OpenSpec.ofChange ledgFeesSpec)

/-- ITS FALSE NEIGHBOUR: 'it returns false'. Refute it at one input. -/
def ledgFeesWrong : ChangeSpec := { name := "ledgFees", fn := fun _ => fun
  | [d1, d2, d3] => { results := [.lit (.bool false)], args := [d1, d2, d3] }
  | _ => none }
def LedgFeesWrongFalsely : Prop := ledgFeesRow.holds Try.pinned (OpenSpec.ofChange ledgFeesWrong)

/-- 'tolseylaw10.ExchSums': WHATEVER THE INPUT: true; the input reads as it did. -/
def exchSumsSpec : ChangeSpec := { name := "exchSums", fn := fun _ => fun
  | [d] => { results := [.lit (.bool true)], args := [d] }
  | _ => none }
def exchSumsRow : OpenClaim := { program := "yteabcpmpcbjicaa", sum := "19f24f0024800ebc2cf92160d60a0a27a4eadcd114372129e309b914a455562d", func := "tolsey/tolseylaw10.ExchSums", spec := "exchSums", inPlace := ["math/bits.Add64"], unfollowed := true, recurses := true, apart := false }
def ExchSumsSaid : Prop := exchSumsRow.holds Try.pinned (OpenSpec.ofChange exchSumsSpec)

/-- ITS FALSE NEIGHBOUR: 'it returns false'. Refute it at one input. -/
def exchSumsWrong : ChangeSpec := { name := "exchSums", fn := fun _ => fun
  | [d] => { results := [.lit (.bool false)], args := [d] }
  | _ => none }
def ExchSumsWrongFalsely : Prop := exchSumsRow.holds Try.pinned (OpenSpec.ofChange exchSumsWrong)

/-- 'tolseylaw10.ExchErrors': WHATEVER THE INPUT: true; the input reads as it did. -/
def exchErrorsSpec : ChangeSpec := { name := "exchErrors", fn := fun _ => fun
  | [d1, d2] => { results := [.lit (.bool true)], args := [d1, d2] }
  | _ => none }
def exchErrorsRow : OpenClaim := { program := "yteabcpmpcbjicaa", sum := "19f24f0024800ebc2cf92160d60a0a27a4eadcd114372129e309b914a455562d", func := "tolsey/tolseylaw10.ExchErrors", spec := "exchErrors", inPlace := ["math/bits.Add64"], unfollowed := true, recurses := true, apart := false }
def ExchErrorsSaid : Prop := exchErrorsRow.holds Try.pinned (OpenSpec.ofChange exchErrorsSpec)

/-- ITS FALSE NEIGHBOUR: 'it returns false'. Refute it at one input. -/
def exchErrorsWrong : ChangeSpec := { name := "exchErrors", fn := fun _ => fun
  | [d1, d2] => { results := [.lit (.bool false)], args := [d1, d2] }
  | _ => none }
def ExchErrorsWrongFalsely : Prop := exchErrorsRow.holds Try.pinned (OpenSpec.ofChange exchErrorsWrong)

/-- 'tolseylaw10.ExchNow': WHATEVER THE INPUT: true; the input reads as it did. -/
def exchNowSpec : ChangeSpec := { name := "exchNow", fn := fun _ => fun
  | [d1, d2, d3, d4] => { results := [.lit (.bool true)], args := [d1, d2, d3, d4] }
  | _ => none }
def exchNowRow : OpenClaim := { program := "yteabcpmpcbjicaa", sum := "19f24f0024800ebc2cf92160d60a0a27a4eadcd114372129e309b914a455562d", func := "tolsey/tolseylaw10.ExchNow", spec := "exchNow", inPlace := ["math/bits.Add64"], unfollowed := true, recurses := true, apart := false }
def ExchNowSaid : Prop := exchNowRow.holds Try.pinned (OpenSpec.ofChange exchNowSpec)

/-- ITS FALSE NEIGHBOUR: 'it returns false'. Refute it at one input. -/
def exchNowWrong : ChangeSpec := { name := "exchNow", fn := fun _ => fun
  | [d1, d2, d3, d4] => { results := [.lit (.bool false)], args := [d1, d2, d3, d4] }
  | _ => none }
def ExchNowWrongFalsely : Prop := exchNowRow.holds Try.pinned (OpenSpec.ofChange exchNowWrong)

/-- 'tolseylaw10.ExchPlays': WHATEVER THE INPUT: true; the input reads as it did. -/
def exchPlaysSpec : ChangeSpec := { name := "exchPlays", fn := fun _ => fun
  | [d1, d2, d3] => { results := [.lit (.bool true)], args := [d1, d2, d3] }
  | _ => none }
def exchPlaysRow : OpenClaim := { program := "yteabcpmpcbjicaa", sum := "19f24f0024800ebc2cf92160d60a0a27a4eadcd114372129e309b914a455562d", func := "tolsey/tolseylaw10.ExchPlays", spec := "exchPlays", inPlace := ["math/bits.Add64"], unfollowed := true, recurses := true, apart := false }
def ExchPlaysSaid : Prop := exchPlaysRow.holds Try.pinned (OpenSpec.ofChange exchPlaysSpec)

/-- ITS FALSE NEIGHBOUR: 'it returns false'. Refute it at one input. -/
def exchPlaysWrong : ChangeSpec := { name := "exchPlays", fn := fun _ => fun
  | [d1, d2, d3] => { results := [.lit (.bool false)], args := [d1, d2, d3] }
  | _ => none }
def ExchPlaysWrongFalsely : Prop := exchPlaysRow.holds Try.pinned (OpenSpec.ofChange exchPlaysWrong)

/-- 'tolseylaw12.LedgMeets': WHATEVER THE INPUT: true; the input reads as it did. -/
def ledgMeetsSpec : ChangeSpec := { name := "ledgMeets", fn := fun _ => fun
  | [d1, d2, d3, d4] => { results := [.lit (.bool true)], args := [d1, d2, d3, d4] }
  | _ => none }
def ledgMeetsRow : OpenClaim := { program := "yteabcpmpcbjicaa", sum := "19f24f0024800ebc2cf92160d60a0a27a4eadcd114372129e309b914a455562d", func := "tolsey/tolseylaw12.LedgMeets", spec := "ledgMeets", inPlace := ["math/bits.Add64"], unfollowed := true, recurses := true, apart := false }
def LedgMeetsSaid : Prop := ledgMeetsRow.holds Try.pinned (OpenSpec.ofChange ledgMeetsSpec)

/-- ITS FALSE NEIGHBOUR: 'it returns false'. Refute it at one input. -/
def ledgMeetsWrong : ChangeSpec := { name := "ledgMeets", fn := fun _ => fun
  | [d1, d2, d3, d4] => { results := [.lit (.bool false)], args := [d1, d2, d3, d4] }
  | _ => none }
def LedgMeetsWrongFalsely : Prop := ledgMeetsRow.holds Try.pinned (OpenSpec.ofChange ledgMeetsWrong)

/- THE SECOND FORM. 'bulk': how many values and letters a reading holds, each counted each time it is reached (what is shared counts as often as it is met; a slice's spare places count too). A statement '..UptoSaid' is the law's where the arguments, and the package variables that the reading takes, are together of bulk at most 1048576: NARROWER than '..Said'. Prove '..Said' where nothing that the law and all that it calls make is longer than what came in: it says more and counts as full. Else prove '..UptoSaid'. A law counts once. -/
mutual
def uptoBulk {H : Type} : DataW H → Nat
  | .lit (.string bytes) => bytes.length + 1
  | .lit _ => 1
  | .nil => 1
  | .ptr d => uptoBulk d + 1
  | .slice elems spare => uptoBulkAll elems + uptoBulkAll spare + 1
  | .agg parts => uptoBulkAll parts + 1
  | .iface _ d => uptoBulk d + 1
  | .map entries => uptoBulkEntries entries + 1
  | .held _ => 1
def uptoBulkAll {H : Type} : List (DataW H) → Nat
  | [] => 0
  | d :: r => uptoBulk d + uptoBulkAll r
def uptoBulkEntries {H : Type} : List (Lit × DataW H) → Nat
  | [] => 0
  | x :: r => uptoBulkEntry x + uptoBulkEntries r
def uptoBulkEntry {H : Type} : Lit × DataW H → Nat
  | (.string bytes, d) => bytes.length + uptoBulk d + 1
  | (_, d) => uptoBulk d + 1
 end
def uptoSmall : (H : Type) → List (DataW H) → Bool := fun _ ds => decide (uptoBulkAll ds ≤ 1048576)
def OpenSpec.upto (s : _root_.Go.ChangeSpec) : _root_.Go.OpenSpec := { _root_.Go.OpenSpec.ofChange s with cond := some uptoSmall }

/-- 'tolseylaw14.PoolFull', WHERE WHAT IT READS IS OF BULK AT MOST 1048576: true; the input reads as it did. -/
def poolFullUptoRow : OpenClaim := { program := "yteabcpmpcbjicaa", sum := "19f24f0024800ebc2cf92160d60a0a27a4eadcd114372129e309b914a455562d", func := "tolsey/tolseylaw14.PoolFull", spec := "poolFull", inPlace := ["math/bits.Add64"], unfollowed := true, recurses := true, apart := false, narrowed := true }
def PoolFullUptoSaid : Prop := poolFullUptoRow.holds Try.pinned (OpenSpec.upto poolFullSpec)

/-- 'tolseylaw14.PoolErrors', WHERE WHAT IT READS IS OF BULK AT MOST 1048576: true; the input reads as it did. -/
def poolErrorsUptoRow : OpenClaim := { program := "yteabcpmpcbjicaa", sum := "19f24f0024800ebc2cf92160d60a0a27a4eadcd114372129e309b914a455562d", func := "tolsey/tolseylaw14.PoolErrors", spec := "poolErrors", inPlace := ["math/bits.Add64"], unfollowed := true, recurses := true, apart := false, narrowed := true }
def PoolErrorsUptoSaid : Prop := poolErrorsUptoRow.holds Try.pinned (OpenSpec.upto poolErrorsSpec)

/-- 'tolseylaw14.PoolBatch', WHERE WHAT IT READS IS OF BULK AT MOST 1048576: true; the input reads as it did. -/
def poolBatchUptoRow : OpenClaim := { program := "yteabcpmpcbjicaa", sum := "19f24f0024800ebc2cf92160d60a0a27a4eadcd114372129e309b914a455562d", func := "tolsey/tolseylaw14.PoolBatch", spec := "poolBatch", inPlace := ["math/bits.Add64"], unfollowed := true, recurses := true, apart := false, narrowed := true }
def PoolBatchUptoSaid : Prop := poolBatchUptoRow.holds Try.pinned (OpenSpec.upto poolBatchSpec)

/-- 'tolseylaw14.PoolDrops', WHERE WHAT IT READS IS OF BULK AT MOST 1048576: true; the input reads as it did. -/
def poolDropsUptoRow : OpenClaim := { program := "yteabcpmpcbjicaa", sum := "19f24f0024800ebc2cf92160d60a0a27a4eadcd114372129e309b914a455562d", func := "tolsey/tolseylaw14.PoolDrops", spec := "poolDrops", inPlace := ["math/bits.Add64"], unfollowed := true, recurses := true, apart := false, narrowed := true }
def PoolDropsUptoSaid : Prop := poolDropsUptoRow.holds Try.pinned (OpenSpec.upto poolDropsSpec)

/-- 'tolseylaw10.ExchCancels', WHERE WHAT IT READS IS OF BULK AT MOST 1048576: true; the input reads as it did. -/
def exchCancelsUptoRow : OpenClaim := { program := "yteabcpmpcbjicaa", sum := "19f24f0024800ebc2cf92160d60a0a27a4eadcd114372129e309b914a455562d", func := "tolsey/tolseylaw10.ExchCancels", spec := "exchCancels", inPlace := ["math/bits.Add64"], unfollowed := true, recurses := true, apart := false, narrowed := true }
def ExchCancelsUptoSaid : Prop := exchCancelsUptoRow.holds Try.pinned (OpenSpec.upto exchCancelsSpec)

/-- 'tolseylaw12.LedgCodes', WHERE WHAT IT READS IS OF BULK AT MOST 1048576: true; the input reads as it did. -/
def ledgCodesUptoRow : OpenClaim := { program := "yteabcpmpcbjicaa", sum := "19f24f0024800ebc2cf92160d60a0a27a4eadcd114372129e309b914a455562d", func := "tolsey/tolseylaw12.LedgCodes", spec := "ledgCodes", inPlace := ["math/bits.Add64"], unfollowed := true, recurses := true, apart := false, narrowed := true }
def LedgCodesUptoSaid : Prop := ledgCodesUptoRow.holds Try.pinned (OpenSpec.upto ledgCodesSpec)

/-- 'tolseylaw12.LedgFees', WHERE WHAT IT READS IS OF BULK AT MOST 1048576: true; the input reads as it did. -/
def ledgFeesUptoRow : OpenClaim := { program := "yteabcpmpcbjicaa", sum := "19f24f0024800ebc2cf92160d60a0a27a4eadcd114372129e309b914a455562d", func := "tolsey/tolseylaw12.LedgFees", spec := "ledgFees", inPlace := ["math/bits.Add64"], unfollowed := true, recurses := true, apart := false, narrowed := true }
def LedgFeesUptoSaid : Prop := ledgFeesUptoRow.holds Try.pinned (OpenSpec.upto ledgFeesSpec)

/-- 'tolseylaw10.ExchSums', WHERE WHAT IT READS IS OF BULK AT MOST 1048576: true; the input reads as it did. -/
def exchSumsUptoRow : OpenClaim := { program := "yteabcpmpcbjicaa", sum := "19f24f0024800ebc2cf92160d60a0a27a4eadcd114372129e309b914a455562d", func := "tolsey/tolseylaw10.ExchSums", spec := "exchSums", inPlace := ["math/bits.Add64"], unfollowed := true, recurses := true, apart := false, narrowed := true }
def ExchSumsUptoSaid : Prop := exchSumsUptoRow.holds Try.pinned (OpenSpec.upto exchSumsSpec)

/-- 'tolseylaw10.ExchErrors', WHERE WHAT IT READS IS OF BULK AT MOST 1048576: true; the input reads as it did. -/
def exchErrorsUptoRow : OpenClaim := { program := "yteabcpmpcbjicaa", sum := "19f24f0024800ebc2cf92160d60a0a27a4eadcd114372129e309b914a455562d", func := "tolsey/tolseylaw10.ExchErrors", spec := "exchErrors", inPlace := ["math/bits.Add64"], unfollowed := true, recurses := true, apart := false, narrowed := true }
def ExchErrorsUptoSaid : Prop := exchErrorsUptoRow.holds Try.pinned (OpenSpec.upto exchErrorsSpec)

/-- 'tolseylaw10.ExchNow', WHERE WHAT IT READS IS OF BULK AT MOST 1048576: true; the input reads as it did. -/
def exchNowUptoRow : OpenClaim := { program := "yteabcpmpcbjicaa", sum := "19f24f0024800ebc2cf92160d60a0a27a4eadcd114372129e309b914a455562d", func := "tolsey/tolseylaw10.ExchNow", spec := "exchNow", inPlace := ["math/bits.Add64"], unfollowed := true, recurses := true, apart := false, narrowed := true }
def ExchNowUptoSaid : Prop := exchNowUptoRow.holds Try.pinned (OpenSpec.upto exchNowSpec)

/-- 'tolseylaw10.ExchPlays', WHERE WHAT IT READS IS OF BULK AT MOST 1048576: true; the input reads as it did. -/
def exchPlaysUptoRow : OpenClaim := { program := "yteabcpmpcbjicaa", sum := "19f24f0024800ebc2cf92160d60a0a27a4eadcd114372129e309b914a455562d", func := "tolsey/tolseylaw10.ExchPlays", spec := "exchPlays", inPlace := ["math/bits.Add64"], unfollowed := true, recurses := true, apart := false, narrowed := true }
def ExchPlaysUptoSaid : Prop := exchPlaysUptoRow.holds Try.pinned (OpenSpec.upto exchPlaysSpec)

/-- 'tolseylaw12.LedgMeets', WHERE WHAT IT READS IS OF BULK AT MOST 1048576: true; the input reads as it did. -/
def ledgMeetsUptoRow : OpenClaim := { program := "yteabcpmpcbjicaa", sum := "19f24f0024800ebc2cf92160d60a0a27a4eadcd114372129e309b914a455562d", func := "tolsey/tolseylaw12.LedgMeets", spec := "ledgMeets", inPlace := ["math/bits.Add64"], unfollowed := true, recurses := true, apart := false, narrowed := true }
def LedgMeetsUptoSaid : Prop := ledgMeetsUptoRow.holds Try.pinned (OpenSpec.upto ledgMeetsSpec)

end Rows
end Go.Proofs.Yteabcpmpcbjicaa
