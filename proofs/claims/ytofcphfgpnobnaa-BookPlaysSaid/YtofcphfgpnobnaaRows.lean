/-
  No cell of these rows narrows 'for every input' (looked for: loops, veiled, ifaces, maps, wideKeys, modest, calm, conditions, laid).
  DERIVED. THE GIVEN ROWS OF THIS SEAT. 9 by the template 'for every input the law returns true; each argument reads behind the call as it read before'; 0 by the template 'total and deterministic' (their statements: YtofcphfgpnobnaaTotals.lean).
  GIVEN WITH THE SEED: the statements are not yours to turn. If you find one false, say at which input.
  Laid BY PROGRAM, IN A SANDBOX (cutbox-rows.mjs): the forced cells as the released guide's own fill.sh prints them over the translation 38ccdf952c4fa30a… (all of the seat's roots in one cut). By AI agents, Wed Nov 11 2026. No macro, syntax, notation, axiom, sorry.
-/
import Derived.Test.YtofcphfgpnobnaaChecked
import GoSem.Claim
import GoSem.ClaimJoined
import GoSem.ClaimMapViews
import Derived.JoinedTies
import Derived.KernelRfl
namespace Go.Proofs.Ytofcphfgpnobnaa
/- THE CELL 'sum', in the pinned program and in every row, IS THE sha256 OF THE DUMP (.gsa) THAT YtofcphfgpnobnaaProg.lean LOADS. Nothing in Lean hashes anything: it is a label: what it is worth is what the hold of that sum in a sandbox is worth. -/
noncomputable def Try.pinned : Pinned := { name := "ytofcphfgpnobnaa", sum := "38ccdf952c4fa30a49cfb660fe5b5c2f226e2227c10c239e6cd205bf2f33005e", checked := Try.checked }
namespace Rows
def none {H : Type} : Left H := { results := [], args := [] }

/-- 'tolseylaw8.PrioSorts': WHATEVER THE INPUT: true; the input reads as it did. -/
def prioSortsSpec : ChangeSpec := { name := "prioSorts", fn := fun _ => fun
  | [d1, d2, d3] => { results := [.lit (.bool true)], args := [d1, d2, d3] }
  | _ => none }
def prioSortsRow : OpenClaim := { program := "ytofcphfgpnobnaa", sum := "38ccdf952c4fa30a49cfb660fe5b5c2f226e2227c10c239e6cd205bf2f33005e", func := "tolsey/tolseylaw8.PrioSorts", spec := "prioSorts", unfollowed := true, recurses := true, apart := false }
def PrioSortsSaid : Prop := prioSortsRow.holds Try.pinned (OpenSpec.ofChange prioSortsSpec)

/-- ITS FALSE NEIGHBOUR: 'it returns false'. Refute it at one input. -/
def prioSortsWrong : ChangeSpec := { name := "prioSorts", fn := fun _ => fun
  | [d1, d2, d3] => { results := [.lit (.bool false)], args := [d1, d2, d3] }
  | _ => none }
def PrioSortsWrongFalsely : Prop := prioSortsRow.holds Try.pinned (OpenSpec.ofChange prioSortsWrong)

/-- 'tolseylaw8.PrioRemoves': WHATEVER THE INPUT: true; the input reads as it did. -/
def prioRemovesSpec : ChangeSpec := { name := "prioRemoves", fn := fun _ => fun
  | [d1, d2, d3, d4] => { results := [.lit (.bool true)], args := [d1, d2, d3, d4] }
  | _ => none }
def prioRemovesRow : OpenClaim := { program := "ytofcphfgpnobnaa", sum := "38ccdf952c4fa30a49cfb660fe5b5c2f226e2227c10c239e6cd205bf2f33005e", func := "tolsey/tolseylaw8.PrioRemoves", spec := "prioRemoves", unfollowed := true, recurses := true, apart := false }
def PrioRemovesSaid : Prop := prioRemovesRow.holds Try.pinned (OpenSpec.ofChange prioRemovesSpec)

/-- ITS FALSE NEIGHBOUR: 'it returns false'. Refute it at one input. -/
def prioRemovesWrong : ChangeSpec := { name := "prioRemoves", fn := fun _ => fun
  | [d1, d2, d3, d4] => { results := [.lit (.bool false)], args := [d1, d2, d3, d4] }
  | _ => none }
def PrioRemovesWrongFalsely : Prop := prioRemovesRow.holds Try.pinned (OpenSpec.ofChange prioRemovesWrong)

/-- 'tolseylaw8.PrioOwn': WHATEVER THE INPUT: true; the input reads as it did. -/
def prioOwnSpec : ChangeSpec := { name := "prioOwn", fn := fun _ => fun
  | [d1, d2, d3] => { results := [.lit (.bool true)], args := [d1, d2, d3] }
  | _ => none }
def prioOwnRow : OpenClaim := { program := "ytofcphfgpnobnaa", sum := "38ccdf952c4fa30a49cfb660fe5b5c2f226e2227c10c239e6cd205bf2f33005e", func := "tolsey/tolseylaw8.PrioOwn", spec := "prioOwn", unfollowed := true, recurses := true, apart := false }
def PrioOwnSaid : Prop := prioOwnRow.holds Try.pinned (OpenSpec.ofChange prioOwnSpec)

/-- ITS FALSE NEIGHBOUR: 'it returns false'. Refute it at one input. -/
def prioOwnWrong : ChangeSpec := { name := "prioOwn", fn := fun _ => fun
  | [d1, d2, d3] => { results := [.lit (.bool false)], args := [d1, d2, d3] }
  | _ => none }
def PrioOwnWrongFalsely : Prop := prioOwnRow.holds Try.pinned (OpenSpec.ofChange prioOwnWrong)

/-- 'tolseylaw8.PrioPlays': WHATEVER THE INPUT: true; the input reads as it did. -/
def prioPlaysSpec : ChangeSpec := { name := "prioPlays", fn := fun _ => fun
  | [d1, d2, d3] => { results := [.lit (.bool true)], args := [d1, d2, d3] }
  | _ => none }
def prioPlaysRow : OpenClaim := { program := "ytofcphfgpnobnaa", sum := "38ccdf952c4fa30a49cfb660fe5b5c2f226e2227c10c239e6cd205bf2f33005e", func := "tolsey/tolseylaw8.PrioPlays", spec := "prioPlays", unfollowed := true, recurses := true, apart := false }
def PrioPlaysSaid : Prop := prioPlaysRow.holds Try.pinned (OpenSpec.ofChange prioPlaysSpec)

/-- ITS FALSE NEIGHBOUR: 'it returns false'. Refute it at one input. -/
def prioPlaysWrong : ChangeSpec := { name := "prioPlays", fn := fun _ => fun
  | [d1, d2, d3] => { results := [.lit (.bool false)], args := [d1, d2, d3] }
  | _ => none }
def PrioPlaysWrongFalsely : Prop := prioPlaysRow.holds Try.pinned (OpenSpec.ofChange prioPlaysWrong)

/-- 'tolseylaw9.BookFills': WHATEVER THE INPUT: true; the input reads as it did. -/
def bookFillsSpec : ChangeSpec := { name := "bookFills", fn := fun _ => fun
  | [d] => { results := [.lit (.bool true)], args := [d] }
  | _ => none }
def bookFillsRow : OpenClaim := { program := "ytofcphfgpnobnaa", sum := "38ccdf952c4fa30a49cfb660fe5b5c2f226e2227c10c239e6cd205bf2f33005e", func := "tolsey/tolseylaw9.BookFills", spec := "bookFills", unfollowed := true, recurses := true, apart := false }
def BookFillsSaid : Prop := bookFillsRow.holds Try.pinned (OpenSpec.ofChange bookFillsSpec)

/-- ITS FALSE NEIGHBOUR: 'it returns false'. Refute it at one input. -/
def bookFillsWrong : ChangeSpec := { name := "bookFills", fn := fun _ => fun
  | [d] => { results := [.lit (.bool false)], args := [d] }
  | _ => none }
def BookFillsWrongFalsely : Prop := bookFillsRow.holds Try.pinned (OpenSpec.ofChange bookFillsWrong)

/-- 'tolseylaw9.BookWalks': WHATEVER THE INPUT: true; the input reads as it did. -/
def bookWalksSpec : ChangeSpec := { name := "bookWalks", fn := fun _ => fun
  | [d1, d2, d3, d4] => { results := [.lit (.bool true)], args := [d1, d2, d3, d4] }
  | _ => none }
def bookWalksRow : OpenClaim := { program := "ytofcphfgpnobnaa", sum := "38ccdf952c4fa30a49cfb660fe5b5c2f226e2227c10c239e6cd205bf2f33005e", func := "tolsey/tolseylaw9.BookWalks", spec := "bookWalks", unfollowed := true, recurses := true, apart := false }
def BookWalksSaid : Prop := bookWalksRow.holds Try.pinned (OpenSpec.ofChange bookWalksSpec)

/-- ITS FALSE NEIGHBOUR: 'it returns false'. Refute it at one input. -/
def bookWalksWrong : ChangeSpec := { name := "bookWalks", fn := fun _ => fun
  | [d1, d2, d3, d4] => { results := [.lit (.bool false)], args := [d1, d2, d3, d4] }
  | _ => none }
def BookWalksWrongFalsely : Prop := bookWalksRow.holds Try.pinned (OpenSpec.ofChange bookWalksWrong)

/-- 'tolseylaw9.BookOwn': WHATEVER THE INPUT: true; the input reads as it did. -/
def bookOwnSpec : ChangeSpec := { name := "bookOwn", fn := fun _ => fun
  | [d1, d2] => { results := [.lit (.bool true)], args := [d1, d2] }
  | _ => none }
def bookOwnRow : OpenClaim := { program := "ytofcphfgpnobnaa", sum := "38ccdf952c4fa30a49cfb660fe5b5c2f226e2227c10c239e6cd205bf2f33005e", func := "tolsey/tolseylaw9.BookOwn", spec := "bookOwn", unfollowed := true, recurses := true, apart := false }
def BookOwnSaid : Prop := bookOwnRow.holds Try.pinned (OpenSpec.ofChange bookOwnSpec)

/-- ITS FALSE NEIGHBOUR: 'it returns false'. Refute it at one input. -/
def bookOwnWrong : ChangeSpec := { name := "bookOwn", fn := fun _ => fun
  | [d1, d2] => { results := [.lit (.bool false)], args := [d1, d2] }
  | _ => none }
def BookOwnWrongFalsely : Prop := bookOwnRow.holds Try.pinned (OpenSpec.ofChange bookOwnWrong)

/-- 'tolseylaw9.BookPlays': WHATEVER THE INPUT: true; the input reads as it did. -/
def bookPlaysSpec : ChangeSpec := { name := "bookPlays", fn := fun _ => fun
  | [d1, d2] => { results := [.lit (.bool true)], args := [d1, d2] }
  | _ => none }
def bookPlaysRow : OpenClaim := { program := "ytofcphfgpnobnaa", sum := "38ccdf952c4fa30a49cfb660fe5b5c2f226e2227c10c239e6cd205bf2f33005e", func := "tolsey/tolseylaw9.BookPlays", spec := "bookPlays", unfollowed := true, recurses := true, apart := false }
def BookPlaysSaid : Prop := bookPlaysRow.holds Try.pinned (OpenSpec.ofChange bookPlaysSpec)

/-- ITS FALSE NEIGHBOUR: 'it returns false'. Refute it at one input. -/
def bookPlaysWrong : ChangeSpec := { name := "bookPlays", fn := fun _ => fun
  | [d1, d2] => { results := [.lit (.bool false)], args := [d1, d2] }
  | _ => none }
def BookPlaysWrongFalsely : Prop := bookPlaysRow.holds Try.pinned (OpenSpec.ofChange bookPlaysWrong)

/-- 'tolseylaw9.BookUncrossed': WHATEVER THE INPUT: true; the input reads as it did. -/
def bookUncrossedSpec : ChangeSpec := { name := "bookUncrossed", fn := fun _ => fun
  | [d] => { results := [.lit (.bool true)], args := [d] }
  | _ => none }
def bookUncrossedRow : OpenClaim := { program := "ytofcphfgpnobnaa", sum := "38ccdf952c4fa30a49cfb660fe5b5c2f226e2227c10c239e6cd205bf2f33005e", func := "tolsey/tolseylaw9.BookUncrossed", spec := "bookUncrossed", unfollowed := true, recurses := true, apart := false }
def BookUncrossedSaid : Prop := bookUncrossedRow.holds Try.pinned (OpenSpec.ofChange bookUncrossedSpec)

/-- ITS FALSE NEIGHBOUR: 'it returns false'. Refute it at one input. -/
def bookUncrossedWrong : ChangeSpec := { name := "bookUncrossed", fn := fun _ => fun
  | [d] => { results := [.lit (.bool false)], args := [d] }
  | _ => none }
def BookUncrossedWrongFalsely : Prop := bookUncrossedRow.holds Try.pinned (OpenSpec.ofChange bookUncrossedWrong)

/- THE SECOND FORM. 'bulk': how many values and letters a reading holds, each counted each time it is reached (what is shared counts as often as it is met; a slice's spare places count too). A statement '..UptoSaid' is the law's where the arguments, and the package variables that the reading takes, are together of bulk at most 1048576: NARROWER than '..Said'. Prove '..Said' where nothing that the law and all that it calls make is longer than what came in: it says more and counts as full. Else prove '..UptoSaid'. A law counts once. -/
mutual
def uptoBulk {H : Type} : DataW H → Nat
  | .lit (.string bytes) => bytes.length + 1
  | .lit _ => 1
  | .nil => 1
  | .ptr d => uptoBulk d + 1
  | .slice elems spare => uptoBulkAll elems + uptoBulkAll spare + 1
  | .agg parts => uptoBulkAll parts + 1
  | .iface _ d => uptoBulk d + 1
  | .map entries => uptoBulkEntries entries + 1
  | .held _ => 1
def uptoBulkAll {H : Type} : List (DataW H) → Nat
  | [] => 0
  | d :: r => uptoBulk d + uptoBulkAll r
def uptoBulkEntries {H : Type} : List (Lit × DataW H) → Nat
  | [] => 0
  | x :: r => uptoBulkEntry x + uptoBulkEntries r
def uptoBulkEntry {H : Type} : Lit × DataW H → Nat
  | (.string bytes, d) => bytes.length + uptoBulk d + 1
  | (_, d) => uptoBulk d + 1
 end
def uptoSmall : (H : Type) → List (DataW H) → Bool := fun _ ds => decide (uptoBulkAll ds ≤ 1048576)
def OpenSpec.upto (s : _root_.Go.ChangeSpec) : _root_.Go.OpenSpec := { _root_.Go.OpenSpec.ofChange s with cond := some uptoSmall }

/-- 'tolseylaw8.PrioSorts', WHERE WHAT IT READS IS OF BULK AT MOST 1048576: true; the input reads as it did. -/
def prioSortsUptoRow : OpenClaim := { program := "ytofcphfgpnobnaa", sum := "38ccdf952c4fa30a49cfb660fe5b5c2f226e2227c10c239e6cd205bf2f33005e", func := "tolsey/tolseylaw8.PrioSorts", spec := "prioSorts", unfollowed := true, recurses := true, apart := false, narrowed := true }
def PrioSortsUptoSaid : Prop := prioSortsUptoRow.holds Try.pinned (OpenSpec.upto prioSortsSpec)

/-- 'tolseylaw8.PrioRemoves', WHERE WHAT IT READS IS OF BULK AT MOST 1048576: true; the input reads as it did. -/
def prioRemovesUptoRow : OpenClaim := { program := "ytofcphfgpnobnaa", sum := "38ccdf952c4fa30a49cfb660fe5b5c2f226e2227c10c239e6cd205bf2f33005e", func := "tolsey/tolseylaw8.PrioRemoves", spec := "prioRemoves", unfollowed := true, recurses := true, apart := false, narrowed := true }
def PrioRemovesUptoSaid : Prop := prioRemovesUptoRow.holds Try.pinned (OpenSpec.upto prioRemovesSpec)

/-- 'tolseylaw8.PrioOwn', WHERE WHAT IT READS IS OF BULK AT MOST 1048576: true; the input reads as it did. -/
def prioOwnUptoRow : OpenClaim := { program := "ytofcphfgpnobnaa", sum := "38ccdf952c4fa30a49cfb660fe5b5c2f226e2227c10c239e6cd205bf2f33005e", func := "tolsey/tolseylaw8.PrioOwn", spec := "prioOwn", unfollowed := true, recurses := true, apart := false, narrowed := true }
def PrioOwnUptoSaid : Prop := prioOwnUptoRow.holds Try.pinned (OpenSpec.upto prioOwnSpec)

/-- 'tolseylaw8.PrioPlays', WHERE WHAT IT READS IS OF BULK AT MOST 1048576: true; the input reads as it did. -/
def prioPlaysUptoRow : OpenClaim := { program := "ytofcphfgpnobnaa", sum := "38ccdf952c4fa30a49cfb660fe5b5c2f226e2227c10c239e6cd205bf2f33005e", func := "tolsey/tolseylaw8.PrioPlays", spec := "prioPlays", unfollowed := true, recurses := true, apart := false, narrowed := true }
def PrioPlaysUptoSaid : Prop := prioPlaysUptoRow.holds Try.pinned (OpenSpec.upto prioPlaysSpec)

/-- 'tolseylaw9.BookFills', WHERE WHAT IT READS IS OF BULK AT MOST 1048576: true; the input reads as it did. -/
def bookFillsUptoRow : OpenClaim := { program := "ytofcphfgpnobnaa", sum := "38ccdf952c4fa30a49cfb660fe5b5c2f226e2227c10c239e6cd205bf2f33005e", func := "tolsey/tolseylaw9.BookFills", spec := "bookFills", unfollowed := true, recurses := true, apart := false, narrowed := true }
def BookFillsUptoSaid : Prop := bookFillsUptoRow.holds Try.pinned (OpenSpec.upto bookFillsSpec)

/-- 'tolseylaw9.BookWalks', WHERE WHAT IT READS IS OF BULK AT MOST 1048576: true; the input reads as it did. -/
def bookWalksUptoRow : OpenClaim := { program := "ytofcphfgpnobnaa", sum := "38ccdf952c4fa30a49cfb660fe5b5c2f226e2227c10c239e6cd205bf2f33005e", func := "tolsey/tolseylaw9.BookWalks", spec := "bookWalks", unfollowed := true, recurses := true, apart := false, narrowed := true }
def BookWalksUptoSaid : Prop := bookWalksUptoRow.holds Try.pinned (OpenSpec.upto bookWalksSpec)

/-- 'tolseylaw9.BookOwn', WHERE WHAT IT READS IS OF BULK AT MOST 1048576: true; the input reads as it did. -/
def bookOwnUptoRow : OpenClaim := { program := "ytofcphfgpnobnaa", sum := "38ccdf952c4fa30a49cfb660fe5b5c2f226e2227c10c239e6cd205bf2f33005e", func := "tolsey/tolseylaw9.BookOwn", spec := "bookOwn", unfollowed := true, recurses := true, apart := false, narrowed := true }
def BookOwnUptoSaid : Prop := bookOwnUptoRow.holds Try.pinned (OpenSpec.upto bookOwnSpec)

/-- 'tolseylaw9.BookPlays', WHERE WHAT IT READS IS OF BULK AT MOST 1048576: true; the input reads as it did. -/
def bookPlaysUptoRow : OpenClaim := { program := "ytofcphfgpnobnaa", sum := "38ccdf952c4fa30a49cfb660fe5b5c2f226e2227c10c239e6cd205bf2f33005e", func := "tolsey/tolseylaw9.BookPlays", spec := "bookPlays", unfollowed := true, recurses := true, apart := false, narrowed := true }
def BookPlaysUptoSaid : Prop := bookPlaysUptoRow.holds Try.pinned (OpenSpec.upto bookPlaysSpec)

/-- 'tolseylaw9.BookUncrossed', WHERE WHAT IT READS IS OF BULK AT MOST 1048576: true; the input reads as it did. -/
def bookUncrossedUptoRow : OpenClaim := { program := "ytofcphfgpnobnaa", sum := "38ccdf952c4fa30a49cfb660fe5b5c2f226e2227c10c239e6cd205bf2f33005e", func := "tolsey/tolseylaw9.BookUncrossed", spec := "bookUncrossed", unfollowed := true, recurses := true, apart := false, narrowed := true }
def BookUncrossedUptoSaid : Prop := bookUncrossedUptoRow.holds Try.pinned (OpenSpec.upto bookUncrossedSpec)

end Rows
end Go.Proofs.Ytofcphfgpnobnaa
