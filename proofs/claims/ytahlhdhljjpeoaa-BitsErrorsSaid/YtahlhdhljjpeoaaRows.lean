/-
  No cell of these rows narrows 'for every input' (looked for: loops, veiled, ifaces, maps, wideKeys, modest, calm, conditions, laid).
  DERIVED. THE GIVEN ROWS OF THIS SEAT. 9 by the template 'for every input the law returns true; each argument reads behind the call as it read before'; 0 by the template 'total and deterministic' (their statements: YtahlhdhljjpeoaaTotals.lean).
  GIVEN WITH THE SEED: the statements are not yours to turn. If you find one false, say at which input.
  Laid BY PROGRAM, IN A SANDBOX (cutbox-rows.mjs): the forced cells as the released guide's own fill.sh prints them over the translation 731d9fcc3ba7569b… (all of the seat's roots in one cut). By AI agents, Wed Nov 11 2026. No macro, syntax, notation, axiom, sorry.
-/
import Derived.Test.YtahlhdhljjpeoaaChecked
import GoSem.Claim
import GoSem.ClaimJoined
import GoSem.ClaimMapViews
import Derived.JoinedTies
import Derived.KernelRfl
namespace Go.Proofs.Ytahlhdhljjpeoaa
/- THE CELL 'sum', in the pinned program and in every row, IS THE sha256 OF THE DUMP (.gsa) THAT YtahlhdhljjpeoaaProg.lean LOADS. Nothing in Lean hashes anything: it is a label: what it is worth is what the hold of that sum in a sandbox is worth. -/
noncomputable def Try.pinned : Pinned := { name := "ytahlhdhljjpeoaa", sum := "731d9fcc3ba7569bf6f354d8d4dbc4612990bfe64c6da9b121d83c95bbc65d9a", checked := Try.checked }
namespace Rows
def none {H : Type} : Left H := { results := [], args := [] }

/-- 'ledgerstonelaw25.ExtentsBlocks': WHATEVER THE INPUT: true; the input reads as it did. -/
def extentsBlocksSpec : ChangeSpec := { name := "extentsBlocks", fn := fun _ => fun
  | [d1, d2, d3] => { results := [.lit (.bool true)], args := [d1, d2, d3] }
  | _ => none }
def extentsBlocksRow : OpenClaim := { program := "ytahlhdhljjpeoaa", sum := "731d9fcc3ba7569bf6f354d8d4dbc4612990bfe64c6da9b121d83c95bbc65d9a", func := "ledgerstone/ledgerstonelaw25.ExtentsBlocks", spec := "extentsBlocks", inPlace := ["slices.overlaps[ledgerstone/api.Extent]"], unfollowed := true, recurses := true, apart := false }
def ExtentsBlocksSaid : Prop := extentsBlocksRow.holds Try.pinned (OpenSpec.ofChange extentsBlocksSpec)

/-- ITS FALSE NEIGHBOUR: 'it returns false'. Refute it at one input. -/
def extentsBlocksWrong : ChangeSpec := { name := "extentsBlocks", fn := fun _ => fun
  | [d1, d2, d3] => { results := [.lit (.bool false)], args := [d1, d2, d3] }
  | _ => none }
def ExtentsBlocksWrongFalsely : Prop := extentsBlocksRow.holds Try.pinned (OpenSpec.ofChange extentsBlocksWrong)

/-- 'ledgerstonelaw24.BitsOnce': WHATEVER THE INPUT: true; the input reads as it did. -/
def bitsOnceSpec : ChangeSpec := { name := "bitsOnce", fn := fun _ => fun
  | [d] => { results := [.lit (.bool true)], args := [d] }
  | _ => none }
def bitsOnceRow : OpenClaim := { program := "ytahlhdhljjpeoaa", sum := "731d9fcc3ba7569bf6f354d8d4dbc4612990bfe64c6da9b121d83c95bbc65d9a", func := "ledgerstone/ledgerstonelaw24.BitsOnce", spec := "bitsOnce", unfollowed := true, recurses := true, apart := false }
def BitsOnceSaid : Prop := bitsOnceRow.holds Try.pinned (OpenSpec.ofChange bitsOnceSpec)

/-- ITS FALSE NEIGHBOUR: 'it returns false'. Refute it at one input. -/
def bitsOnceWrong : ChangeSpec := { name := "bitsOnce", fn := fun _ => fun
  | [d] => { results := [.lit (.bool false)], args := [d] }
  | _ => none }
def BitsOnceWrongFalsely : Prop := bitsOnceRow.holds Try.pinned (OpenSpec.ofChange bitsOnceWrong)

/-- 'ledgerstonelaw24.BitsNumbers': WHATEVER THE INPUT: true; the input reads as it did. -/
def bitsNumbersSpec : ChangeSpec := { name := "bitsNumbers", fn := fun _ => fun
  | [] => { results := [.lit (.bool true)], args := [] }
  | _ => none }
def bitsNumbersRow : OpenClaim := { program := "ytahlhdhljjpeoaa", sum := "731d9fcc3ba7569bf6f354d8d4dbc4612990bfe64c6da9b121d83c95bbc65d9a", func := "ledgerstone/ledgerstonelaw24.BitsNumbers", spec := "bitsNumbers", unfollowed := true, recurses := true, apart := false }
def BitsNumbersSaid : Prop := bitsNumbersRow.holds Try.pinned (OpenSpec.ofChange bitsNumbersSpec)

/-- ITS FALSE NEIGHBOUR: 'it returns false'. Refute it at one input. -/
def bitsNumbersWrong : ChangeSpec := { name := "bitsNumbers", fn := fun _ => fun
  | [] => { results := [.lit (.bool false)], args := [] }
  | _ => none }
def BitsNumbersWrongFalsely : Prop := bitsNumbersRow.holds Try.pinned (OpenSpec.ofChange bitsNumbersWrong)

/-- 'ledgerstonelaw24.BitsPlays': WHATEVER THE INPUT: true; the input reads as it did. -/
def bitsPlaysSpec : ChangeSpec := { name := "bitsPlays", fn := fun _ => fun
  | [d1, d2] => { results := [.lit (.bool true)], args := [d1, d2] }
  | _ => none }
def bitsPlaysRow : OpenClaim := { program := "ytahlhdhljjpeoaa", sum := "731d9fcc3ba7569bf6f354d8d4dbc4612990bfe64c6da9b121d83c95bbc65d9a", func := "ledgerstone/ledgerstonelaw24.BitsPlays", spec := "bitsPlays", unfollowed := true, recurses := true, apart := false }
def BitsPlaysSaid : Prop := bitsPlaysRow.holds Try.pinned (OpenSpec.ofChange bitsPlaysSpec)

/-- ITS FALSE NEIGHBOUR: 'it returns false'. Refute it at one input. -/
def bitsPlaysWrong : ChangeSpec := { name := "bitsPlays", fn := fun _ => fun
  | [d1, d2] => { results := [.lit (.bool false)], args := [d1, d2] }
  | _ => none }
def BitsPlaysWrongFalsely : Prop := bitsPlaysRow.holds Try.pinned (OpenSpec.ofChange bitsPlaysWrong)

/-- 'ledgerstonelaw24.BitsErrors': WHATEVER THE INPUT: true; the input reads as it did. -/
def bitsErrorsSpec : ChangeSpec := { name := "bitsErrors", fn := fun _ => fun
  | [d1, d2, d3] => { results := [.lit (.bool true)], args := [d1, d2, d3] }
  | _ => none }
def bitsErrorsRow : OpenClaim := { program := "ytahlhdhljjpeoaa", sum := "731d9fcc3ba7569bf6f354d8d4dbc4612990bfe64c6da9b121d83c95bbc65d9a", func := "ledgerstone/ledgerstonelaw24.BitsErrors", spec := "bitsErrors", unfollowed := true, recurses := true, apart := false }
def BitsErrorsSaid : Prop := bitsErrorsRow.holds Try.pinned (OpenSpec.ofChange bitsErrorsSpec)

/-- ITS FALSE NEIGHBOUR: 'it returns false'. Refute it at one input. -/
def bitsErrorsWrong : ChangeSpec := { name := "bitsErrors", fn := fun _ => fun
  | [d1, d2, d3] => { results := [.lit (.bool false)], args := [d1, d2, d3] }
  | _ => none }
def BitsErrorsWrongFalsely : Prop := bitsErrorsRow.holds Try.pinned (OpenSpec.ofChange bitsErrorsWrong)

/-- 'ledgerstonelaw24.BitsInodes': WHATEVER THE INPUT: true; the input reads as it did. -/
def bitsInodesSpec : ChangeSpec := { name := "bitsInodes", fn := fun _ => fun
  | [d1, d2, d3, d4] => { results := [.lit (.bool true)], args := [d1, d2, d3, d4] }
  | _ => none }
def bitsInodesRow : OpenClaim := { program := "ytahlhdhljjpeoaa", sum := "731d9fcc3ba7569bf6f354d8d4dbc4612990bfe64c6da9b121d83c95bbc65d9a", func := "ledgerstone/ledgerstonelaw24.BitsInodes", spec := "bitsInodes", unfollowed := true, recurses := true, apart := false }
def BitsInodesSaid : Prop := bitsInodesRow.holds Try.pinned (OpenSpec.ofChange bitsInodesSpec)

/-- ITS FALSE NEIGHBOUR: 'it returns false'. Refute it at one input. -/
def bitsInodesWrong : ChangeSpec := { name := "bitsInodes", fn := fun _ => fun
  | [d1, d2, d3, d4] => { results := [.lit (.bool false)], args := [d1, d2, d3, d4] }
  | _ => none }
def BitsInodesWrongFalsely : Prop := bitsInodesRow.holds Try.pinned (OpenSpec.ofChange bitsInodesWrong)

/-- 'ledgerstonelaw25.ExtentsKeeps': WHATEVER THE INPUT: true; the input reads as it did. -/
def extentsKeepsSpec : ChangeSpec := { name := "extentsKeeps", fn := fun _ => fun
  | [d1, d2] => { results := [.lit (.bool true)], args := [d1, d2] }
  | _ => none }
def extentsKeepsRow : OpenClaim := { program := "ytahlhdhljjpeoaa", sum := "731d9fcc3ba7569bf6f354d8d4dbc4612990bfe64c6da9b121d83c95bbc65d9a", func := "ledgerstone/ledgerstonelaw25.ExtentsKeeps", spec := "extentsKeeps", inPlace := ["slices.overlaps[ledgerstone/api.Extent]"], unfollowed := true, recurses := true, apart := false }
def ExtentsKeepsSaid : Prop := extentsKeepsRow.holds Try.pinned (OpenSpec.ofChange extentsKeepsSpec)

/-- ITS FALSE NEIGHBOUR: 'it returns false'. Refute it at one input. -/
def extentsKeepsWrong : ChangeSpec := { name := "extentsKeeps", fn := fun _ => fun
  | [d1, d2] => { results := [.lit (.bool false)], args := [d1, d2] }
  | _ => none }
def ExtentsKeepsWrongFalsely : Prop := extentsKeepsRow.holds Try.pinned (OpenSpec.ofChange extentsKeepsWrong)

/-- 'ledgerstonelaw25.ExtentsBack': WHATEVER THE INPUT: true; the input reads as it did. -/
def extentsBackSpec : ChangeSpec := { name := "extentsBack", fn := fun _ => fun
  | [d1, d2] => { results := [.lit (.bool true)], args := [d1, d2] }
  | _ => none }
def extentsBackRow : OpenClaim := { program := "ytahlhdhljjpeoaa", sum := "731d9fcc3ba7569bf6f354d8d4dbc4612990bfe64c6da9b121d83c95bbc65d9a", func := "ledgerstone/ledgerstonelaw25.ExtentsBack", spec := "extentsBack", inPlace := ["slices.overlaps[ledgerstone/api.Extent]"], unfollowed := true, recurses := true, apart := false }
def ExtentsBackSaid : Prop := extentsBackRow.holds Try.pinned (OpenSpec.ofChange extentsBackSpec)

/-- ITS FALSE NEIGHBOUR: 'it returns false'. Refute it at one input. -/
def extentsBackWrong : ChangeSpec := { name := "extentsBack", fn := fun _ => fun
  | [d1, d2] => { results := [.lit (.bool false)], args := [d1, d2] }
  | _ => none }
def ExtentsBackWrongFalsely : Prop := extentsBackRow.holds Try.pinned (OpenSpec.ofChange extentsBackWrong)

/-- 'ledgerstonelaw25.ExtentsNumbers': WHATEVER THE INPUT: true; the input reads as it did. -/
def extentsNumbersSpec : ChangeSpec := { name := "extentsNumbers", fn := fun _ => fun
  | [] => { results := [.lit (.bool true)], args := [] }
  | _ => none }
def extentsNumbersRow : OpenClaim := { program := "ytahlhdhljjpeoaa", sum := "731d9fcc3ba7569bf6f354d8d4dbc4612990bfe64c6da9b121d83c95bbc65d9a", func := "ledgerstone/ledgerstonelaw25.ExtentsNumbers", spec := "extentsNumbers", inPlace := ["slices.overlaps[ledgerstone/api.Extent]"], unfollowed := true, recurses := true, apart := false }
def ExtentsNumbersSaid : Prop := extentsNumbersRow.holds Try.pinned (OpenSpec.ofChange extentsNumbersSpec)

/-- ITS FALSE NEIGHBOUR: 'it returns false'. Refute it at one input. -/
def extentsNumbersWrong : ChangeSpec := { name := "extentsNumbers", fn := fun _ => fun
  | [] => { results := [.lit (.bool false)], args := [] }
  | _ => none }
def ExtentsNumbersWrongFalsely : Prop := extentsNumbersRow.holds Try.pinned (OpenSpec.ofChange extentsNumbersWrong)

/- THE SECOND FORM. 'bulk': how many values and letters a reading holds, each counted each time it is reached (what is shared counts as often as it is met; a slice's spare places count too). A statement '..UptoSaid' is the law's where the arguments, and the package variables that the reading takes, are together of bulk at most 1048576: NARROWER than '..Said'. Prove '..Said' where nothing that the law and all that it calls make is longer than what came in: it says more and counts as full. Else prove '..UptoSaid'. A law counts once. -/
mutual
def uptoBulk {H : Type} : DataW H → Nat
  | .lit (.string bytes) => bytes.length + 1
  | .lit _ => 1
  | .nil => 1
  | .ptr d => uptoBulk d + 1
  | .slice elems spare => uptoBulkAll elems + uptoBulkAll spare + 1
  | .agg parts => uptoBulkAll parts + 1
  | .iface _ d => uptoBulk d + 1
  | .map entries => uptoBulkEntries entries + 1
  | .held _ => 1
def uptoBulkAll {H : Type} : List (DataW H) → Nat
  | [] => 0
  | d :: r => uptoBulk d + uptoBulkAll r
def uptoBulkEntries {H : Type} : List (Lit × DataW H) → Nat
  | [] => 0
  | x :: r => uptoBulkEntry x + uptoBulkEntries r
def uptoBulkEntry {H : Type} : Lit × DataW H → Nat
  | (.string bytes, d) => bytes.length + uptoBulk d + 1
  | (_, d) => uptoBulk d + 1
 end
def uptoSmall : (H : Type) → List (DataW H) → Bool := fun _ ds => decide (uptoBulkAll ds ≤ 1048576)
def OpenSpec.upto (s : _root_.Go.ChangeSpec) : _root_.Go.OpenSpec := { _root_.Go.OpenSpec.ofChange s with cond := some uptoSmall }

/-- 'ledgerstonelaw25.ExtentsBlocks', WHERE WHAT IT READS IS OF BULK AT MOST 1048576: true; the input reads as it did. -/
def extentsBlocksUptoRow : OpenClaim := { program := "ytahlhdhljjpeoaa", sum := "731d9fcc3ba7569bf6f354d8d4dbc4612990bfe64c6da9b121d83c95bbc65d9a", func := "ledgerstone/ledgerstonelaw25.ExtentsBlocks", spec := "extentsBlocks", inPlace := ["slices.overlaps[ledgerstone/api.Extent]"], unfollowed := true, recurses := true, apart := false, narrowed := true }
def ExtentsBlocksUptoSaid : Prop := extentsBlocksUptoRow.holds Try.pinned (OpenSpec.upto extentsBlocksSpec)

/-- 'ledgerstonelaw24.BitsOnce', WHERE WHAT IT READS IS OF BULK AT MOST 1048576: true; the input reads as it did. -/
def bitsOnceUptoRow : OpenClaim := { program := "ytahlhdhljjpeoaa", sum := "731d9fcc3ba7569bf6f354d8d4dbc4612990bfe64c6da9b121d83c95bbc65d9a", func := "ledgerstone/ledgerstonelaw24.BitsOnce", spec := "bitsOnce", unfollowed := true, recurses := true, apart := false, narrowed := true }
def BitsOnceUptoSaid : Prop := bitsOnceUptoRow.holds Try.pinned (OpenSpec.upto bitsOnceSpec)

/-- 'ledgerstonelaw24.BitsNumbers', WHERE WHAT IT READS IS OF BULK AT MOST 1048576: true; the input reads as it did. -/
def bitsNumbersUptoRow : OpenClaim := { program := "ytahlhdhljjpeoaa", sum := "731d9fcc3ba7569bf6f354d8d4dbc4612990bfe64c6da9b121d83c95bbc65d9a", func := "ledgerstone/ledgerstonelaw24.BitsNumbers", spec := "bitsNumbers", unfollowed := true, recurses := true, apart := false, narrowed := true }
def BitsNumbersUptoSaid : Prop := bitsNumbersUptoRow.holds Try.pinned (OpenSpec.upto bitsNumbersSpec)

/-- 'ledgerstonelaw24.BitsPlays', WHERE WHAT IT READS IS OF BULK AT MOST 1048576: true; the input reads as it did. -/
def bitsPlaysUptoRow : OpenClaim := { program := "ytahlhdhljjpeoaa", sum := "731d9fcc3ba7569bf6f354d8d4dbc4612990bfe64c6da9b121d83c95bbc65d9a", func := "ledgerstone/ledgerstonelaw24.BitsPlays", spec := "bitsPlays", unfollowed := true, recurses := true, apart := false, narrowed := true }
def BitsPlaysUptoSaid : Prop := bitsPlaysUptoRow.holds Try.pinned (OpenSpec.upto bitsPlaysSpec)

/-- 'ledgerstonelaw24.BitsErrors', WHERE WHAT IT READS IS OF BULK AT MOST 1048576: true; the input reads as it did. -/
def bitsErrorsUptoRow : OpenClaim := { program := "ytahlhdhljjpeoaa", sum := "731d9fcc3ba7569bf6f354d8d4dbc4612990bfe64c6da9b121d83c95bbc65d9a", func := "ledgerstone/ledgerstonelaw24.BitsErrors", spec := "bitsErrors", unfollowed := true, recurses := true, apart := false, narrowed := true }
def BitsErrorsUptoSaid : Prop := bitsErrorsUptoRow.holds Try.pinned (OpenSpec.upto bitsErrorsSpec)

/-- 'ledgerstonelaw24.BitsInodes', WHERE WHAT IT READS IS OF BULK AT MOST 1048576: true; the input reads as it did. -/
def bitsInodesUptoRow : OpenClaim := { program := "ytahlhdhljjpeoaa", sum := "731d9fcc3ba7569bf6f354d8d4dbc4612990bfe64c6da9b121d83c95bbc65d9a", func := "ledgerstone/ledgerstonelaw24.BitsInodes", spec := "bitsInodes", unfollowed := true, recurses := true, apart := false, narrowed := true }
def BitsInodesUptoSaid : Prop := bitsInodesUptoRow.holds Try.pinned (OpenSpec.upto bitsInodesSpec)

/-- 'ledgerstonelaw25.ExtentsKeeps', WHERE WHAT IT READS IS OF BULK AT MOST 1048576: true; the input reads as it did. -/
def extentsKeepsUptoRow : OpenClaim := { program := "ytahlhdhljjpeoaa", sum := "731d9fcc3ba7569bf6f354d8d4dbc4612990bfe64c6da9b121d83c95bbc65d9a", func := "ledgerstone/ledgerstonelaw25.ExtentsKeeps", spec := "extentsKeeps", inPlace := ["slices.overlaps[ledgerstone/api.Extent]"], unfollowed := true, recurses := true, apart := false, narrowed := true }
def ExtentsKeepsUptoSaid : Prop := extentsKeepsUptoRow.holds Try.pinned (OpenSpec.upto extentsKeepsSpec)

/-- 'ledgerstonelaw25.ExtentsBack', WHERE WHAT IT READS IS OF BULK AT MOST 1048576: true; the input reads as it did. -/
def extentsBackUptoRow : OpenClaim := { program := "ytahlhdhljjpeoaa", sum := "731d9fcc3ba7569bf6f354d8d4dbc4612990bfe64c6da9b121d83c95bbc65d9a", func := "ledgerstone/ledgerstonelaw25.ExtentsBack", spec := "extentsBack", inPlace := ["slices.overlaps[ledgerstone/api.Extent]"], unfollowed := true, recurses := true, apart := false, narrowed := true }
def ExtentsBackUptoSaid : Prop := extentsBackUptoRow.holds Try.pinned (OpenSpec.upto extentsBackSpec)

/-- 'ledgerstonelaw25.ExtentsNumbers', WHERE WHAT IT READS IS OF BULK AT MOST 1048576: true; the input reads as it did. -/
def extentsNumbersUptoRow : OpenClaim := { program := "ytahlhdhljjpeoaa", sum := "731d9fcc3ba7569bf6f354d8d4dbc4612990bfe64c6da9b121d83c95bbc65d9a", func := "ledgerstone/ledgerstonelaw25.ExtentsNumbers", spec := "extentsNumbers", inPlace := ["slices.overlaps[ledgerstone/api.Extent]"], unfollowed := true, recurses := true, apart := false, narrowed := true }
def ExtentsNumbersUptoSaid : Prop := extentsNumbersUptoRow.holds Try.pinned (OpenSpec.upto extentsNumbersSpec)

end Rows
end Go.Proofs.Ytahlhdhljjpeoaa
