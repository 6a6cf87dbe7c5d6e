/-
  No cell of these rows narrows 'for every input' (looked for: loops, veiled, ifaces, maps, wideKeys, modest, calm, conditions, laid).
  DERIVED. THE GIVEN ROWS OF THIS SEAT. 6 by the template 'for every input the law returns true; each argument reads behind the call as it read before'; 0 by the template 'total and deterministic' (their statements: YtjblpejekcbokaaTotals.lean).
  GIVEN WITH THE SEED: the statements are not yours to turn. If you find one false, say at which input.
  Laid BY PROGRAM, IN A SANDBOX (cutbox-rows.mjs): the forced cells as the released guide's own fill.sh prints them over the translation c0f35e0ca07893c2… (all of the seat's roots in one cut). By AI agents, Wed Nov 11 2026. No macro, syntax, notation, axiom, sorry.
-/
import Derived.Test.YtjblpejekcbokaaChecked
import GoSem.Claim
import GoSem.ClaimJoined
import GoSem.ClaimMapViews
import Derived.JoinedTies
import Derived.KernelRfl
namespace Go.Proofs.Ytjblpejekcbokaa
/- THE CELL 'sum', in the pinned program and in every row, IS THE sha256 OF THE DUMP (.gsa) THAT YtjblpejekcbokaaProg.lean LOADS. Nothing in Lean hashes anything: it is a label: what it is worth is what the hold of that sum in a sandbox is worth. -/
noncomputable def Try.pinned : Pinned := { name := "ytjblpejekcbokaa", sum := "c0f35e0ca07893c2260074fde7f468e9fd6e89f8e39b629998889c226f7012a4", checked := Try.checked }
namespace Rows
def none {H : Type} : Left H := { results := [], args := [] }

/-- 'ledgerstonelaw03.SuperTells': WHATEVER THE INPUT: true; the input reads as it did. -/
def superTellsSpec : ChangeSpec := { name := "superTells", fn := fun _ => fun
  | [d1, d2, d3] => { results := [.lit (.bool true)], args := [d1, d2, d3] }
  | _ => none }
def superTellsRow : OpenClaim := { program := "ytjblpejekcbokaa", sum := "c0f35e0ca07893c2260074fde7f468e9fd6e89f8e39b629998889c226f7012a4", func := "ledgerstone/ledgerstonelaw03.SuperTells", spec := "superTells", unfollowed := true, recurses := true, apart := false }
def SuperTellsSaid : Prop := superTellsRow.holds Try.pinned (OpenSpec.ofChange superTellsSpec)

/-- ITS FALSE NEIGHBOUR: 'it returns false'. Refute it at one input. -/
def superTellsWrong : ChangeSpec := { name := "superTells", fn := fun _ => fun
  | [d1, d2, d3] => { results := [.lit (.bool false)], args := [d1, d2, d3] }
  | _ => none }
def SuperTellsWrongFalsely : Prop := superTellsRow.holds Try.pinned (OpenSpec.ofChange superTellsWrong)

/-- 'ledgerstonelaw03.SuperBursts': WHATEVER THE INPUT: true; the input reads as it did. -/
def superBurstsSpec : ChangeSpec := { name := "superBursts", fn := fun _ => fun
  | [d1, d2, d3, d4] => { results := [.lit (.bool true)], args := [d1, d2, d3, d4] }
  | _ => none }
def superBurstsRow : OpenClaim := { program := "ytjblpejekcbokaa", sum := "c0f35e0ca07893c2260074fde7f468e9fd6e89f8e39b629998889c226f7012a4", func := "ledgerstone/ledgerstonelaw03.SuperBursts", spec := "superBursts", unfollowed := true, recurses := true, apart := false }
def SuperBurstsSaid : Prop := superBurstsRow.holds Try.pinned (OpenSpec.ofChange superBurstsSpec)

/-- ITS FALSE NEIGHBOUR: 'it returns false'. Refute it at one input. -/
def superBurstsWrong : ChangeSpec := { name := "superBursts", fn := fun _ => fun
  | [d1, d2, d3, d4] => { results := [.lit (.bool false)], args := [d1, d2, d3, d4] }
  | _ => none }
def SuperBurstsWrongFalsely : Prop := superBurstsRow.holds Try.pinned (OpenSpec.ofChange superBurstsWrong)

/-- 'ledgerstonelaw03.SuperNumbers': WHATEVER THE INPUT: true; the input reads as it did. -/
def superNumbersSpec : ChangeSpec := { name := "superNumbers", fn := fun _ => fun
  | [] => { results := [.lit (.bool true)], args := [] }
  | _ => none }
def superNumbersRow : OpenClaim := { program := "ytjblpejekcbokaa", sum := "c0f35e0ca07893c2260074fde7f468e9fd6e89f8e39b629998889c226f7012a4", func := "ledgerstone/ledgerstonelaw03.SuperNumbers", spec := "superNumbers", unfollowed := true, recurses := true, apart := false }
def SuperNumbersSaid : Prop := superNumbersRow.holds Try.pinned (OpenSpec.ofChange superNumbersSpec)

/-- ITS FALSE NEIGHBOUR: 'it returns false'. Refute it at one input. -/
def superNumbersWrong : ChangeSpec := { name := "superNumbers", fn := fun _ => fun
  | [] => { results := [.lit (.bool false)], args := [] }
  | _ => none }
def SuperNumbersWrongFalsely : Prop := superNumbersRow.holds Try.pinned (OpenSpec.ofChange superNumbersWrong)

/-- 'ledgerstonelaw03.SuperReads': WHATEVER THE INPUT: true; the input reads as it did. -/
def superReadsSpec : ChangeSpec := { name := "superReads", fn := fun _ => fun
  | [d] => { results := [.lit (.bool true)], args := [d] }
  | _ => none }
def superReadsRow : OpenClaim := { program := "ytjblpejekcbokaa", sum := "c0f35e0ca07893c2260074fde7f468e9fd6e89f8e39b629998889c226f7012a4", func := "ledgerstone/ledgerstonelaw03.SuperReads", spec := "superReads", unfollowed := true, recurses := true, apart := false }
def SuperReadsSaid : Prop := superReadsRow.holds Try.pinned (OpenSpec.ofChange superReadsSpec)

/-- ITS FALSE NEIGHBOUR: 'it returns false'. Refute it at one input. -/
def superReadsWrong : ChangeSpec := { name := "superReads", fn := fun _ => fun
  | [d] => { results := [.lit (.bool false)], args := [d] }
  | _ => none }
def SuperReadsWrongFalsely : Prop := superReadsRow.holds Try.pinned (OpenSpec.ofChange superReadsWrong)

/-- 'ledgerstonelaw03.SuperBack': WHATEVER THE INPUT: true; the input reads as it did. -/
def superBackSpec : ChangeSpec := { name := "superBack", fn := fun _ => fun
  | [d1, d2, d3, d4] => { results := [.lit (.bool true)], args := [d1, d2, d3, d4] }
  | _ => none }
def superBackRow : OpenClaim := { program := "ytjblpejekcbokaa", sum := "c0f35e0ca07893c2260074fde7f468e9fd6e89f8e39b629998889c226f7012a4", func := "ledgerstone/ledgerstonelaw03.SuperBack", spec := "superBack", unfollowed := true, recurses := true, apart := false }
def SuperBackSaid : Prop := superBackRow.holds Try.pinned (OpenSpec.ofChange superBackSpec)

/-- ITS FALSE NEIGHBOUR: 'it returns false'. Refute it at one input. -/
def superBackWrong : ChangeSpec := { name := "superBack", fn := fun _ => fun
  | [d1, d2, d3, d4] => { results := [.lit (.bool false)], args := [d1, d2, d3, d4] }
  | _ => none }
def SuperBackWrongFalsely : Prop := superBackRow.holds Try.pinned (OpenSpec.ofChange superBackWrong)

/-- 'ledgerstonelaw03.SuperSpares': WHATEVER THE INPUT: true; the input reads as it did. -/
def superSparesSpec : ChangeSpec := { name := "superSpares", fn := fun _ => fun
  | [d1, d2] => { results := [.lit (.bool true)], args := [d1, d2] }
  | _ => none }
def superSparesRow : OpenClaim := { program := "ytjblpejekcbokaa", sum := "c0f35e0ca07893c2260074fde7f468e9fd6e89f8e39b629998889c226f7012a4", func := "ledgerstone/ledgerstonelaw03.SuperSpares", spec := "superSpares", unfollowed := true, recurses := true, apart := false }
def SuperSparesSaid : Prop := superSparesRow.holds Try.pinned (OpenSpec.ofChange superSparesSpec)

/-- ITS FALSE NEIGHBOUR: 'it returns false'. Refute it at one input. -/
def superSparesWrong : ChangeSpec := { name := "superSpares", fn := fun _ => fun
  | [d1, d2] => { results := [.lit (.bool false)], args := [d1, d2] }
  | _ => none }
def SuperSparesWrongFalsely : Prop := superSparesRow.holds Try.pinned (OpenSpec.ofChange superSparesWrong)

/- THE SECOND FORM. 'bulk': how many values and letters a reading holds, each counted each time it is reached (what is shared counts as often as it is met; a slice's spare places count too). A statement '..UptoSaid' is the law's where the arguments, and the package variables that the reading takes, are together of bulk at most 1048576: NARROWER than '..Said'. Prove '..Said' where nothing that the law and all that it calls make is longer than what came in: it says more and counts as full. Else prove '..UptoSaid'. A law counts once. -/
mutual
def uptoBulk {H : Type} : DataW H → Nat
  | .lit (.string bytes) => bytes.length + 1
  | .lit _ => 1
  | .nil => 1
  | .ptr d => uptoBulk d + 1
  | .slice elems spare => uptoBulkAll elems + uptoBulkAll spare + 1
  | .agg parts => uptoBulkAll parts + 1
  | .iface _ d => uptoBulk d + 1
  | .map entries => uptoBulkEntries entries + 1
  | .held _ => 1
def uptoBulkAll {H : Type} : List (DataW H) → Nat
  | [] => 0
  | d :: r => uptoBulk d + uptoBulkAll r
def uptoBulkEntries {H : Type} : List (Lit × DataW H) → Nat
  | [] => 0
  | x :: r => uptoBulkEntry x + uptoBulkEntries r
def uptoBulkEntry {H : Type} : Lit × DataW H → Nat
  | (.string bytes, d) => bytes.length + uptoBulk d + 1
  | (_, d) => uptoBulk d + 1
 end
def uptoSmall : (H : Type) → List (DataW H) → Bool := fun _ ds => decide (uptoBulkAll ds ≤ 1048576)
def OpenSpec.upto (s : _root_.Go.ChangeSpec) : _root_.Go.OpenSpec := { _root_.Go.OpenSpec.ofChange s with cond := some uptoSmall }

/-- 'ledgerstonelaw03.SuperTells', WHERE WHAT IT READS IS OF BULK AT MOST 1048576: true; the input reads as it did. -/
def superTellsUptoRow : OpenClaim := { program := "ytjblpejekcbokaa", sum := "c0f35e0ca07893c2260074fde7f468e9fd6e89f8e39b629998889c226f7012a4", func := "ledgerstone/ledgerstonelaw03.SuperTells", spec := "superTells", unfollowed := true, recurses := true, apart := false, narrowed := true }
def SuperTellsUptoSaid : Prop := superTellsUptoRow.holds Try.pinned (OpenSpec.upto superTellsSpec)

/-- 'ledgerstonelaw03.SuperBursts', WHERE WHAT IT READS IS OF BULK AT MOST 1048576: true; the input reads as it did. -/
def superBurstsUptoRow : OpenClaim := { program := "ytjblpejekcbokaa", sum := "c0f35e0ca07893c2260074fde7f468e9fd6e89f8e39b629998889c226f7012a4", func := "ledgerstone/ledgerstonelaw03.SuperBursts", spec := "superBursts", unfollowed := true, recurses := true, apart := false, narrowed := true }
def SuperBurstsUptoSaid : Prop := superBurstsUptoRow.holds Try.pinned (OpenSpec.upto superBurstsSpec)

/-- 'ledgerstonelaw03.SuperNumbers', WHERE WHAT IT READS IS OF BULK AT MOST 1048576: true; the input reads as it did. -/
def superNumbersUptoRow : OpenClaim := { program := "ytjblpejekcbokaa", sum := "c0f35e0ca07893c2260074fde7f468e9fd6e89f8e39b629998889c226f7012a4", func := "ledgerstone/ledgerstonelaw03.SuperNumbers", spec := "superNumbers", unfollowed := true, recurses := true, apart := false, narrowed := true }
def SuperNumbersUptoSaid : Prop := superNumbersUptoRow.holds Try.pinned (OpenSpec.upto superNumbersSpec)

/-- 'ledgerstonelaw03.SuperReads', WHERE WHAT IT READS IS OF BULK AT MOST 1048576: true; the input reads as it did. -/
def superReadsUptoRow : OpenClaim := { program := "ytjblpejekcbokaa", sum := "c0f35e0ca07893c2260074fde7f468e9fd6e89f8e39b629998889c226f7012a4", func := "ledgerstone/ledgerstonelaw03.SuperReads", spec := "superReads", unfollowed := true, recurses := true, apart := false, narrowed := true }
def SuperReadsUptoSaid : Prop := superReadsUptoRow.holds Try.pinned (OpenSpec.upto superReadsSpec)

/-- 'ledgerstonelaw03.SuperBack', WHERE WHAT IT READS IS OF BULK AT MOST 1048576: true; the input reads as it did. -/
def superBackUptoRow : OpenClaim := { program := "ytjblpejekcbokaa", sum := "c0f35e0ca07893c2260074fde7f468e9fd6e89f8e39b629998889c226f7012a4", func := "ledgerstone/ledgerstonelaw03.SuperBack", spec := "superBack", unfollowed := true, recurses := true, apart := false, narrowed := true }
def SuperBackUptoSaid : Prop := superBackUptoRow.holds Try.pinned (OpenSpec.upto superBackSpec)

/-- 'ledgerstonelaw03.SuperSpares', WHERE WHAT IT READS IS OF BULK AT MOST 1048576: true; the input reads as it did. -/
def superSparesUptoRow : OpenClaim := { program := "ytjblpejekcbokaa", sum := "c0f35e0ca07893c2260074fde7f468e9fd6e89f8e39b629998889c226f7012a4", func := "ledgerstone/ledgerstonelaw03.SuperSpares", spec := "superSpares", unfollowed := true, recurses := true, apart := false, narrowed := true }
def SuperSparesUptoSaid : Prop := superSparesUptoRow.holds Try.pinned (OpenSpec.upto superSparesSpec)

end Rows
end Go.Proofs.Ytjblpejekcbokaa
