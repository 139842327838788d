/-
  No cell of these rows narrows 'for every input' (looked for: loops, veiled, ifaces, maps, wideKeys, modest, calm, conditions, laid).
  DERIVED. THE GIVEN ROWS OF THIS SEAT. 3 by the template 'for every input the law returns true; each argument reads behind the call as it read before'; 0 by the template 'total and deterministic' (their statements: YtfkbcflgbjncdaaTotals.lean).
  GIVEN WITH THE SEED: the statements are not yours to turn. If you find one false, say at which input.
  Laid BY PROGRAM, IN A SANDBOX (cutbox-rows.mjs): the forced cells as the released guide's own fill.sh prints them over the translation 3f52c638220b23ad… (all of the seat's roots in one cut). By AI agents, Wed Nov 11 2026. No macro, syntax, notation, axiom, sorry.
-/
import Derived.Test.YtfkbcflgbjncdaaChecked
import GoSem.Claim
import GoSem.ClaimJoined
import GoSem.ClaimMapViews
import Derived.JoinedTies
import Derived.KernelRfl
namespace Go.Proofs.Ytfkbcflgbjncdaa
/- THE CELL 'sum', in the pinned program and in every row, IS THE sha256 OF THE DUMP (.gsa) THAT YtfkbcflgbjncdaaProg.lean LOADS. Nothing in Lean hashes anything: it is a label: what it is worth is what the hold of that sum in a sandbox is worth. -/
noncomputable def Try.pinned : Pinned := { name := "ytfkbcflgbjncdaa", sum := "3f52c638220b23adaee4034905fa69f911278bc92eaef7e5a5c2342cd1b37786", checked := Try.checked }
namespace Rows
def none {H : Type} : Left H := { results := [], args := [] }

/-- 'spacecrafttop.TopReports': WHATEVER THE INPUT: true; the input reads as it did. -/
def topReportsSpec : ChangeSpec := { name := "topReports", fn := fun _ => fun
  | [d] => { results := [.lit (.bool true)], args := [d] }
  | _ => none }
def topReportsRow : OpenClaim := { program := "ytfkbcflgbjncdaa", sum := "3f52c638220b23adaee4034905fa69f911278bc92eaef7e5a5c2342cd1b37786", func := "spacecraft/spacecrafttop.TopReports", spec := "topReports", apart := false }
def TopReportsSaid : Prop := topReportsRow.holds Try.pinned (OpenSpec.ofChange topReportsSpec)

/-- ITS FALSE NEIGHBOUR: 'it returns false'. Refute it at one input. -/
def topReportsWrong : ChangeSpec := { name := "topReports", fn := fun _ => fun
  | [d] => { results := [.lit (.bool false)], args := [d] }
  | _ => none }
def TopReportsWrongFalsely : Prop := topReportsRow.holds Try.pinned (OpenSpec.ofChange topReportsWrong)

/-- 'spacecrafttop.TopCheckpoint': WHATEVER THE INPUT: true; the input reads as it did. -/
def topCheckpointSpec : ChangeSpec := { name := "topCheckpoint", fn := fun _ => fun
  | [d1, d2, d3] => { results := [.lit (.bool true)], args := [d1, d2, d3] }
  | _ => none }
def topCheckpointRow : OpenClaim := { program := "ytfkbcflgbjncdaa", sum := "3f52c638220b23adaee4034905fa69f911278bc92eaef7e5a5c2342cd1b37786", func := "spacecraft/spacecrafttop.TopCheckpoint", spec := "topCheckpoint", apart := false }
def TopCheckpointSaid : Prop := topCheckpointRow.holds Try.pinned (OpenSpec.ofChange topCheckpointSpec)

/-- ITS FALSE NEIGHBOUR: 'it returns false'. Refute it at one input. -/
def topCheckpointWrong : ChangeSpec := { name := "topCheckpoint", fn := fun _ => fun
  | [d1, d2, d3] => { results := [.lit (.bool false)], args := [d1, d2, d3] }
  | _ => none }
def TopCheckpointWrongFalsely : Prop := topCheckpointRow.holds Try.pinned (OpenSpec.ofChange topCheckpointWrong)

/-- 'spacecrafttop.TopTransfer': WHATEVER THE INPUT: true; the input reads as it did. -/
def topTransferSpec : ChangeSpec := { name := "topTransfer", fn := fun _ => fun
  | [d] => { results := [.lit (.bool true)], args := [d] }
  | _ => none }
def topTransferRow : OpenClaim := { program := "ytfkbcflgbjncdaa", sum := "3f52c638220b23adaee4034905fa69f911278bc92eaef7e5a5c2342cd1b37786", func := "spacecraft/spacecrafttop.TopTransfer", spec := "topTransfer", unfollowed := true, recurses := true, apart := false }
def TopTransferSaid : Prop := topTransferRow.holds Try.pinned (OpenSpec.ofChange topTransferSpec)

/-- ITS FALSE NEIGHBOUR: 'it returns false'. Refute it at one input. -/
def topTransferWrong : ChangeSpec := { name := "topTransfer", fn := fun _ => fun
  | [d] => { results := [.lit (.bool false)], args := [d] }
  | _ => none }
def TopTransferWrongFalsely : Prop := topTransferRow.holds Try.pinned (OpenSpec.ofChange topTransferWrong)

/- THE SECOND FORM. 'bulk': how many values and letters a reading holds, each counted each time it is reached (what is shared counts as often as it is met; a slice's spare places count too). A statement '..UptoSaid' is the law's where the arguments, and the package variables that the reading takes, are together of bulk at most 1048576: NARROWER than '..Said'. Prove '..Said' where nothing that the law and all that it calls make is longer than what came in: it says more and counts as full. Else prove '..UptoSaid'. A law counts once. -/
mutual
def uptoBulk {H : Type} : DataW H → Nat
  | .lit (.string bytes) => bytes.length + 1
  | .lit _ => 1
  | .nil => 1
  | .ptr d => uptoBulk d + 1
  | .slice elems spare => uptoBulkAll elems + uptoBulkAll spare + 1
  | .agg parts => uptoBulkAll parts + 1
  | .iface _ d => uptoBulk d + 1
  | .map entries => uptoBulkEntries entries + 1
  | .held _ => 1
def uptoBulkAll {H : Type} : List (DataW H) → Nat
  | [] => 0
  | d :: r => uptoBulk d + uptoBulkAll r
def uptoBulkEntries {H : Type} : List (Lit × DataW H) → Nat
  | [] => 0
  | x :: r => uptoBulkEntry x + uptoBulkEntries r
def uptoBulkEntry {H : Type} : Lit × DataW H → Nat
  | (.string bytes, d) => bytes.length + uptoBulk d + 1
  | (_, d) => uptoBulk d + 1
 end
def uptoSmall : (H : Type) → List (DataW H) → Bool := fun _ ds => decide (uptoBulkAll ds ≤ 1048576)
def OpenSpec.upto (s : _root_.Go.ChangeSpec) : _root_.Go.OpenSpec := { _root_.Go.OpenSpec.ofChange s with cond := some uptoSmall }

/-- 'spacecrafttop.TopReports', WHERE WHAT IT READS IS OF BULK AT MOST 1048576: true; the input reads as it did. -/
def topReportsUptoRow : OpenClaim := { program := "ytfkbcflgbjncdaa", sum := "3f52c638220b23adaee4034905fa69f911278bc92eaef7e5a5c2342cd1b37786", func := "spacecraft/spacecrafttop.TopReports", spec := "topReports", apart := false, narrowed := true }
def TopReportsUptoSaid : Prop := topReportsUptoRow.holds Try.pinned (OpenSpec.upto topReportsSpec)

/-- 'spacecrafttop.TopCheckpoint', WHERE WHAT IT READS IS OF BULK AT MOST 1048576: true; the input reads as it did. -/
def topCheckpointUptoRow : OpenClaim := { program := "ytfkbcflgbjncdaa", sum := "3f52c638220b23adaee4034905fa69f911278bc92eaef7e5a5c2342cd1b37786", func := "spacecraft/spacecrafttop.TopCheckpoint", spec := "topCheckpoint", apart := false, narrowed := true }
def TopCheckpointUptoSaid : Prop := topCheckpointUptoRow.holds Try.pinned (OpenSpec.upto topCheckpointSpec)

/-- 'spacecrafttop.TopTransfer', WHERE WHAT IT READS IS OF BULK AT MOST 1048576: true; the input reads as it did. -/
def topTransferUptoRow : OpenClaim := { program := "ytfkbcflgbjncdaa", sum := "3f52c638220b23adaee4034905fa69f911278bc92eaef7e5a5c2342cd1b37786", func := "spacecraft/spacecrafttop.TopTransfer", spec := "topTransfer", unfollowed := true, recurses := true, apart := false, narrowed := true }
def TopTransferUptoSaid : Prop := topTransferUptoRow.holds Try.pinned (OpenSpec.upto topTransferSpec)

end Rows
end Go.Proofs.Ytfkbcflgbjncdaa
