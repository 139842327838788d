/-
  No cell of these rows narrows 'for every input' (looked for: loops, veiled, ifaces, maps, wideKeys, modest, calm, conditions, laid).
  DERIVED. THE GIVEN ROWS OF THIS SEAT. 3 by the template 'for every input the law returns true; each argument reads behind the call as it read before'; 0 by the template 'total and deterministic' (their statements: YtcpfdkmdhpclkaaTotals.lean).
  GIVEN WITH THE SEED: the statements are not yours to turn. If you find one false, say at which input.
  Laid BY PROGRAM, IN A SANDBOX (cutbox-rows.mjs): the forced cells as the released guide's own fill.sh prints them over the translation c0e42d0e7c18a6ff… (all of the seat's roots in one cut). By AI agents, Wed Nov 11 2026. No macro, syntax, notation, axiom, sorry.
-/
import Derived.Test.YtcpfdkmdhpclkaaChecked
import GoSem.Claim
import GoSem.ClaimJoined
import GoSem.ClaimMapViews
import Derived.JoinedTies
import Derived.KernelRfl
namespace Go.Proofs.Ytcpfdkmdhpclkaa
/- THE CELL 'sum', in the pinned program and in every row, IS THE sha256 OF THE DUMP (.gsa) THAT YtcpfdkmdhpclkaaProg.lean LOADS. Nothing in Lean hashes anything: it is a label: what it is worth is what the hold of that sum in a sandbox is worth. -/
noncomputable def Try.pinned : Pinned := { name := "ytcpfdkmdhpclkaa", sum := "c0e42d0e7c18a6ff64ffa4232a8377bfe94ce2d7af3f87e5fa5cfa9614f3acc1", checked := Try.checked }
namespace Rows
def none {H : Type} : Left H := { results := [], args := [] }

/-- 'spacecraftlaw55.TrackerOverdue': WHATEVER THE INPUT: true; the input reads as it did. -/
def trackerOverdueSpec : ChangeSpec := { name := "trackerOverdue", fn := fun _ => fun
  | [d1, d2, d3] => { results := [.lit (.bool true)], args := [d1, d2, d3] }
  | _ => none }
def trackerOverdueRow : OpenClaim := { program := "ytcpfdkmdhpclkaa", sum := "c0e42d0e7c18a6ff64ffa4232a8377bfe94ce2d7af3f87e5fa5cfa9614f3acc1", func := "spacecraft/spacecraftlaw55.TrackerOverdue", spec := "trackerOverdue", apart := false }
def TrackerOverdueSaid : Prop := trackerOverdueRow.holds Try.pinned (OpenSpec.ofChange trackerOverdueSpec)

/-- ITS FALSE NEIGHBOUR: 'it returns false'. Refute it at one input. -/
def trackerOverdueWrong : ChangeSpec := { name := "trackerOverdue", fn := fun _ => fun
  | [d1, d2, d3] => { results := [.lit (.bool false)], args := [d1, d2, d3] }
  | _ => none }
def TrackerOverdueWrongFalsely : Prop := trackerOverdueRow.holds Try.pinned (OpenSpec.ofChange trackerOverdueWrong)

/-- 'spacecraftlaw55.TrackerFollows': WHATEVER THE INPUT: true; the input reads as it did. -/
def trackerFollowsSpec : ChangeSpec := { name := "trackerFollows", fn := fun _ => fun
  | [d] => { results := [.lit (.bool true)], args := [d] }
  | _ => none }
def trackerFollowsRow : OpenClaim := { program := "ytcpfdkmdhpclkaa", sum := "c0e42d0e7c18a6ff64ffa4232a8377bfe94ce2d7af3f87e5fa5cfa9614f3acc1", func := "spacecraft/spacecraftlaw55.TrackerFollows", spec := "trackerFollows", apart := false }
def TrackerFollowsSaid : Prop := trackerFollowsRow.holds Try.pinned (OpenSpec.ofChange trackerFollowsSpec)

/-- ITS FALSE NEIGHBOUR: 'it returns false'. Refute it at one input. -/
def trackerFollowsWrong : ChangeSpec := { name := "trackerFollows", fn := fun _ => fun
  | [d] => { results := [.lit (.bool false)], args := [d] }
  | _ => none }
def TrackerFollowsWrongFalsely : Prop := trackerFollowsRow.holds Try.pinned (OpenSpec.ofChange trackerFollowsWrong)

/-- 'spacecraftlaw55.TrackerNone': WHATEVER THE INPUT: true; the input reads as it did. -/
def trackerNoneSpec : ChangeSpec := { name := "trackerNone", fn := fun _ => fun
  | [d1, d2] => { results := [.lit (.bool true)], args := [d1, d2] }
  | _ => none }
def trackerNoneRow : OpenClaim := { program := "ytcpfdkmdhpclkaa", sum := "c0e42d0e7c18a6ff64ffa4232a8377bfe94ce2d7af3f87e5fa5cfa9614f3acc1", func := "spacecraft/spacecraftlaw55.TrackerNone", spec := "trackerNone", apart := false }
def TrackerNoneSaid : Prop := trackerNoneRow.holds Try.pinned (OpenSpec.ofChange trackerNoneSpec)

/-- ITS FALSE NEIGHBOUR: 'it returns false'. Refute it at one input. -/
def trackerNoneWrong : ChangeSpec := { name := "trackerNone", fn := fun _ => fun
  | [d1, d2] => { results := [.lit (.bool false)], args := [d1, d2] }
  | _ => none }
def TrackerNoneWrongFalsely : Prop := trackerNoneRow.holds Try.pinned (OpenSpec.ofChange trackerNoneWrong)

/- THE SECOND FORM. 'bulk': how many values and letters a reading holds, each counted each time it is reached (what is shared counts as often as it is met; a slice's spare places count too). A statement '..UptoSaid' is the law's where the arguments, and the package variables that the reading takes, are together of bulk at most 1048576: NARROWER than '..Said'. Prove '..Said' where nothing that the law and all that it calls make is longer than what came in: it says more and counts as full. Else prove '..UptoSaid'. A law counts once. -/
mutual
def uptoBulk {H : Type} : DataW H → Nat
  | .lit (.string bytes) => bytes.length + 1
  | .lit _ => 1
  | .nil => 1
  | .ptr d => uptoBulk d + 1
  | .slice elems spare => uptoBulkAll elems + uptoBulkAll spare + 1
  | .agg parts => uptoBulkAll parts + 1
  | .iface _ d => uptoBulk d + 1
  | .map entries => uptoBulkEntries entries + 1
  | .held _ => 1
def uptoBulkAll {H : Type} : List (DataW H) → Nat
  | [] => 0
  | d :: r => uptoBulk d + uptoBulkAll r
def uptoBulkEntries {H : Type} : List (Lit × DataW H) → Nat
  | [] => 0
  | x :: r => uptoBulkEntry x + uptoBulkEntries r
def uptoBulkEntry {H : Type} : Lit × DataW H → Nat
  | (.string bytes, d) => bytes.length + uptoBulk d + 1
  | (_, d) => uptoBulk d + 1
 end
def uptoSmall : (H : Type) → List (DataW H) → Bool := fun _ ds => decide (uptoBulkAll ds ≤ 1048576)
def OpenSpec.upto (s : _root_.Go.ChangeSpec) : _root_.Go.OpenSpec := { _root_.Go.OpenSpec.ofChange s with cond := some uptoSmall }

/-- 'spacecraftlaw55.TrackerOverdue', WHERE WHAT IT READS IS OF BULK AT MOST 1048576: true; the input reads as it did. -/
def trackerOverdueUptoRow : OpenClaim := { program := "ytcpfdkmdhpclkaa", sum := "c0e42d0e7c18a6ff64ffa4232a8377bfe94ce2d7af3f87e5fa5cfa9614f3acc1", func := "spacecraft/spacecraftlaw55.TrackerOverdue", spec := "trackerOverdue", apart := false, narrowed := true }
def TrackerOverdueUptoSaid : Prop := trackerOverdueUptoRow.holds Try.pinned (OpenSpec.upto trackerOverdueSpec)

/-- 'spacecraftlaw55.TrackerFollows', WHERE WHAT IT READS IS OF BULK AT MOST 1048576: true; the input reads as it did. -/
def trackerFollowsUptoRow : OpenClaim := { program := "ytcpfdkmdhpclkaa", sum := "c0e42d0e7c18a6ff64ffa4232a8377bfe94ce2d7af3f87e5fa5cfa9614f3acc1", func := "spacecraft/spacecraftlaw55.TrackerFollows", spec := "trackerFollows", apart := false, narrowed := true }
def TrackerFollowsUptoSaid : Prop := trackerFollowsUptoRow.holds Try.pinned (OpenSpec.upto trackerFollowsSpec)

/-- 'spacecraftlaw55.TrackerNone', WHERE WHAT IT READS IS OF BULK AT MOST 1048576: true; the input reads as it did. -/
def trackerNoneUptoRow : OpenClaim := { program := "ytcpfdkmdhpclkaa", sum := "c0e42d0e7c18a6ff64ffa4232a8377bfe94ce2d7af3f87e5fa5cfa9614f3acc1", func := "spacecraft/spacecraftlaw55.TrackerNone", spec := "trackerNone", apart := false, narrowed := true }
def TrackerNoneUptoSaid : Prop := trackerNoneUptoRow.holds Try.pinned (OpenSpec.upto trackerNoneSpec)

end Rows
end Go.Proofs.Ytcpfdkmdhpclkaa
