/-
  No cell of these rows narrows 'for every input' (looked for: loops, veiled, ifaces, maps, wideKeys, modest, calm, conditions, laid).
  DERIVED. THE GIVEN ROWS OF THIS SEAT. 5 by the template 'for every input the law returns true; each argument reads behind the call as it read before'; 0 by the template 'total and deterministic' (their statements: YtdckpamempejgaaTotals.lean).
  GIVEN WITH THE SEED: the statements are not yours to turn. If you find one false, say at which input.
  Laid BY PROGRAM, IN A SANDBOX (cutbox-rows.mjs): the forced cells as the released guide's own fill.sh prints them over the translation eb0d78abb010af07… (all of the seat's roots in one cut). By AI agents, Wed Nov 11 2026. No macro, syntax, notation, axiom, sorry.
-/
import Derived.Test.YtdckpamempejgaaChecked
import GoSem.Claim
import GoSem.ClaimJoined
import GoSem.ClaimMapViews
import Derived.JoinedTies
import Derived.KernelRfl
namespace Go.Proofs.Ytdckpamempejgaa
/- THE CELL 'sum', in the pinned program and in every row, IS THE sha256 OF THE DUMP (.gsa) THAT YtdckpamempejgaaProg.lean LOADS. Nothing in Lean hashes anything: it is a label: what it is worth is what the hold of that sum in a sandbox is worth. -/
noncomputable def Try.pinned : Pinned := { name := "ytdckpamempejgaa", sum := "eb0d78abb010af073215b6708e020d27e6ae4f1389eb1bf103ebd7773cd5e243", checked := Try.checked }
namespace Rows
def none {H : Type} : Left H := { results := [], args := [] }

/-- 'spacecraftlaw38.TimecorrDrifts': WHATEVER THE INPUT: true; the input reads as it did. -/
def timecorrDriftsSpec : ChangeSpec := { name := "timecorrDrifts", fn := fun _ => fun
  | [d] => { results := [.lit (.bool true)], args := [d] }
  | _ => none }
def timecorrDriftsRow : OpenClaim := { program := "ytdckpamempejgaa", sum := "eb0d78abb010af073215b6708e020d27e6ae4f1389eb1bf103ebd7773cd5e243", func := "spacecraft/spacecraftlaw38.TimecorrDrifts", spec := "timecorrDrifts", named := ["math/bits.divideError", "math/bits.overflowError"], apart := false }
def TimecorrDriftsSaid : Prop := timecorrDriftsRow.holds Try.pinned (OpenSpec.ofChange timecorrDriftsSpec)

/-- ITS FALSE NEIGHBOUR: 'it returns false'. Refute it at one input. -/
def timecorrDriftsWrong : ChangeSpec := { name := "timecorrDrifts", fn := fun _ => fun
  | [d] => { results := [.lit (.bool false)], args := [d] }
  | _ => none }
def TimecorrDriftsWrongFalsely : Prop := timecorrDriftsRow.holds Try.pinned (OpenSpec.ofChange timecorrDriftsWrong)

/-- 'spacecraftlaw38.TimecorrFits': WHATEVER THE INPUT: true; the input reads as it did. -/
def timecorrFitsSpec : ChangeSpec := { name := "timecorrFits", fn := fun _ => fun
  | [d1, d2, d3] => { results := [.lit (.bool true)], args := [d1, d2, d3] }
  | _ => none }
def timecorrFitsRow : OpenClaim := { program := "ytdckpamempejgaa", sum := "eb0d78abb010af073215b6708e020d27e6ae4f1389eb1bf103ebd7773cd5e243", func := "spacecraft/spacecraftlaw38.TimecorrFits", spec := "timecorrFits", named := ["math/bits.divideError", "math/bits.overflowError"], apart := false }
def TimecorrFitsSaid : Prop := timecorrFitsRow.holds Try.pinned (OpenSpec.ofChange timecorrFitsSpec)

/-- ITS FALSE NEIGHBOUR: 'it returns false'. Refute it at one input. -/
def timecorrFitsWrong : ChangeSpec := { name := "timecorrFits", fn := fun _ => fun
  | [d1, d2, d3] => { results := [.lit (.bool false)], args := [d1, d2, d3] }
  | _ => none }
def TimecorrFitsWrongFalsely : Prop := timecorrFitsRow.holds Try.pinned (OpenSpec.ofChange timecorrFitsWrong)

/-- 'spacecraftlaw38.TimecorrReturns': WHATEVER THE INPUT: true; the input reads as it did. -/
def timecorrReturnsSpec : ChangeSpec := { name := "timecorrReturns", fn := fun _ => fun
  | [d1, d2, d3] => { results := [.lit (.bool true)], args := [d1, d2, d3] }
  | _ => none }
def timecorrReturnsRow : OpenClaim := { program := "ytdckpamempejgaa", sum := "eb0d78abb010af073215b6708e020d27e6ae4f1389eb1bf103ebd7773cd5e243", func := "spacecraft/spacecraftlaw38.TimecorrReturns", spec := "timecorrReturns", named := ["math/bits.divideError", "math/bits.overflowError"], apart := false }
def TimecorrReturnsSaid : Prop := timecorrReturnsRow.holds Try.pinned (OpenSpec.ofChange timecorrReturnsSpec)

/-- ITS FALSE NEIGHBOUR: 'it returns false'. Refute it at one input. -/
def timecorrReturnsWrong : ChangeSpec := { name := "timecorrReturns", fn := fun _ => fun
  | [d1, d2, d3] => { results := [.lit (.bool false)], args := [d1, d2, d3] }
  | _ => none }
def TimecorrReturnsWrongFalsely : Prop := timecorrReturnsRow.holds Try.pinned (OpenSpec.ofChange timecorrReturnsWrong)

/-- 'spacecraftlaw38.TimecorrConverts': WHATEVER THE INPUT: true; the input reads as it did. -/
def timecorrConvertsSpec : ChangeSpec := { name := "timecorrConverts", fn := fun _ => fun
  | [d1, d2] => { results := [.lit (.bool true)], args := [d1, d2] }
  | _ => none }
def timecorrConvertsRow : OpenClaim := { program := "ytdckpamempejgaa", sum := "eb0d78abb010af073215b6708e020d27e6ae4f1389eb1bf103ebd7773cd5e243", func := "spacecraft/spacecraftlaw38.TimecorrConverts", spec := "timecorrConverts", named := ["math/bits.divideError", "math/bits.overflowError"], apart := false }
def TimecorrConvertsSaid : Prop := timecorrConvertsRow.holds Try.pinned (OpenSpec.ofChange timecorrConvertsSpec)

/-- ITS FALSE NEIGHBOUR: 'it returns false'. Refute it at one input. -/
def timecorrConvertsWrong : ChangeSpec := { name := "timecorrConverts", fn := fun _ => fun
  | [d1, d2] => { results := [.lit (.bool false)], args := [d1, d2] }
  | _ => none }
def TimecorrConvertsWrongFalsely : Prop := timecorrConvertsRow.holds Try.pinned (OpenSpec.ofChange timecorrConvertsWrong)

/-- 'spacecraftlaw38.TimecorrNone': WHATEVER THE INPUT: true; the input reads as it did. -/
def timecorrNoneSpec : ChangeSpec := { name := "timecorrNone", fn := fun _ => fun
  | [d1, d2] => { results := [.lit (.bool true)], args := [d1, d2] }
  | _ => none }
def timecorrNoneRow : OpenClaim := { program := "ytdckpamempejgaa", sum := "eb0d78abb010af073215b6708e020d27e6ae4f1389eb1bf103ebd7773cd5e243", func := "spacecraft/spacecraftlaw38.TimecorrNone", spec := "timecorrNone", named := ["math/bits.divideError", "math/bits.overflowError"], apart := false }
def TimecorrNoneSaid : Prop := timecorrNoneRow.holds Try.pinned (OpenSpec.ofChange timecorrNoneSpec)

/-- ITS FALSE NEIGHBOUR: 'it returns false'. Refute it at one input. -/
def timecorrNoneWrong : ChangeSpec := { name := "timecorrNone", fn := fun _ => fun
  | [d1, d2] => { results := [.lit (.bool false)], args := [d1, d2] }
  | _ => none }
def TimecorrNoneWrongFalsely : Prop := timecorrNoneRow.holds Try.pinned (OpenSpec.ofChange timecorrNoneWrong)

/- THE SECOND FORM. 'bulk': how many values and letters a reading holds, each counted each time it is reached (what is shared counts as often as it is met; a slice's spare places count too). A statement '..UptoSaid' is the law's where the arguments, and the package variables that the reading takes, are together of bulk at most 1048576: NARROWER than '..Said'. Prove '..Said' where nothing that the law and all that it calls make is longer than what came in: it says more and counts as full. Else prove '..UptoSaid'. A law counts once. -/
mutual
def uptoBulk {H : Type} : DataW H → Nat
  | .lit (.string bytes) => bytes.length + 1
  | .lit _ => 1
  | .nil => 1
  | .ptr d => uptoBulk d + 1
  | .slice elems spare => uptoBulkAll elems + uptoBulkAll spare + 1
  | .agg parts => uptoBulkAll parts + 1
  | .iface _ d => uptoBulk d + 1
  | .map entries => uptoBulkEntries entries + 1
  | .held _ => 1
def uptoBulkAll {H : Type} : List (DataW H) → Nat
  | [] => 0
  | d :: r => uptoBulk d + uptoBulkAll r
def uptoBulkEntries {H : Type} : List (Lit × DataW H) → Nat
  | [] => 0
  | x :: r => uptoBulkEntry x + uptoBulkEntries r
def uptoBulkEntry {H : Type} : Lit × DataW H → Nat
  | (.string bytes, d) => bytes.length + uptoBulk d + 1
  | (_, d) => uptoBulk d + 1
 end
def uptoSmall : (H : Type) → List (DataW H) → Bool := fun _ ds => decide (uptoBulkAll ds ≤ 1048576)
def OpenSpec.upto (s : _root_.Go.ChangeSpec) : _root_.Go.OpenSpec := { _root_.Go.OpenSpec.ofChange s with cond := some uptoSmall }

/-- 'spacecraftlaw38.TimecorrDrifts', WHERE WHAT IT READS IS OF BULK AT MOST 1048576: true; the input reads as it did. -/
def timecorrDriftsUptoRow : OpenClaim := { program := "ytdckpamempejgaa", sum := "eb0d78abb010af073215b6708e020d27e6ae4f1389eb1bf103ebd7773cd5e243", func := "spacecraft/spacecraftlaw38.TimecorrDrifts", spec := "timecorrDrifts", named := ["math/bits.divideError", "math/bits.overflowError"], apart := false, narrowed := true }
def TimecorrDriftsUptoSaid : Prop := timecorrDriftsUptoRow.holds Try.pinned (OpenSpec.upto timecorrDriftsSpec)

/-- 'spacecraftlaw38.TimecorrFits', WHERE WHAT IT READS IS OF BULK AT MOST 1048576: true; the input reads as it did. -/
def timecorrFitsUptoRow : OpenClaim := { program := "ytdckpamempejgaa", sum := "eb0d78abb010af073215b6708e020d27e6ae4f1389eb1bf103ebd7773cd5e243", func := "spacecraft/spacecraftlaw38.TimecorrFits", spec := "timecorrFits", named := ["math/bits.divideError", "math/bits.overflowError"], apart := false, narrowed := true }
def TimecorrFitsUptoSaid : Prop := timecorrFitsUptoRow.holds Try.pinned (OpenSpec.upto timecorrFitsSpec)

/-- 'spacecraftlaw38.TimecorrReturns', WHERE WHAT IT READS IS OF BULK AT MOST 1048576: true; the input reads as it did. -/
def timecorrReturnsUptoRow : OpenClaim := { program := "ytdckpamempejgaa", sum := "eb0d78abb010af073215b6708e020d27e6ae4f1389eb1bf103ebd7773cd5e243", func := "spacecraft/spacecraftlaw38.TimecorrReturns", spec := "timecorrReturns", named := ["math/bits.divideError", "math/bits.overflowError"], apart := false, narrowed := true }
def TimecorrReturnsUptoSaid : Prop := timecorrReturnsUptoRow.holds Try.pinned (OpenSpec.upto timecorrReturnsSpec)

/-- 'spacecraftlaw38.TimecorrConverts', WHERE WHAT IT READS IS OF BULK AT MOST 1048576: true; the input reads as it did. -/
def timecorrConvertsUptoRow : OpenClaim := { program := "ytdckpamempejgaa", sum := "eb0d78abb010af073215b6708e020d27e6ae4f1389eb1bf103ebd7773cd5e243", func := "spacecraft/spacecraftlaw38.TimecorrConverts", spec := "timecorrConverts", named := ["math/bits.divideError", "math/bits.overflowError"], apart := false, narrowed := true }
def TimecorrConvertsUptoSaid : Prop := timecorrConvertsUptoRow.holds Try.pinned (OpenSpec.upto timecorrConvertsSpec)

/-- 'spacecraftlaw38.TimecorrNone', WHERE WHAT IT READS IS OF BULK AT MOST 1048576: true; the input reads as it did. -/
def timecorrNoneUptoRow : OpenClaim := { program := "ytdckpamempejgaa", sum := "eb0d78abb010af073215b6708e020d27e6ae4f1389eb1bf103ebd7773cd5e243", func := "spacecraft/spacecraftlaw38.TimecorrNone", spec := "timecorrNone", named := ["math/bits.divideError", "math/bits.overflowError"], apart := false, narrowed := true }
def TimecorrNoneUptoSaid : Prop := timecorrNoneUptoRow.holds Try.pinned (OpenSpec.upto timecorrNoneSpec)

end Rows
end Go.Proofs.Ytdckpamempejgaa
