/-
  No cell of these rows narrows 'for every input' (looked for: loops, veiled, ifaces, maps, wideKeys, modest, calm, conditions, laid).
  DERIVED. THE GIVEN ROWS OF THIS SEAT. 5 by the template 'for every input the law returns true; each argument reads behind the call as it read before'; 0 by the template 'total and deterministic' (their statements: YtmefdiidgnpklaaTotals.lean).
  GIVEN WITH THE SEED: the statements are not yours to turn. If you find one false, say at which input.
  Laid BY PROGRAM, IN A SANDBOX (cutbox-rows.mjs): the forced cells as the released guide's own fill.sh prints them over the translation 3dae14658547bc01… (all of the seat's roots in one cut). By AI agents, Wed Nov 11 2026. No macro, syntax, notation, axiom, sorry.
-/
import Derived.Test.YtmefdiidgnpklaaChecked
import GoSem.Claim
import GoSem.ClaimJoined
import GoSem.ClaimMapViews
import Derived.JoinedTies
import Derived.KernelRfl
namespace Go.Proofs.Ytmefdiidgnpklaa
/- THE CELL 'sum', in the pinned program and in every row, IS THE sha256 OF THE DUMP (.gsa) THAT YtmefdiidgnpklaaProg.lean LOADS. Nothing in Lean hashes anything: it is a label: what it is worth is what the hold of that sum in a sandbox is worth. -/
noncomputable def Try.pinned : Pinned := { name := "ytmefdiidgnpklaa", sum := "3dae14658547bc01e41119dc6ca2a811da319757eb8fc717c57c947875f5e3ed", checked := Try.checked }
namespace Rows
def none {H : Type} : Left H := { results := [], args := [] }

/-- 'spacecraftlaw51.LimitsChecks': WHATEVER THE INPUT: true; the input reads as it did. -/
def limitsChecksSpec : ChangeSpec := { name := "limitsChecks", fn := fun _ => fun
  | [d1, d2] => { results := [.lit (.bool true)], args := [d1, d2] }
  | _ => none }
def limitsChecksRow : OpenClaim := { program := "ytmefdiidgnpklaa", sum := "3dae14658547bc01e41119dc6ca2a811da319757eb8fc717c57c947875f5e3ed", func := "spacecraft/spacecraftlaw51.LimitsChecks", spec := "limitsChecks", apart := false }
def LimitsChecksSaid : Prop := limitsChecksRow.holds Try.pinned (OpenSpec.ofChange limitsChecksSpec)

/-- ITS FALSE NEIGHBOUR: 'it returns false'. Refute it at one input. -/
def limitsChecksWrong : ChangeSpec := { name := "limitsChecks", fn := fun _ => fun
  | [d1, d2] => { results := [.lit (.bool false)], args := [d1, d2] }
  | _ => none }
def LimitsChecksWrongFalsely : Prop := limitsChecksRow.holds Try.pinned (OpenSpec.ofChange limitsChecksWrong)

/-- 'spacecraftlaw51.LimitsPlays': WHATEVER THE INPUT: true; the input reads as it did. -/
def limitsPlaysSpec : ChangeSpec := { name := "limitsPlays", fn := fun _ => fun
  | [d1, d2, d3] => { results := [.lit (.bool true)], args := [d1, d2, d3] }
  | _ => none }
def limitsPlaysRow : OpenClaim := { program := "ytmefdiidgnpklaa", sum := "3dae14658547bc01e41119dc6ca2a811da319757eb8fc717c57c947875f5e3ed", func := "spacecraft/spacecraftlaw51.LimitsPlays", spec := "limitsPlays", apart := false }
def LimitsPlaysSaid : Prop := limitsPlaysRow.holds Try.pinned (OpenSpec.ofChange limitsPlaysSpec)

/-- ITS FALSE NEIGHBOUR: 'it returns false'. Refute it at one input. -/
def limitsPlaysWrong : ChangeSpec := { name := "limitsPlays", fn := fun _ => fun
  | [d1, d2, d3] => { results := [.lit (.bool false)], args := [d1, d2, d3] }
  | _ => none }
def LimitsPlaysWrongFalsely : Prop := limitsPlaysRow.holds Try.pinned (OpenSpec.ofChange limitsPlaysWrong)

/-- 'spacecraftlaw51.LimitsHysteresis': WHATEVER THE INPUT: true; the input reads as it did. -/
def limitsHysteresisSpec : ChangeSpec := { name := "limitsHysteresis", fn := fun _ => fun
  | [d1, d2, d3] => { results := [.lit (.bool true)], args := [d1, d2, d3] }
  | _ => none }
def limitsHysteresisRow : OpenClaim := { program := "ytmefdiidgnpklaa", sum := "3dae14658547bc01e41119dc6ca2a811da319757eb8fc717c57c947875f5e3ed", func := "spacecraft/spacecraftlaw51.LimitsHysteresis", spec := "limitsHysteresis", apart := false }
def LimitsHysteresisSaid : Prop := limitsHysteresisRow.holds Try.pinned (OpenSpec.ofChange limitsHysteresisSpec)

/-- ITS FALSE NEIGHBOUR: 'it returns false'. Refute it at one input. -/
def limitsHysteresisWrong : ChangeSpec := { name := "limitsHysteresis", fn := fun _ => fun
  | [d1, d2, d3] => { results := [.lit (.bool false)], args := [d1, d2, d3] }
  | _ => none }
def LimitsHysteresisWrongFalsely : Prop := limitsHysteresisRow.holds Try.pinned (OpenSpec.ofChange limitsHysteresisWrong)

/-- 'spacecraftlaw51.LimitsNever': WHATEVER THE INPUT: true; the input reads as it did. -/
def limitsNeverSpec : ChangeSpec := { name := "limitsNever", fn := fun _ => fun
  | [d1, d2, d3] => { results := [.lit (.bool true)], args := [d1, d2, d3] }
  | _ => none }
def limitsNeverRow : OpenClaim := { program := "ytmefdiidgnpklaa", sum := "3dae14658547bc01e41119dc6ca2a811da319757eb8fc717c57c947875f5e3ed", func := "spacecraft/spacecraftlaw51.LimitsNever", spec := "limitsNever", apart := false }
def LimitsNeverSaid : Prop := limitsNeverRow.holds Try.pinned (OpenSpec.ofChange limitsNeverSpec)

/-- ITS FALSE NEIGHBOUR: 'it returns false'. Refute it at one input. -/
def limitsNeverWrong : ChangeSpec := { name := "limitsNever", fn := fun _ => fun
  | [d1, d2, d3] => { results := [.lit (.bool false)], args := [d1, d2, d3] }
  | _ => none }
def LimitsNeverWrongFalsely : Prop := limitsNeverRow.holds Try.pinned (OpenSpec.ofChange limitsNeverWrong)

/-- 'spacecraftlaw51.LimitsClones': WHATEVER THE INPUT: true; the input reads as it did. -/
def limitsClonesSpec : ChangeSpec := { name := "limitsClones", fn := fun _ => fun
  | [d1, d2, d3] => { results := [.lit (.bool true)], args := [d1, d2, d3] }
  | _ => none }
def limitsClonesRow : OpenClaim := { program := "ytmefdiidgnpklaa", sum := "3dae14658547bc01e41119dc6ca2a811da319757eb8fc717c57c947875f5e3ed", func := "spacecraft/spacecraftlaw51.LimitsClones", spec := "limitsClones", apart := false }
def LimitsClonesSaid : Prop := limitsClonesRow.holds Try.pinned (OpenSpec.ofChange limitsClonesSpec)

/-- ITS FALSE NEIGHBOUR: 'it returns false'. Refute it at one input. -/
def limitsClonesWrong : ChangeSpec := { name := "limitsClones", fn := fun _ => fun
  | [d1, d2, d3] => { results := [.lit (.bool false)], args := [d1, d2, d3] }
  | _ => none }
def LimitsClonesWrongFalsely : Prop := limitsClonesRow.holds Try.pinned (OpenSpec.ofChange limitsClonesWrong)

/- THE SECOND FORM. 'bulk': how many values and letters a reading holds, each counted each time it is reached (what is shared counts as often as it is met; a slice's spare places count too). A statement '..UptoSaid' is the law's where the arguments, and the package variables that the reading takes, are together of bulk at most 1048576: NARROWER than '..Said'. Prove '..Said' where nothing that the law and all that it calls make is longer than what came in: it says more and counts as full. Else prove '..UptoSaid'. A law counts once. -/
mutual
def uptoBulk {H : Type} : DataW H → Nat
  | .lit (.string bytes) => bytes.length + 1
  | .lit _ => 1
  | .nil => 1
  | .ptr d => uptoBulk d + 1
  | .slice elems spare => uptoBulkAll elems + uptoBulkAll spare + 1
  | .agg parts => uptoBulkAll parts + 1
  | .iface _ d => uptoBulk d + 1
  | .map entries => uptoBulkEntries entries + 1
  | .held _ => 1
def uptoBulkAll {H : Type} : List (DataW H) → Nat
  | [] => 0
  | d :: r => uptoBulk d + uptoBulkAll r
def uptoBulkEntries {H : Type} : List (Lit × DataW H) → Nat
  | [] => 0
  | x :: r => uptoBulkEntry x + uptoBulkEntries r
def uptoBulkEntry {H : Type} : Lit × DataW H → Nat
  | (.string bytes, d) => bytes.length + uptoBulk d + 1
  | (_, d) => uptoBulk d + 1
 end
def uptoSmall : (H : Type) → List (DataW H) → Bool := fun _ ds => decide (uptoBulkAll ds ≤ 1048576)
def OpenSpec.upto (s : _root_.Go.ChangeSpec) : _root_.Go.OpenSpec := { _root_.Go.OpenSpec.ofChange s with cond := some uptoSmall }

/-- 'spacecraftlaw51.LimitsChecks', WHERE WHAT IT READS IS OF BULK AT MOST 1048576: true; the input reads as it did. -/
def limitsChecksUptoRow : OpenClaim := { program := "ytmefdiidgnpklaa", sum := "3dae14658547bc01e41119dc6ca2a811da319757eb8fc717c57c947875f5e3ed", func := "spacecraft/spacecraftlaw51.LimitsChecks", spec := "limitsChecks", apart := false, narrowed := true }
def LimitsChecksUptoSaid : Prop := limitsChecksUptoRow.holds Try.pinned (OpenSpec.upto limitsChecksSpec)

/-- 'spacecraftlaw51.LimitsPlays', WHERE WHAT IT READS IS OF BULK AT MOST 1048576: true; the input reads as it did. -/
def limitsPlaysUptoRow : OpenClaim := { program := "ytmefdiidgnpklaa", sum := "3dae14658547bc01e41119dc6ca2a811da319757eb8fc717c57c947875f5e3ed", func := "spacecraft/spacecraftlaw51.LimitsPlays", spec := "limitsPlays", apart := false, narrowed := true }
def LimitsPlaysUptoSaid : Prop := limitsPlaysUptoRow.holds Try.pinned (OpenSpec.upto limitsPlaysSpec)

/-- 'spacecraftlaw51.LimitsHysteresis', WHERE WHAT IT READS IS OF BULK AT MOST 1048576: true; the input reads as it did. -/
def limitsHysteresisUptoRow : OpenClaim := { program := "ytmefdiidgnpklaa", sum := "3dae14658547bc01e41119dc6ca2a811da319757eb8fc717c57c947875f5e3ed", func := "spacecraft/spacecraftlaw51.LimitsHysteresis", spec := "limitsHysteresis", apart := false, narrowed := true }
def LimitsHysteresisUptoSaid : Prop := limitsHysteresisUptoRow.holds Try.pinned (OpenSpec.upto limitsHysteresisSpec)

/-- 'spacecraftlaw51.LimitsNever', WHERE WHAT IT READS IS OF BULK AT MOST 1048576: true; the input reads as it did. -/
def limitsNeverUptoRow : OpenClaim := { program := "ytmefdiidgnpklaa", sum := "3dae14658547bc01e41119dc6ca2a811da319757eb8fc717c57c947875f5e3ed", func := "spacecraft/spacecraftlaw51.LimitsNever", spec := "limitsNever", apart := false, narrowed := true }
def LimitsNeverUptoSaid : Prop := limitsNeverUptoRow.holds Try.pinned (OpenSpec.upto limitsNeverSpec)

/-- 'spacecraftlaw51.LimitsClones', WHERE WHAT IT READS IS OF BULK AT MOST 1048576: true; the input reads as it did. -/
def limitsClonesUptoRow : OpenClaim := { program := "ytmefdiidgnpklaa", sum := "3dae14658547bc01e41119dc6ca2a811da319757eb8fc717c57c947875f5e3ed", func := "spacecraft/spacecraftlaw51.LimitsClones", spec := "limitsClones", apart := false, narrowed := true }
def LimitsClonesUptoSaid : Prop := limitsClonesUptoRow.holds Try.pinned (OpenSpec.upto limitsClonesSpec)

end Rows
end Go.Proofs.Ytmefdiidgnpklaa
