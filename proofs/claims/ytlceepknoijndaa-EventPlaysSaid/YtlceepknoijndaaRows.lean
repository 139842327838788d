/-
  No cell of these rows narrows 'for every input' (looked for: loops, veiled, ifaces, maps, wideKeys, modest, calm, conditions, laid).
  DERIVED. THE GIVEN ROWS OF THIS SEAT. 4 by the template 'for every input the law returns true; each argument reads behind the call as it read before'; 0 by the template 'total and deterministic' (their statements: YtlceepknoijndaaTotals.lean).
  GIVEN WITH THE SEED: the statements are not yours to turn. If you find one false, say at which input.
  Laid BY PROGRAM, IN A SANDBOX (cutbox-rows.mjs): the forced cells as the released guide's own fill.sh prints them over the translation c5eaa4e78f580c3f… (all of the seat's roots in one cut). By AI agents, Wed Nov 11 2026. No macro, syntax, notation, axiom, sorry.
-/
import Derived.Test.YtlceepknoijndaaChecked
import GoSem.Claim
import GoSem.ClaimJoined
import GoSem.ClaimMapViews
import Derived.JoinedTies
import Derived.KernelRfl
namespace Go.Proofs.Ytlceepknoijndaa
/- THE CELL 'sum', in the pinned program and in every row, IS THE sha256 OF THE DUMP (.gsa) THAT YtlceepknoijndaaProg.lean LOADS. Nothing in Lean hashes anything: it is a label: what it is worth is what the hold of that sum in a sandbox is worth. -/
noncomputable def Try.pinned : Pinned := { name := "ytlceepknoijndaa", sum := "c5eaa4e78f580c3f6134efe4dfb40dbb87c13bd7a12e91ee8c24bcbab878aca6", checked := Try.checked }
namespace Rows
def none {H : Type} : Left H := { results := [], args := [] }

/-- 'spacecraftlaw35.EventCounts': WHATEVER THE INPUT: true; the input reads as it did. -/
def eventCountsSpec : ChangeSpec := { name := "eventCounts", fn := fun _ => fun
  | [d1, d2] => { results := [.lit (.bool true)], args := [d1, d2] }
  | _ => none }
def eventCountsRow : OpenClaim := { program := "ytlceepknoijndaa", sum := "c5eaa4e78f580c3f6134efe4dfb40dbb87c13bd7a12e91ee8c24bcbab878aca6", func := "spacecraft/spacecraftlaw35.EventCounts", spec := "eventCounts", apart := false }
def EventCountsSaid : Prop := eventCountsRow.holds Try.pinned (OpenSpec.ofChange eventCountsSpec)

/-- ITS FALSE NEIGHBOUR: 'it returns false'. Refute it at one input. -/
def eventCountsWrong : ChangeSpec := { name := "eventCounts", fn := fun _ => fun
  | [d1, d2] => { results := [.lit (.bool false)], args := [d1, d2] }
  | _ => none }
def EventCountsWrongFalsely : Prop := eventCountsRow.holds Try.pinned (OpenSpec.ofChange eventCountsWrong)

/-- 'spacecraftlaw35.EventDisables': WHATEVER THE INPUT: true; the input reads as it did. -/
def eventDisablesSpec : ChangeSpec := { name := "eventDisables", fn := fun _ => fun
  | [d] => { results := [.lit (.bool true)], args := [d] }
  | _ => none }
def eventDisablesRow : OpenClaim := { program := "ytlceepknoijndaa", sum := "c5eaa4e78f580c3f6134efe4dfb40dbb87c13bd7a12e91ee8c24bcbab878aca6", func := "spacecraft/spacecraftlaw35.EventDisables", spec := "eventDisables", apart := false }
def EventDisablesSaid : Prop := eventDisablesRow.holds Try.pinned (OpenSpec.ofChange eventDisablesSpec)

/-- ITS FALSE NEIGHBOUR: 'it returns false'. Refute it at one input. -/
def eventDisablesWrong : ChangeSpec := { name := "eventDisables", fn := fun _ => fun
  | [d] => { results := [.lit (.bool false)], args := [d] }
  | _ => none }
def EventDisablesWrongFalsely : Prop := eventDisablesRow.holds Try.pinned (OpenSpec.ofChange eventDisablesWrong)

/-- 'spacecraftlaw35.EventPlays': WHATEVER THE INPUT: true; the input reads as it did. -/
def eventPlaysSpec : ChangeSpec := { name := "eventPlays", fn := fun _ => fun
  | [d1, d2] => { results := [.lit (.bool true)], args := [d1, d2] }
  | _ => none }
def eventPlaysRow : OpenClaim := { program := "ytlceepknoijndaa", sum := "c5eaa4e78f580c3f6134efe4dfb40dbb87c13bd7a12e91ee8c24bcbab878aca6", func := "spacecraft/spacecraftlaw35.EventPlays", spec := "eventPlays", inPlace := ["maps.clone"], apart := false }
def EventPlaysSaid : Prop := eventPlaysRow.holds Try.pinned (OpenSpec.ofChange eventPlaysSpec)

/-- ITS FALSE NEIGHBOUR: 'it returns false'. Refute it at one input. -/
def eventPlaysWrong : ChangeSpec := { name := "eventPlays", fn := fun _ => fun
  | [d1, d2] => { results := [.lit (.bool false)], args := [d1, d2] }
  | _ => none }
def EventPlaysWrongFalsely : Prop := eventPlaysRow.holds Try.pinned (OpenSpec.ofChange eventPlaysWrong)

/-- 'spacecraftlaw35.EventNone': WHATEVER THE INPUT: true; the input reads as it did. -/
def eventNoneSpec : ChangeSpec := { name := "eventNone", fn := fun _ => fun
  | [d] => { results := [.lit (.bool true)], args := [d] }
  | _ => none }
def eventNoneRow : OpenClaim := { program := "ytlceepknoijndaa", sum := "c5eaa4e78f580c3f6134efe4dfb40dbb87c13bd7a12e91ee8c24bcbab878aca6", func := "spacecraft/spacecraftlaw35.EventNone", spec := "eventNone", inPlace := ["maps.clone"], apart := false }
def EventNoneSaid : Prop := eventNoneRow.holds Try.pinned (OpenSpec.ofChange eventNoneSpec)

/-- ITS FALSE NEIGHBOUR: 'it returns false'. Refute it at one input. -/
def eventNoneWrong : ChangeSpec := { name := "eventNone", fn := fun _ => fun
  | [d] => { results := [.lit (.bool false)], args := [d] }
  | _ => none }
def EventNoneWrongFalsely : Prop := eventNoneRow.holds Try.pinned (OpenSpec.ofChange eventNoneWrong)

/- THE SECOND FORM. 'bulk': how many values and letters a reading holds, each counted each time it is reached (what is shared counts as often as it is met; a slice's spare places count too). A statement '..UptoSaid' is the law's where the arguments, and the package variables that the reading takes, are together of bulk at most 1048576: NARROWER than '..Said'. Prove '..Said' where nothing that the law and all that it calls make is longer than what came in: it says more and counts as full. Else prove '..UptoSaid'. A law counts once. -/
mutual
def uptoBulk {H : Type} : DataW H → Nat
  | .lit (.string bytes) => bytes.length + 1
  | .lit _ => 1
  | .nil => 1
  | .ptr d => uptoBulk d + 1
  | .slice elems spare => uptoBulkAll elems + uptoBulkAll spare + 1
  | .agg parts => uptoBulkAll parts + 1
  | .iface _ d => uptoBulk d + 1
  | .map entries => uptoBulkEntries entries + 1
  | .held _ => 1
def uptoBulkAll {H : Type} : List (DataW H) → Nat
  | [] => 0
  | d :: r => uptoBulk d + uptoBulkAll r
def uptoBulkEntries {H : Type} : List (Lit × DataW H) → Nat
  | [] => 0
  | x :: r => uptoBulkEntry x + uptoBulkEntries r
def uptoBulkEntry {H : Type} : Lit × DataW H → Nat
  | (.string bytes, d) => bytes.length + uptoBulk d + 1
  | (_, d) => uptoBulk d + 1
 end
def uptoSmall : (H : Type) → List (DataW H) → Bool := fun _ ds => decide (uptoBulkAll ds ≤ 1048576)
def OpenSpec.upto (s : _root_.Go.ChangeSpec) : _root_.Go.OpenSpec := { _root_.Go.OpenSpec.ofChange s with cond := some uptoSmall }

/-- 'spacecraftlaw35.EventCounts', WHERE WHAT IT READS IS OF BULK AT MOST 1048576: true; the input reads as it did. -/
def eventCountsUptoRow : OpenClaim := { program := "ytlceepknoijndaa", sum := "c5eaa4e78f580c3f6134efe4dfb40dbb87c13bd7a12e91ee8c24bcbab878aca6", func := "spacecraft/spacecraftlaw35.EventCounts", spec := "eventCounts", apart := false, narrowed := true }
def EventCountsUptoSaid : Prop := eventCountsUptoRow.holds Try.pinned (OpenSpec.upto eventCountsSpec)

/-- 'spacecraftlaw35.EventDisables', WHERE WHAT IT READS IS OF BULK AT MOST 1048576: true; the input reads as it did. -/
def eventDisablesUptoRow : OpenClaim := { program := "ytlceepknoijndaa", sum := "c5eaa4e78f580c3f6134efe4dfb40dbb87c13bd7a12e91ee8c24bcbab878aca6", func := "spacecraft/spacecraftlaw35.EventDisables", spec := "eventDisables", apart := false, narrowed := true }
def EventDisablesUptoSaid : Prop := eventDisablesUptoRow.holds Try.pinned (OpenSpec.upto eventDisablesSpec)

/-- 'spacecraftlaw35.EventPlays', WHERE WHAT IT READS IS OF BULK AT MOST 1048576: true; the input reads as it did. -/
def eventPlaysUptoRow : OpenClaim := { program := "ytlceepknoijndaa", sum := "c5eaa4e78f580c3f6134efe4dfb40dbb87c13bd7a12e91ee8c24bcbab878aca6", func := "spacecraft/spacecraftlaw35.EventPlays", spec := "eventPlays", inPlace := ["maps.clone"], apart := false, narrowed := true }
def EventPlaysUptoSaid : Prop := eventPlaysUptoRow.holds Try.pinned (OpenSpec.upto eventPlaysSpec)

/-- 'spacecraftlaw35.EventNone', WHERE WHAT IT READS IS OF BULK AT MOST 1048576: true; the input reads as it did. -/
def eventNoneUptoRow : OpenClaim := { program := "ytlceepknoijndaa", sum := "c5eaa4e78f580c3f6134efe4dfb40dbb87c13bd7a12e91ee8c24bcbab878aca6", func := "spacecraft/spacecraftlaw35.EventNone", spec := "eventNone", inPlace := ["maps.clone"], apart := false, narrowed := true }
def EventNoneUptoSaid : Prop := eventNoneUptoRow.holds Try.pinned (OpenSpec.upto eventNoneSpec)

end Rows
end Go.Proofs.Ytlceepknoijndaa
