/-
  No cell of these rows narrows 'for every input' (looked for: loops, veiled, ifaces, maps, wideKeys, modest, calm, conditions, laid).
  DERIVED. THE GIVEN ROWS OF THIS SEAT. 5 by the template 'for every input the law returns true; each argument reads behind the call as it read before'; 0 by the template 'total and deterministic' (their statements: YtnppgeggcaigjaaTotals.lean).
  GIVEN WITH THE SEED: the statements are not yours to turn. If you find one false, say at which input.
  Laid BY PROGRAM, IN A SANDBOX (cutbox-rows.mjs): the forced cells as the released guide's own fill.sh prints them over the translation fb8a6a2015d57cfa… (all of the seat's roots in one cut). By AI agents, Wed Nov 11 2026. No macro, syntax, notation, axiom, sorry.
-/
import Derived.Test.YtnppgeggcaigjaaChecked
import GoSem.Claim
import GoSem.ClaimJoined
import GoSem.ClaimMapViews
import Derived.JoinedTies
import Derived.KernelRfl
namespace Go.Proofs.Ytnppgeggcaigjaa
/- THE CELL 'sum', in the pinned program and in every row, IS THE sha256 OF THE DUMP (.gsa) THAT YtnppgeggcaigjaaProg.lean LOADS. Nothing in Lean hashes anything: it is a label: what it is worth is what the hold of that sum in a sandbox is worth. -/
noncomputable def Try.pinned : Pinned := { name := "ytnppgeggcaigjaa", sum := "fb8a6a2015d57cfacb4bb40ca91d71ff64bf6e7a53d4bfdc5a85c978b2d0bb99", checked := Try.checked }
namespace Rows
def none {H : Type} : Left H := { results := [], args := [] }

/-- 'spacecraftlaw41.VerifyEncodes': WHATEVER THE INPUT: true; the input reads as it did. -/
def verifyEncodesSpec : ChangeSpec := { name := "verifyEncodes", fn := fun _ => fun
  | [d] => { results := [.lit (.bool true)], args := [d] }
  | _ => none }
def verifyEncodesRow : OpenClaim := { program := "ytnppgeggcaigjaa", sum := "fb8a6a2015d57cfacb4bb40ca91d71ff64bf6e7a53d4bfdc5a85c978b2d0bb99", func := "spacecraft/spacecraftlaw41.VerifyEncodes", spec := "verifyEncodes", apart := false }
def VerifyEncodesSaid : Prop := verifyEncodesRow.holds Try.pinned (OpenSpec.ofChange verifyEncodesSpec)

/-- ITS FALSE NEIGHBOUR: 'it returns false'. Refute it at one input. -/
def verifyEncodesWrong : ChangeSpec := { name := "verifyEncodes", fn := fun _ => fun
  | [d] => { results := [.lit (.bool false)], args := [d] }
  | _ => none }
def VerifyEncodesWrongFalsely : Prop := verifyEncodesRow.holds Try.pinned (OpenSpec.ofChange verifyEncodesWrong)

/-- 'spacecraftlaw41.VerifyDecodes': WHATEVER THE INPUT: true; the input reads as it did. -/
def verifyDecodesSpec : ChangeSpec := { name := "verifyDecodes", fn := fun _ => fun
  | [d] => { results := [.lit (.bool true)], args := [d] }
  | _ => none }
def verifyDecodesRow : OpenClaim := { program := "ytnppgeggcaigjaa", sum := "fb8a6a2015d57cfacb4bb40ca91d71ff64bf6e7a53d4bfdc5a85c978b2d0bb99", func := "spacecraft/spacecraftlaw41.VerifyDecodes", spec := "verifyDecodes", apart := false }
def VerifyDecodesSaid : Prop := verifyDecodesRow.holds Try.pinned (OpenSpec.ofChange verifyDecodesSpec)

/-- ITS FALSE NEIGHBOUR: 'it returns false'. Refute it at one input. -/
def verifyDecodesWrong : ChangeSpec := { name := "verifyDecodes", fn := fun _ => fun
  | [d] => { results := [.lit (.bool false)], args := [d] }
  | _ => none }
def VerifyDecodesWrongFalsely : Prop := verifyDecodesRow.holds Try.pinned (OpenSpec.ofChange verifyDecodesWrong)

/-- 'spacecraftlaw41.VerifyBack': WHATEVER THE INPUT: true; the input reads as it did. -/
def verifyBackSpec : ChangeSpec := { name := "verifyBack", fn := fun _ => fun
  | [d1, d2] => { results := [.lit (.bool true)], args := [d1, d2] }
  | _ => none }
def verifyBackRow : OpenClaim := { program := "ytnppgeggcaigjaa", sum := "fb8a6a2015d57cfacb4bb40ca91d71ff64bf6e7a53d4bfdc5a85c978b2d0bb99", func := "spacecraft/spacecraftlaw41.VerifyBack", spec := "verifyBack", apart := false }
def VerifyBackSaid : Prop := verifyBackRow.holds Try.pinned (OpenSpec.ofChange verifyBackSpec)

/-- ITS FALSE NEIGHBOUR: 'it returns false'. Refute it at one input. -/
def verifyBackWrong : ChangeSpec := { name := "verifyBack", fn := fun _ => fun
  | [d1, d2] => { results := [.lit (.bool false)], args := [d1, d2] }
  | _ => none }
def VerifyBackWrongFalsely : Prop := verifyBackRow.holds Try.pinned (OpenSpec.ofChange verifyBackWrong)

/-- 'spacecraftlaw41.VerifyPairs': WHATEVER THE INPUT: true; the input reads as it did. -/
def verifyPairsSpec : ChangeSpec := { name := "verifyPairs", fn := fun _ => fun
  | [d1, d2] => { results := [.lit (.bool true)], args := [d1, d2] }
  | _ => none }
def verifyPairsRow : OpenClaim := { program := "ytnppgeggcaigjaa", sum := "fb8a6a2015d57cfacb4bb40ca91d71ff64bf6e7a53d4bfdc5a85c978b2d0bb99", func := "spacecraft/spacecraftlaw41.VerifyPairs", spec := "verifyPairs", apart := false }
def VerifyPairsSaid : Prop := verifyPairsRow.holds Try.pinned (OpenSpec.ofChange verifyPairsSpec)

/-- ITS FALSE NEIGHBOUR: 'it returns false'. Refute it at one input. -/
def verifyPairsWrong : ChangeSpec := { name := "verifyPairs", fn := fun _ => fun
  | [d1, d2] => { results := [.lit (.bool false)], args := [d1, d2] }
  | _ => none }
def VerifyPairsWrongFalsely : Prop := verifyPairsRow.holds Try.pinned (OpenSpec.ofChange verifyPairsWrong)

/-- 'spacecraftlaw41.VerifyFollows': WHATEVER THE INPUT: true; the input reads as it did. -/
def verifyFollowsSpec : ChangeSpec := { name := "verifyFollows", fn := fun _ => fun
  | [d] => { results := [.lit (.bool true)], args := [d] }
  | _ => none }
def verifyFollowsRow : OpenClaim := { program := "ytnppgeggcaigjaa", sum := "fb8a6a2015d57cfacb4bb40ca91d71ff64bf6e7a53d4bfdc5a85c978b2d0bb99", func := "spacecraft/spacecraftlaw41.VerifyFollows", spec := "verifyFollows", apart := false }
def VerifyFollowsSaid : Prop := verifyFollowsRow.holds Try.pinned (OpenSpec.ofChange verifyFollowsSpec)

/-- ITS FALSE NEIGHBOUR: 'it returns false'. Refute it at one input. -/
def verifyFollowsWrong : ChangeSpec := { name := "verifyFollows", fn := fun _ => fun
  | [d] => { results := [.lit (.bool false)], args := [d] }
  | _ => none }
def VerifyFollowsWrongFalsely : Prop := verifyFollowsRow.holds Try.pinned (OpenSpec.ofChange verifyFollowsWrong)

/- THE SECOND FORM. 'bulk': how many values and letters a reading holds, each counted each time it is reached (what is shared counts as often as it is met; a slice's spare places count too). A statement '..UptoSaid' is the law's where the arguments, and the package variables that the reading takes, are together of bulk at most 1048576: NARROWER than '..Said'. Prove '..Said' where nothing that the law and all that it calls make is longer than what came in: it says more and counts as full. Else prove '..UptoSaid'. A law counts once. -/
mutual
def uptoBulk {H : Type} : DataW H → Nat
  | .lit (.string bytes) => bytes.length + 1
  | .lit _ => 1
  | .nil => 1
  | .ptr d => uptoBulk d + 1
  | .slice elems spare => uptoBulkAll elems + uptoBulkAll spare + 1
  | .agg parts => uptoBulkAll parts + 1
  | .iface _ d => uptoBulk d + 1
  | .map entries => uptoBulkEntries entries + 1
  | .held _ => 1
def uptoBulkAll {H : Type} : List (DataW H) → Nat
  | [] => 0
  | d :: r => uptoBulk d + uptoBulkAll r
def uptoBulkEntries {H : Type} : List (Lit × DataW H) → Nat
  | [] => 0
  | x :: r => uptoBulkEntry x + uptoBulkEntries r
def uptoBulkEntry {H : Type} : Lit × DataW H → Nat
  | (.string bytes, d) => bytes.length + uptoBulk d + 1
  | (_, d) => uptoBulk d + 1
 end
def uptoSmall : (H : Type) → List (DataW H) → Bool := fun _ ds => decide (uptoBulkAll ds ≤ 1048576)
def OpenSpec.upto (s : _root_.Go.ChangeSpec) : _root_.Go.OpenSpec := { _root_.Go.OpenSpec.ofChange s with cond := some uptoSmall }

/-- 'spacecraftlaw41.VerifyEncodes', WHERE WHAT IT READS IS OF BULK AT MOST 1048576: true; the input reads as it did. -/
def verifyEncodesUptoRow : OpenClaim := { program := "ytnppgeggcaigjaa", sum := "fb8a6a2015d57cfacb4bb40ca91d71ff64bf6e7a53d4bfdc5a85c978b2d0bb99", func := "spacecraft/spacecraftlaw41.VerifyEncodes", spec := "verifyEncodes", apart := false, narrowed := true }
def VerifyEncodesUptoSaid : Prop := verifyEncodesUptoRow.holds Try.pinned (OpenSpec.upto verifyEncodesSpec)

/-- 'spacecraftlaw41.VerifyDecodes', WHERE WHAT IT READS IS OF BULK AT MOST 1048576: true; the input reads as it did. -/
def verifyDecodesUptoRow : OpenClaim := { program := "ytnppgeggcaigjaa", sum := "fb8a6a2015d57cfacb4bb40ca91d71ff64bf6e7a53d4bfdc5a85c978b2d0bb99", func := "spacecraft/spacecraftlaw41.VerifyDecodes", spec := "verifyDecodes", apart := false, narrowed := true }
def VerifyDecodesUptoSaid : Prop := verifyDecodesUptoRow.holds Try.pinned (OpenSpec.upto verifyDecodesSpec)

/-- 'spacecraftlaw41.VerifyBack', WHERE WHAT IT READS IS OF BULK AT MOST 1048576: true; the input reads as it did. -/
def verifyBackUptoRow : OpenClaim := { program := "ytnppgeggcaigjaa", sum := "fb8a6a2015d57cfacb4bb40ca91d71ff64bf6e7a53d4bfdc5a85c978b2d0bb99", func := "spacecraft/spacecraftlaw41.VerifyBack", spec := "verifyBack", apart := false, narrowed := true }
def VerifyBackUptoSaid : Prop := verifyBackUptoRow.holds Try.pinned (OpenSpec.upto verifyBackSpec)

/-- 'spacecraftlaw41.VerifyPairs', WHERE WHAT IT READS IS OF BULK AT MOST 1048576: true; the input reads as it did. -/
def verifyPairsUptoRow : OpenClaim := { program := "ytnppgeggcaigjaa", sum := "fb8a6a2015d57cfacb4bb40ca91d71ff64bf6e7a53d4bfdc5a85c978b2d0bb99", func := "spacecraft/spacecraftlaw41.VerifyPairs", spec := "verifyPairs", apart := false, narrowed := true }
def VerifyPairsUptoSaid : Prop := verifyPairsUptoRow.holds Try.pinned (OpenSpec.upto verifyPairsSpec)

/-- 'spacecraftlaw41.VerifyFollows', WHERE WHAT IT READS IS OF BULK AT MOST 1048576: true; the input reads as it did. -/
def verifyFollowsUptoRow : OpenClaim := { program := "ytnppgeggcaigjaa", sum := "fb8a6a2015d57cfacb4bb40ca91d71ff64bf6e7a53d4bfdc5a85c978b2d0bb99", func := "spacecraft/spacecraftlaw41.VerifyFollows", spec := "verifyFollows", apart := false, narrowed := true }
def VerifyFollowsUptoSaid : Prop := verifyFollowsUptoRow.holds Try.pinned (OpenSpec.upto verifyFollowsSpec)

end Rows
end Go.Proofs.Ytnppgeggcaigjaa
