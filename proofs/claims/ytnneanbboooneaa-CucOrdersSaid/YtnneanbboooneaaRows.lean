/-
  No cell of these rows narrows 'for every input' (looked for: loops, veiled, ifaces, maps, wideKeys, modest, calm, conditions, laid).
  DERIVED. THE GIVEN ROWS OF THIS SEAT. 5 by the template 'for every input the law returns true; each argument reads behind the call as it read before'; 0 by the template 'total and deterministic' (their statements: YtnneanbboooneaaTotals.lean).
  GIVEN WITH THE SEED: the statements are not yours to turn. If you find one false, say at which input.
  Laid BY PROGRAM, IN A SANDBOX (cutbox-rows.mjs): the forced cells as the released guide's own fill.sh prints them over the translation b3f6266cd76d1225… (all of the seat's roots in one cut). By AI agents, Wed Nov 11 2026. No macro, syntax, notation, axiom, sorry.
-/
import Derived.Test.YtnneanbboooneaaChecked
import GoSem.Claim
import GoSem.ClaimJoined
import GoSem.ClaimMapViews
import Derived.JoinedTies
import Derived.KernelRfl
namespace Go.Proofs.Ytnneanbboooneaa
/- THE CELL 'sum', in the pinned program and in every row, IS THE sha256 OF THE DUMP (.gsa) THAT YtnneanbboooneaaProg.lean LOADS. Nothing in Lean hashes anything: it is a label: what it is worth is what the hold of that sum in a sandbox is worth. -/
noncomputable def Try.pinned : Pinned := { name := "ytnneanbboooneaa", sum := "b3f6266cd76d1225b165a5ddc94a2e37794f145bd7ff57e11a70b8f5fc4717de", checked := Try.checked }
namespace Rows
def none {H : Type} : Left H := { results := [], args := [] }

/-- 'spacecraftlaw05.CucEncodes': WHATEVER THE INPUT: true; the input reads as it did. -/
def cucEncodesSpec : ChangeSpec := { name := "cucEncodes", fn := fun _ => fun
  | [d1, d2] => { results := [.lit (.bool true)], args := [d1, d2] }
  | _ => none }
def cucEncodesRow : OpenClaim := { program := "ytnneanbboooneaa", sum := "b3f6266cd76d1225b165a5ddc94a2e37794f145bd7ff57e11a70b8f5fc4717de", func := "spacecraft/spacecraftlaw05.CucEncodes", spec := "cucEncodes", apart := false }
def CucEncodesSaid : Prop := cucEncodesRow.holds Try.pinned (OpenSpec.ofChange cucEncodesSpec)

/-- ITS FALSE NEIGHBOUR: 'it returns false'. Refute it at one input. -/
def cucEncodesWrong : ChangeSpec := { name := "cucEncodes", fn := fun _ => fun
  | [d1, d2] => { results := [.lit (.bool false)], args := [d1, d2] }
  | _ => none }
def CucEncodesWrongFalsely : Prop := cucEncodesRow.holds Try.pinned (OpenSpec.ofChange cucEncodesWrong)

/-- 'spacecraftlaw05.CucDecodes': WHATEVER THE INPUT: true; the input reads as it did. -/
def cucDecodesSpec : ChangeSpec := { name := "cucDecodes", fn := fun _ => fun
  | [d] => { results := [.lit (.bool true)], args := [d] }
  | _ => none }
def cucDecodesRow : OpenClaim := { program := "ytnneanbboooneaa", sum := "b3f6266cd76d1225b165a5ddc94a2e37794f145bd7ff57e11a70b8f5fc4717de", func := "spacecraft/spacecraftlaw05.CucDecodes", spec := "cucDecodes", apart := false }
def CucDecodesSaid : Prop := cucDecodesRow.holds Try.pinned (OpenSpec.ofChange cucDecodesSpec)

/-- ITS FALSE NEIGHBOUR: 'it returns false'. Refute it at one input. -/
def cucDecodesWrong : ChangeSpec := { name := "cucDecodes", fn := fun _ => fun
  | [d] => { results := [.lit (.bool false)], args := [d] }
  | _ => none }
def CucDecodesWrongFalsely : Prop := cucDecodesRow.holds Try.pinned (OpenSpec.ofChange cucDecodesWrong)

/-- 'spacecraftlaw05.CucBack': WHATEVER THE INPUT: true; the input reads as it did. -/
def cucBackSpec : ChangeSpec := { name := "cucBack", fn := fun _ => fun
  | [d1, d2, d3] => { results := [.lit (.bool true)], args := [d1, d2, d3] }
  | _ => none }
def cucBackRow : OpenClaim := { program := "ytnneanbboooneaa", sum := "b3f6266cd76d1225b165a5ddc94a2e37794f145bd7ff57e11a70b8f5fc4717de", func := "spacecraft/spacecraftlaw05.CucBack", spec := "cucBack", apart := false }
def CucBackSaid : Prop := cucBackRow.holds Try.pinned (OpenSpec.ofChange cucBackSpec)

/-- ITS FALSE NEIGHBOUR: 'it returns false'. Refute it at one input. -/
def cucBackWrong : ChangeSpec := { name := "cucBack", fn := fun _ => fun
  | [d1, d2, d3] => { results := [.lit (.bool false)], args := [d1, d2, d3] }
  | _ => none }
def CucBackWrongFalsely : Prop := cucBackRow.holds Try.pinned (OpenSpec.ofChange cucBackWrong)

/-- 'spacecraftlaw05.CucForms': WHATEVER THE INPUT: true; the input reads as it did. -/
def cucFormsSpec : ChangeSpec := { name := "cucForms", fn := fun _ => fun
  | [d] => { results := [.lit (.bool true)], args := [d] }
  | _ => none }
def cucFormsRow : OpenClaim := { program := "ytnneanbboooneaa", sum := "b3f6266cd76d1225b165a5ddc94a2e37794f145bd7ff57e11a70b8f5fc4717de", func := "spacecraft/spacecraftlaw05.CucForms", spec := "cucForms", apart := false }
def CucFormsSaid : Prop := cucFormsRow.holds Try.pinned (OpenSpec.ofChange cucFormsSpec)

/-- ITS FALSE NEIGHBOUR: 'it returns false'. Refute it at one input. -/
def cucFormsWrong : ChangeSpec := { name := "cucForms", fn := fun _ => fun
  | [d] => { results := [.lit (.bool false)], args := [d] }
  | _ => none }
def CucFormsWrongFalsely : Prop := cucFormsRow.holds Try.pinned (OpenSpec.ofChange cucFormsWrong)

/-- 'spacecraftlaw05.CucOrders': WHATEVER THE INPUT: true; the input reads as it did. -/
def cucOrdersSpec : ChangeSpec := { name := "cucOrders", fn := fun _ => fun
  | [d1, d2, d3] => { results := [.lit (.bool true)], args := [d1, d2, d3] }
  | _ => none }
def cucOrdersRow : OpenClaim := { program := "ytnneanbboooneaa", sum := "b3f6266cd76d1225b165a5ddc94a2e37794f145bd7ff57e11a70b8f5fc4717de", func := "spacecraft/spacecraftlaw05.CucOrders", spec := "cucOrders", apart := false }
def CucOrdersSaid : Prop := cucOrdersRow.holds Try.pinned (OpenSpec.ofChange cucOrdersSpec)

/-- ITS FALSE NEIGHBOUR: 'it returns false'. Refute it at one input. -/
def cucOrdersWrong : ChangeSpec := { name := "cucOrders", fn := fun _ => fun
  | [d1, d2, d3] => { results := [.lit (.bool false)], args := [d1, d2, d3] }
  | _ => none }
def CucOrdersWrongFalsely : Prop := cucOrdersRow.holds Try.pinned (OpenSpec.ofChange cucOrdersWrong)

/- THE SECOND FORM. 'bulk': how many values and letters a reading holds, each counted each time it is reached (what is shared counts as often as it is met; a slice's spare places count too). A statement '..UptoSaid' is the law's where the arguments, and the package variables that the reading takes, are together of bulk at most 1048576: NARROWER than '..Said'. Prove '..Said' where nothing that the law and all that it calls make is longer than what came in: it says more and counts as full. Else prove '..UptoSaid'. A law counts once. -/
mutual
def uptoBulk {H : Type} : DataW H → Nat
  | .lit (.string bytes) => bytes.length + 1
  | .lit _ => 1
  | .nil => 1
  | .ptr d => uptoBulk d + 1
  | .slice elems spare => uptoBulkAll elems + uptoBulkAll spare + 1
  | .agg parts => uptoBulkAll parts + 1
  | .iface _ d => uptoBulk d + 1
  | .map entries => uptoBulkEntries entries + 1
  | .held _ => 1
def uptoBulkAll {H : Type} : List (DataW H) → Nat
  | [] => 0
  | d :: r => uptoBulk d + uptoBulkAll r
def uptoBulkEntries {H : Type} : List (Lit × DataW H) → Nat
  | [] => 0
  | x :: r => uptoBulkEntry x + uptoBulkEntries r
def uptoBulkEntry {H : Type} : Lit × DataW H → Nat
  | (.string bytes, d) => bytes.length + uptoBulk d + 1
  | (_, d) => uptoBulk d + 1
 end
def uptoSmall : (H : Type) → List (DataW H) → Bool := fun _ ds => decide (uptoBulkAll ds ≤ 1048576)
def OpenSpec.upto (s : _root_.Go.ChangeSpec) : _root_.Go.OpenSpec := { _root_.Go.OpenSpec.ofChange s with cond := some uptoSmall }

/-- 'spacecraftlaw05.CucEncodes', WHERE WHAT IT READS IS OF BULK AT MOST 1048576: true; the input reads as it did. -/
def cucEncodesUptoRow : OpenClaim := { program := "ytnneanbboooneaa", sum := "b3f6266cd76d1225b165a5ddc94a2e37794f145bd7ff57e11a70b8f5fc4717de", func := "spacecraft/spacecraftlaw05.CucEncodes", spec := "cucEncodes", apart := false, narrowed := true }
def CucEncodesUptoSaid : Prop := cucEncodesUptoRow.holds Try.pinned (OpenSpec.upto cucEncodesSpec)

/-- 'spacecraftlaw05.CucDecodes', WHERE WHAT IT READS IS OF BULK AT MOST 1048576: true; the input reads as it did. -/
def cucDecodesUptoRow : OpenClaim := { program := "ytnneanbboooneaa", sum := "b3f6266cd76d1225b165a5ddc94a2e37794f145bd7ff57e11a70b8f5fc4717de", func := "spacecraft/spacecraftlaw05.CucDecodes", spec := "cucDecodes", apart := false, narrowed := true }
def CucDecodesUptoSaid : Prop := cucDecodesUptoRow.holds Try.pinned (OpenSpec.upto cucDecodesSpec)

/-- 'spacecraftlaw05.CucBack', WHERE WHAT IT READS IS OF BULK AT MOST 1048576: true; the input reads as it did. -/
def cucBackUptoRow : OpenClaim := { program := "ytnneanbboooneaa", sum := "b3f6266cd76d1225b165a5ddc94a2e37794f145bd7ff57e11a70b8f5fc4717de", func := "spacecraft/spacecraftlaw05.CucBack", spec := "cucBack", apart := false, narrowed := true }
def CucBackUptoSaid : Prop := cucBackUptoRow.holds Try.pinned (OpenSpec.upto cucBackSpec)

/-- 'spacecraftlaw05.CucForms', WHERE WHAT IT READS IS OF BULK AT MOST 1048576: true; the input reads as it did. -/
def cucFormsUptoRow : OpenClaim := { program := "ytnneanbboooneaa", sum := "b3f6266cd76d1225b165a5ddc94a2e37794f145bd7ff57e11a70b8f5fc4717de", func := "spacecraft/spacecraftlaw05.CucForms", spec := "cucForms", apart := false, narrowed := true }
def CucFormsUptoSaid : Prop := cucFormsUptoRow.holds Try.pinned (OpenSpec.upto cucFormsSpec)

/-- 'spacecraftlaw05.CucOrders', WHERE WHAT IT READS IS OF BULK AT MOST 1048576: true; the input reads as it did. -/
def cucOrdersUptoRow : OpenClaim := { program := "ytnneanbboooneaa", sum := "b3f6266cd76d1225b165a5ddc94a2e37794f145bd7ff57e11a70b8f5fc4717de", func := "spacecraft/spacecraftlaw05.CucOrders", spec := "cucOrders", apart := false, narrowed := true }
def CucOrdersUptoSaid : Prop := cucOrdersUptoRow.holds Try.pinned (OpenSpec.upto cucOrdersSpec)

end Rows
end Go.Proofs.Ytnneanbboooneaa
