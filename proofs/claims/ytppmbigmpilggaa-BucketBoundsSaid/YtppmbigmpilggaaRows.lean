/-
  No cell of these rows narrows 'for every input' (looked for: loops, veiled, ifaces, maps, wideKeys, modest, calm, conditions, laid).
  DERIVED. THE GIVEN ROWS OF THIS SEAT. 5 by the template 'for every input the law returns true; each argument reads behind the call as it read before'; 0 by the template 'total and deterministic' (their statements: YtppmbigmpilggaaTotals.lean).
  GIVEN WITH THE SEED: the statements are not yours to turn. If you find one false, say at which input.
  Laid BY PROGRAM, IN A SANDBOX (cutbox-rows.mjs): the forced cells as the released guide's own fill.sh prints them over the translation d2534a836a41576f… (all of the seat's roots in one cut). By AI agents, Wed Nov 11 2026. No macro, syntax, notation, axiom, sorry.
-/
import Derived.Test.YtppmbigmpilggaaChecked
import GoSem.Claim
import GoSem.ClaimJoined
import GoSem.ClaimMapViews
import Derived.JoinedTies
import Derived.KernelRfl
namespace Go.Proofs.Ytppmbigmpilggaa
/- THE CELL 'sum', in the pinned program and in every row, IS THE sha256 OF THE DUMP (.gsa) THAT YtppmbigmpilggaaProg.lean LOADS. Nothing in Lean hashes anything: it is a label: what it is worth is what the hold of that sum in a sandbox is worth. -/
noncomputable def Try.pinned : Pinned := { name := "ytppmbigmpilggaa", sum := "d2534a836a41576fa0b9d1c67a88f3a926ed93e0c753d19f7ba34e31444f1014", checked := Try.checked }
namespace Rows
def none {H : Type} : Left H := { results := [], args := [] }

/-- 'spacecraftlaw21.BucketPlays': WHATEVER THE INPUT: true; the input reads as it did. -/
def bucketPlaysSpec : ChangeSpec := { name := "bucketPlays", fn := fun _ => fun
  | [d1, d2, d3] => { results := [.lit (.bool true)], args := [d1, d2, d3] }
  | _ => none }
def bucketPlaysRow : OpenClaim := { program := "ytppmbigmpilggaa", sum := "d2534a836a41576fa0b9d1c67a88f3a926ed93e0c753d19f7ba34e31444f1014", func := "spacecraft/spacecraftlaw21.BucketPlays", spec := "bucketPlays", apart := false }
def BucketPlaysSaid : Prop := bucketPlaysRow.holds Try.pinned (OpenSpec.ofChange bucketPlaysSpec)

/-- ITS FALSE NEIGHBOUR: 'it returns false'. Refute it at one input. -/
def bucketPlaysWrong : ChangeSpec := { name := "bucketPlays", fn := fun _ => fun
  | [d1, d2, d3] => { results := [.lit (.bool false)], args := [d1, d2, d3] }
  | _ => none }
def BucketPlaysWrongFalsely : Prop := bucketPlaysRow.holds Try.pinned (OpenSpec.ofChange bucketPlaysWrong)

/-- 'spacecraftlaw21.BucketBounds': WHATEVER THE INPUT: true; the input reads as it did. -/
def bucketBoundsSpec : ChangeSpec := { name := "bucketBounds", fn := fun _ => fun
  | [d1, d2, d3] => { results := [.lit (.bool true)], args := [d1, d2, d3] }
  | _ => none }
def bucketBoundsRow : OpenClaim := { program := "ytppmbigmpilggaa", sum := "d2534a836a41576fa0b9d1c67a88f3a926ed93e0c753d19f7ba34e31444f1014", func := "spacecraft/spacecraftlaw21.BucketBounds", spec := "bucketBounds", apart := false }
def BucketBoundsSaid : Prop := bucketBoundsRow.holds Try.pinned (OpenSpec.ofChange bucketBoundsSpec)

/-- ITS FALSE NEIGHBOUR: 'it returns false'. Refute it at one input. -/
def bucketBoundsWrong : ChangeSpec := { name := "bucketBounds", fn := fun _ => fun
  | [d1, d2, d3] => { results := [.lit (.bool false)], args := [d1, d2, d3] }
  | _ => none }
def BucketBoundsWrongFalsely : Prop := bucketBoundsRow.holds Try.pinned (OpenSpec.ofChange bucketBoundsWrong)

/-- 'spacecraftlaw21.BucketFirst': WHATEVER THE INPUT: true; the input reads as it did. -/
def bucketFirstSpec : ChangeSpec := { name := "bucketFirst", fn := fun _ => fun
  | [d] => { results := [.lit (.bool true)], args := [d] }
  | _ => none }
def bucketFirstRow : OpenClaim := { program := "ytppmbigmpilggaa", sum := "d2534a836a41576fa0b9d1c67a88f3a926ed93e0c753d19f7ba34e31444f1014", func := "spacecraft/spacecraftlaw21.BucketFirst", spec := "bucketFirst", apart := false }
def BucketFirstSaid : Prop := bucketFirstRow.holds Try.pinned (OpenSpec.ofChange bucketFirstSpec)

/-- ITS FALSE NEIGHBOUR: 'it returns false'. Refute it at one input. -/
def bucketFirstWrong : ChangeSpec := { name := "bucketFirst", fn := fun _ => fun
  | [d] => { results := [.lit (.bool false)], args := [d] }
  | _ => none }
def BucketFirstWrongFalsely : Prop := bucketFirstRow.holds Try.pinned (OpenSpec.ofChange bucketFirstWrong)

/-- 'spacecraftlaw21.BucketClones': WHATEVER THE INPUT: true; the input reads as it did. -/
def bucketClonesSpec : ChangeSpec := { name := "bucketClones", fn := fun _ => fun
  | [d1, d2, d3] => { results := [.lit (.bool true)], args := [d1, d2, d3] }
  | _ => none }
def bucketClonesRow : OpenClaim := { program := "ytppmbigmpilggaa", sum := "d2534a836a41576fa0b9d1c67a88f3a926ed93e0c753d19f7ba34e31444f1014", func := "spacecraft/spacecraftlaw21.BucketClones", spec := "bucketClones", apart := false }
def BucketClonesSaid : Prop := bucketClonesRow.holds Try.pinned (OpenSpec.ofChange bucketClonesSpec)

/-- ITS FALSE NEIGHBOUR: 'it returns false'. Refute it at one input. -/
def bucketClonesWrong : ChangeSpec := { name := "bucketClones", fn := fun _ => fun
  | [d1, d2, d3] => { results := [.lit (.bool false)], args := [d1, d2, d3] }
  | _ => none }
def BucketClonesWrongFalsely : Prop := bucketClonesRow.holds Try.pinned (OpenSpec.ofChange bucketClonesWrong)

/-- 'spacecraftlaw21.BucketNone': WHATEVER THE INPUT: true; the input reads as it did. -/
def bucketNoneSpec : ChangeSpec := { name := "bucketNone", fn := fun _ => fun
  | [d1, d2] => { results := [.lit (.bool true)], args := [d1, d2] }
  | _ => none }
def bucketNoneRow : OpenClaim := { program := "ytppmbigmpilggaa", sum := "d2534a836a41576fa0b9d1c67a88f3a926ed93e0c753d19f7ba34e31444f1014", func := "spacecraft/spacecraftlaw21.BucketNone", spec := "bucketNone", apart := false }
def BucketNoneSaid : Prop := bucketNoneRow.holds Try.pinned (OpenSpec.ofChange bucketNoneSpec)

/-- ITS FALSE NEIGHBOUR: 'it returns false'. Refute it at one input. -/
def bucketNoneWrong : ChangeSpec := { name := "bucketNone", fn := fun _ => fun
  | [d1, d2] => { results := [.lit (.bool false)], args := [d1, d2] }
  | _ => none }
def BucketNoneWrongFalsely : Prop := bucketNoneRow.holds Try.pinned (OpenSpec.ofChange bucketNoneWrong)

/- THE SECOND FORM. 'bulk': how many values and letters a reading holds, each counted each time it is reached (what is shared counts as often as it is met; a slice's spare places count too). A statement '..UptoSaid' is the law's where the arguments, and the package variables that the reading takes, are together of bulk at most 1048576: NARROWER than '..Said'. Prove '..Said' where nothing that the law and all that it calls make is longer than what came in: it says more and counts as full. Else prove '..UptoSaid'. A law counts once. -/
mutual
def uptoBulk {H : Type} : DataW H → Nat
  | .lit (.string bytes) => bytes.length + 1
  | .lit _ => 1
  | .nil => 1
  | .ptr d => uptoBulk d + 1
  | .slice elems spare => uptoBulkAll elems + uptoBulkAll spare + 1
  | .agg parts => uptoBulkAll parts + 1
  | .iface _ d => uptoBulk d + 1
  | .map entries => uptoBulkEntries entries + 1
  | .held _ => 1
def uptoBulkAll {H : Type} : List (DataW H) → Nat
  | [] => 0
  | d :: r => uptoBulk d + uptoBulkAll r
def uptoBulkEntries {H : Type} : List (Lit × DataW H) → Nat
  | [] => 0
  | x :: r => uptoBulkEntry x + uptoBulkEntries r
def uptoBulkEntry {H : Type} : Lit × DataW H → Nat
  | (.string bytes, d) => bytes.length + uptoBulk d + 1
  | (_, d) => uptoBulk d + 1
 end
def uptoSmall : (H : Type) → List (DataW H) → Bool := fun _ ds => decide (uptoBulkAll ds ≤ 1048576)
def OpenSpec.upto (s : _root_.Go.ChangeSpec) : _root_.Go.OpenSpec := { _root_.Go.OpenSpec.ofChange s with cond := some uptoSmall }

/-- 'spacecraftlaw21.BucketPlays', WHERE WHAT IT READS IS OF BULK AT MOST 1048576: true; the input reads as it did. -/
def bucketPlaysUptoRow : OpenClaim := { program := "ytppmbigmpilggaa", sum := "d2534a836a41576fa0b9d1c67a88f3a926ed93e0c753d19f7ba34e31444f1014", func := "spacecraft/spacecraftlaw21.BucketPlays", spec := "bucketPlays", apart := false, narrowed := true }
def BucketPlaysUptoSaid : Prop := bucketPlaysUptoRow.holds Try.pinned (OpenSpec.upto bucketPlaysSpec)

/-- 'spacecraftlaw21.BucketBounds', WHERE WHAT IT READS IS OF BULK AT MOST 1048576: true; the input reads as it did. -/
def bucketBoundsUptoRow : OpenClaim := { program := "ytppmbigmpilggaa", sum := "d2534a836a41576fa0b9d1c67a88f3a926ed93e0c753d19f7ba34e31444f1014", func := "spacecraft/spacecraftlaw21.BucketBounds", spec := "bucketBounds", apart := false, narrowed := true }
def BucketBoundsUptoSaid : Prop := bucketBoundsUptoRow.holds Try.pinned (OpenSpec.upto bucketBoundsSpec)

/-- 'spacecraftlaw21.BucketFirst', WHERE WHAT IT READS IS OF BULK AT MOST 1048576: true; the input reads as it did. -/
def bucketFirstUptoRow : OpenClaim := { program := "ytppmbigmpilggaa", sum := "d2534a836a41576fa0b9d1c67a88f3a926ed93e0c753d19f7ba34e31444f1014", func := "spacecraft/spacecraftlaw21.BucketFirst", spec := "bucketFirst", apart := false, narrowed := true }
def BucketFirstUptoSaid : Prop := bucketFirstUptoRow.holds Try.pinned (OpenSpec.upto bucketFirstSpec)

/-- 'spacecraftlaw21.BucketClones', WHERE WHAT IT READS IS OF BULK AT MOST 1048576: true; the input reads as it did. -/
def bucketClonesUptoRow : OpenClaim := { program := "ytppmbigmpilggaa", sum := "d2534a836a41576fa0b9d1c67a88f3a926ed93e0c753d19f7ba34e31444f1014", func := "spacecraft/spacecraftlaw21.BucketClones", spec := "bucketClones", apart := false, narrowed := true }
def BucketClonesUptoSaid : Prop := bucketClonesUptoRow.holds Try.pinned (OpenSpec.upto bucketClonesSpec)

/-- 'spacecraftlaw21.BucketNone', WHERE WHAT IT READS IS OF BULK AT MOST 1048576: true; the input reads as it did. -/
def bucketNoneUptoRow : OpenClaim := { program := "ytppmbigmpilggaa", sum := "d2534a836a41576fa0b9d1c67a88f3a926ed93e0c753d19f7ba34e31444f1014", func := "spacecraft/spacecraftlaw21.BucketNone", spec := "bucketNone", apart := false, narrowed := true }
def BucketNoneUptoSaid : Prop := bucketNoneUptoRow.holds Try.pinned (OpenSpec.upto bucketNoneSpec)

end Rows
end Go.Proofs.Ytppmbigmpilggaa
