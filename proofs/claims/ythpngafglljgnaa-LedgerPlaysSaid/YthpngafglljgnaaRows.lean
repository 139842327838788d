/-
  No cell of these rows narrows 'for every input' (looked for: loops, veiled, ifaces, maps, wideKeys, modest, calm, conditions, laid).
  DERIVED. THE GIVEN ROWS OF THIS SEAT. 5 by the template 'for every input the law returns true; each argument reads behind the call as it read before'; 0 by the template 'total and deterministic' (their statements: YthpngafglljgnaaTotals.lean).
  GIVEN WITH THE SEED: the statements are not yours to turn. If you find one false, say at which input.
  Laid BY PROGRAM, IN A SANDBOX (cutbox-rows.mjs): the forced cells as the released guide's own fill.sh prints them over the translation afda58681ad3a3af… (all of the seat's roots in one cut). By AI agents, Wed Nov 11 2026. No macro, syntax, notation, axiom, sorry.
-/
import Derived.Test.YthpngafglljgnaaChecked
import GoSem.Claim
import GoSem.ClaimJoined
import GoSem.ClaimMapViews
import Derived.JoinedTies
import Derived.KernelRfl
namespace Go.Proofs.Ythpngafglljgnaa
/- THE CELL 'sum', in the pinned program and in every row, IS THE sha256 OF THE DUMP (.gsa) THAT YthpngafglljgnaaProg.lean LOADS. Nothing in Lean hashes anything: it is a label: what it is worth is what the hold of that sum in a sandbox is worth. -/
noncomputable def Try.pinned : Pinned := { name := "ythpngafglljgnaa", sum := "afda58681ad3a3af84c2a05886b611b64a993b9eeeb664fb389e2b37e06e8d19", checked := Try.checked }
namespace Rows
def none {H : Type} : Left H := { results := [], args := [] }

/-- 'spacecraftlaw40.LedgerSources': WHATEVER THE INPUT: true; the input reads as it did. -/
def ledgerSourcesSpec : ChangeSpec := { name := "ledgerSources", fn := fun _ => fun
  | [d1, d2, d3] => { results := [.lit (.bool true)], args := [d1, d2, d3] }
  | _ => none }
def ledgerSourcesRow : OpenClaim := { program := "ythpngafglljgnaa", sum := "afda58681ad3a3af84c2a05886b611b64a993b9eeeb664fb389e2b37e06e8d19", func := "spacecraft/spacecraftlaw40.LedgerSources", spec := "ledgerSources", apart := false }
def LedgerSourcesSaid : Prop := ledgerSourcesRow.holds Try.pinned (OpenSpec.ofChange ledgerSourcesSpec)

/-- ITS FALSE NEIGHBOUR: 'it returns false'. Refute it at one input. -/
def ledgerSourcesWrong : ChangeSpec := { name := "ledgerSources", fn := fun _ => fun
  | [d1, d2, d3] => { results := [.lit (.bool false)], args := [d1, d2, d3] }
  | _ => none }
def LedgerSourcesWrongFalsely : Prop := ledgerSourcesRow.holds Try.pinned (OpenSpec.ofChange ledgerSourcesWrong)

/-- 'spacecraftlaw40.LedgerLoads': WHATEVER THE INPUT: true; the input reads as it did. -/
def ledgerLoadsSpec : ChangeSpec := { name := "ledgerLoads", fn := fun _ => fun
  | [d] => { results := [.lit (.bool true)], args := [d] }
  | _ => none }
def ledgerLoadsRow : OpenClaim := { program := "ythpngafglljgnaa", sum := "afda58681ad3a3af84c2a05886b611b64a993b9eeeb664fb389e2b37e06e8d19", func := "spacecraft/spacecraftlaw40.LedgerLoads", spec := "ledgerLoads", apart := false }
def LedgerLoadsSaid : Prop := ledgerLoadsRow.holds Try.pinned (OpenSpec.ofChange ledgerLoadsSpec)

/-- ITS FALSE NEIGHBOUR: 'it returns false'. Refute it at one input. -/
def ledgerLoadsWrong : ChangeSpec := { name := "ledgerLoads", fn := fun _ => fun
  | [d] => { results := [.lit (.bool false)], args := [d] }
  | _ => none }
def LedgerLoadsWrongFalsely : Prop := ledgerLoadsRow.holds Try.pinned (OpenSpec.ofChange ledgerLoadsWrong)

/-- 'spacecraftlaw40.LedgerOnce': WHATEVER THE INPUT: true; the input reads as it did. -/
def ledgerOnceSpec : ChangeSpec := { name := "ledgerOnce", fn := fun _ => fun
  | [d] => { results := [.lit (.bool true)], args := [d] }
  | _ => none }
def ledgerOnceRow : OpenClaim := { program := "ythpngafglljgnaa", sum := "afda58681ad3a3af84c2a05886b611b64a993b9eeeb664fb389e2b37e06e8d19", func := "spacecraft/spacecraftlaw40.LedgerOnce", spec := "ledgerOnce", apart := false }
def LedgerOnceSaid : Prop := ledgerOnceRow.holds Try.pinned (OpenSpec.ofChange ledgerOnceSpec)

/-- ITS FALSE NEIGHBOUR: 'it returns false'. Refute it at one input. -/
def ledgerOnceWrong : ChangeSpec := { name := "ledgerOnce", fn := fun _ => fun
  | [d] => { results := [.lit (.bool false)], args := [d] }
  | _ => none }
def LedgerOnceWrongFalsely : Prop := ledgerOnceRow.holds Try.pinned (OpenSpec.ofChange ledgerOnceWrong)

/-- 'spacecraftlaw40.LedgerPlays': WHATEVER THE INPUT: true; the input reads as it did. -/
def ledgerPlaysSpec : ChangeSpec := { name := "ledgerPlays", fn := fun _ => fun
  | [d] => { results := [.lit (.bool true)], args := [d] }
  | _ => none }
def ledgerPlaysRow : OpenClaim := { program := "ythpngafglljgnaa", sum := "afda58681ad3a3af84c2a05886b611b64a993b9eeeb664fb389e2b37e06e8d19", func := "spacecraft/spacecraftlaw40.LedgerPlays", spec := "ledgerPlays", apart := false }
def LedgerPlaysSaid : Prop := ledgerPlaysRow.holds Try.pinned (OpenSpec.ofChange ledgerPlaysSpec)

/-- ITS FALSE NEIGHBOUR: 'it returns false'. Refute it at one input. -/
def ledgerPlaysWrong : ChangeSpec := { name := "ledgerPlays", fn := fun _ => fun
  | [d] => { results := [.lit (.bool false)], args := [d] }
  | _ => none }
def LedgerPlaysWrongFalsely : Prop := ledgerPlaysRow.holds Try.pinned (OpenSpec.ofChange ledgerPlaysWrong)

/-- 'spacecraftlaw40.LedgerFresh': WHATEVER THE INPUT: true; the input reads as it did. -/
def ledgerFreshSpec : ChangeSpec := { name := "ledgerFresh", fn := fun _ => fun
  | [d1, d2, d3] => { results := [.lit (.bool true)], args := [d1, d2, d3] }
  | _ => none }
def ledgerFreshRow : OpenClaim := { program := "ythpngafglljgnaa", sum := "afda58681ad3a3af84c2a05886b611b64a993b9eeeb664fb389e2b37e06e8d19", func := "spacecraft/spacecraftlaw40.LedgerFresh", spec := "ledgerFresh", apart := false }
def LedgerFreshSaid : Prop := ledgerFreshRow.holds Try.pinned (OpenSpec.ofChange ledgerFreshSpec)

/-- ITS FALSE NEIGHBOUR: 'it returns false'. Refute it at one input. -/
def ledgerFreshWrong : ChangeSpec := { name := "ledgerFresh", fn := fun _ => fun
  | [d1, d2, d3] => { results := [.lit (.bool false)], args := [d1, d2, d3] }
  | _ => none }
def LedgerFreshWrongFalsely : Prop := ledgerFreshRow.holds Try.pinned (OpenSpec.ofChange ledgerFreshWrong)

/- THE SECOND FORM. 'bulk': how many values and letters a reading holds, each counted each time it is reached (what is shared counts as often as it is met; a slice's spare places count too). A statement '..UptoSaid' is the law's where the arguments, and the package variables that the reading takes, are together of bulk at most 1048576: NARROWER than '..Said'. Prove '..Said' where nothing that the law and all that it calls make is longer than what came in: it says more and counts as full. Else prove '..UptoSaid'. A law counts once. -/
mutual
def uptoBulk {H : Type} : DataW H → Nat
  | .lit (.string bytes) => bytes.length + 1
  | .lit _ => 1
  | .nil => 1
  | .ptr d => uptoBulk d + 1
  | .slice elems spare => uptoBulkAll elems + uptoBulkAll spare + 1
  | .agg parts => uptoBulkAll parts + 1
  | .iface _ d => uptoBulk d + 1
  | .map entries => uptoBulkEntries entries + 1
  | .held _ => 1
def uptoBulkAll {H : Type} : List (DataW H) → Nat
  | [] => 0
  | d :: r => uptoBulk d + uptoBulkAll r
def uptoBulkEntries {H : Type} : List (Lit × DataW H) → Nat
  | [] => 0
  | x :: r => uptoBulkEntry x + uptoBulkEntries r
def uptoBulkEntry {H : Type} : Lit × DataW H → Nat
  | (.string bytes, d) => bytes.length + uptoBulk d + 1
  | (_, d) => uptoBulk d + 1
 end
def uptoSmall : (H : Type) → List (DataW H) → Bool := fun _ ds => decide (uptoBulkAll ds ≤ 1048576)
def OpenSpec.upto (s : _root_.Go.ChangeSpec) : _root_.Go.OpenSpec := { _root_.Go.OpenSpec.ofChange s with cond := some uptoSmall }

/-- 'spacecraftlaw40.LedgerSources', WHERE WHAT IT READS IS OF BULK AT MOST 1048576: true; the input reads as it did. -/
def ledgerSourcesUptoRow : OpenClaim := { program := "ythpngafglljgnaa", sum := "afda58681ad3a3af84c2a05886b611b64a993b9eeeb664fb389e2b37e06e8d19", func := "spacecraft/spacecraftlaw40.LedgerSources", spec := "ledgerSources", apart := false, narrowed := true }
def LedgerSourcesUptoSaid : Prop := ledgerSourcesUptoRow.holds Try.pinned (OpenSpec.upto ledgerSourcesSpec)

/-- 'spacecraftlaw40.LedgerLoads', WHERE WHAT IT READS IS OF BULK AT MOST 1048576: true; the input reads as it did. -/
def ledgerLoadsUptoRow : OpenClaim := { program := "ythpngafglljgnaa", sum := "afda58681ad3a3af84c2a05886b611b64a993b9eeeb664fb389e2b37e06e8d19", func := "spacecraft/spacecraftlaw40.LedgerLoads", spec := "ledgerLoads", apart := false, narrowed := true }
def LedgerLoadsUptoSaid : Prop := ledgerLoadsUptoRow.holds Try.pinned (OpenSpec.upto ledgerLoadsSpec)

/-- 'spacecraftlaw40.LedgerOnce', WHERE WHAT IT READS IS OF BULK AT MOST 1048576: true; the input reads as it did. -/
def ledgerOnceUptoRow : OpenClaim := { program := "ythpngafglljgnaa", sum := "afda58681ad3a3af84c2a05886b611b64a993b9eeeb664fb389e2b37e06e8d19", func := "spacecraft/spacecraftlaw40.LedgerOnce", spec := "ledgerOnce", apart := false, narrowed := true }
def LedgerOnceUptoSaid : Prop := ledgerOnceUptoRow.holds Try.pinned (OpenSpec.upto ledgerOnceSpec)

/-- 'spacecraftlaw40.LedgerPlays', WHERE WHAT IT READS IS OF BULK AT MOST 1048576: true; the input reads as it did. -/
def ledgerPlaysUptoRow : OpenClaim := { program := "ythpngafglljgnaa", sum := "afda58681ad3a3af84c2a05886b611b64a993b9eeeb664fb389e2b37e06e8d19", func := "spacecraft/spacecraftlaw40.LedgerPlays", spec := "ledgerPlays", apart := false, narrowed := true }
def LedgerPlaysUptoSaid : Prop := ledgerPlaysUptoRow.holds Try.pinned (OpenSpec.upto ledgerPlaysSpec)

/-- 'spacecraftlaw40.LedgerFresh', WHERE WHAT IT READS IS OF BULK AT MOST 1048576: true; the input reads as it did. -/
def ledgerFreshUptoRow : OpenClaim := { program := "ythpngafglljgnaa", sum := "afda58681ad3a3af84c2a05886b611b64a993b9eeeb664fb389e2b37e06e8d19", func := "spacecraft/spacecraftlaw40.LedgerFresh", spec := "ledgerFresh", apart := false, narrowed := true }
def LedgerFreshUptoSaid : Prop := ledgerFreshUptoRow.holds Try.pinned (OpenSpec.upto ledgerFreshSpec)

end Rows
end Go.Proofs.Ythpngafglljgnaa
