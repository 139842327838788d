/- The protocol data units, plainly. -/
import Derived.Test.YtfkbcflgbjncdaaOctW
namespace Go.Proofs.Ytfkbcflgbjncdaa
set_option linter.unusedVariables false
set_option linter.unusedSimpArgs false
structure Gp where
  f : Int
  t : Int
deriving DecidableEq
structure Pd where
  kind : Int
  src : Int
  num : Int
  cls : Int
  name : List Int
  size : Int
  off : Int
  data : List Int
  sum : Int
  code : Int
  gaps : List Gp
def inB (n a b : Int) : Bool := decide (a ≤ n) && decide (n ≤ b)
theorem inB_iff {n a b : Int} : inB n a b = true ↔ a ≤ n ∧ n ≤ b := by simp [inB]
def charB (x : Int) : Bool := decide (33 ≤ x) && decide (x ≤ 126)
def nameB (l : List Int) : Bool := l.all charB && inB l.length 1 64
/-- the gaps, from some place on; b: is it the first one? -/
def gapGo : Bool → Int → List Gp → Bool
  | _, _, [] => true
  | b, last, g :: l => if b = true ∧ g.f = 0 ∧ g.t = 0 then gapGo false last l else if g.f ≤ last ∨ g.t ≤ g.f ∨ 65536 < g.t then false else gapGo false g.t l
def gapsB (L : List Gp) : Bool := gapGo true (-1) L && inB L.length 1 16
def restP (p : Pd) : Pd :=
  if p.kind = 1 then { p with cls := 0, size := 0, name := [] }
  else if p.kind = 2 then { p with off := 0, data := [] }
  else if p.kind = 3 then { p with cls := 0, size := 0, sum := 0, code := 0 }
  else if p.kind = 4 then { p with gaps := [] }
  else if p.kind = 5 then { p with code := 0 }
  else p
def emptyB (p : Pd) : Bool := decide (p.cls = 0 ∧ p.name = [] ∧ p.size = 0 ∧ p.off = 0 ∧ p.data = [] ∧ p.sum = 0 ∧ p.code = 0 ∧ p.gaps = [])
def bodyB (p : Pd) : Bool :=
  if p.kind = 1 then inB p.cls 1 2 && (inB p.size 0 65536 && nameB p.name)
  else if p.kind = 2 then inB p.data.length 1 512 && inB p.off 0 (65536 - p.data.length)
  else if p.kind = 3 then inB p.cls 1 2 && (inB p.size 0 65536 && inB p.code 0 17)
  else if p.kind = 4 then gapsB p.gaps
  else if p.kind = 5 then inB p.code 0 17
  else true
def headB (p : Pd) : Bool := inB p.kind 1 7 && (inB p.src 0 15 && inB p.num 0 65535)
def validP (p : Pd) : Bool := headB p && (emptyB (restP p) && bodyB p)
/-- what is read -/
def zeroP (k a n : Int) : Pd := ⟨k, a, n, 0, [], 0, 0, [], 0, 0, []⟩
/-! ### reading and writing -/
end Go.Proofs.Ytfkbcflgbjncdaa
