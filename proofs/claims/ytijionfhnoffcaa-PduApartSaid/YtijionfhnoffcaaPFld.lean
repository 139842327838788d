/- The program's fields, whatever is read. -/
import Derived.Test.YtijionfhnoffcaaPFldM
namespace Go.Proofs.Ytijionfhnoffcaa
set_option linter.unusedVariables false
set_option linter.unusedSimpArgs false
theorem pfld_any (w : World) (g : Nat) (X : Option Addr) (s0 : RS) (hok : RSok s0) (hr : RO w g X s0) (hg : g < w.heap.size) (hX : ∀ x, x ∈ blks X → x < w.heap.size) : Calls Try.prog 37 #[bptr g] w (FdPost w g (fld s0)) := by
  rcases (by omega : (stU s0 1).1 = 1 ∨ (stU s0 1).1 = 2 ∨ (stU s0 1).1 = 3 ∨ (stU s0 1).1 = 4 ∨ (stU s0 1).1 = 5 ∨ ((stU s0 1).1 < 1 ∨ 5 < (stU s0 1).1)) with h | h | h | h | h | h
  · exact pfld_1 w g X s0 hok hr hg hX h
  · exact pfld_2 w g X s0 hok hr hg hX h
  · exact pfld_3 w g X s0 hok hr hg hX h
  · exact pfld_4 w g X s0 hok hr hg hX h
  · exact pfld_5 w g X s0 hok hr hg hX h
  · exact pfld_0 w g X s0 hok hr hg hX h
end Go.Proofs.Ytijionfhnoffcaa
