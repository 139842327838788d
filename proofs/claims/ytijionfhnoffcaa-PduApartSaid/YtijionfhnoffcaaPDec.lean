/- The reference's Decode, whatever is read. -/
import Derived.Test.YtijionfhnoffcaaPRdeM
namespace Go.Proofs.Ytijionfhnoffcaa
set_option linter.unusedVariables false
set_option linter.unusedSimpArgs false
theorem rdec_any (w : World) (X : Option Addr) (m c : Nat) (L : List Int) (hO : Oct L) (hl : L.length ≤ 100000) (hmc : m ≤ c) (hcm : c ≤ maxLen) (hv : Vw w X m 1 (octs L)) :
    Calls Try.prog 17 #[.slice X m c] w (DecPost w (decR (decP L)).1 (decR (decP L)).2) := by
  rw [dec_eq hO]
  rcases (by omega : (stU (some L) 1).1 = 1 ∨ (stU (some L) 1).1 = 2 ∨ (stU (some L) 1).1 = 3 ∨ (stU (some L) 1).1 = 4 ∨ (stU (some L) 1).1 = 5 ∨ ((stU (some L) 1).1 < 1 ∨ 5 < (stU (some L) 1).1)) with h | h | h | h | h | h
  · exact rdec_1 w X m c L hO hl hmc hcm hv h
  · exact rdec_2 w X m c L hO hl hmc hcm hv h
  · exact rdec_3 w X m c L hO hl hmc hcm hv h
  · exact rdec_4 w X m c L hO hl hmc hcm hv h
  · exact rdec_5 w X m c L hO hl hmc hcm hv h
  · exact rdec_0 w X m c L hO hl hmc hcm hv h
end Go.Proofs.Ytijionfhnoffcaa
