/- What every walk of this seat imports. -/
import Derived.Test.YtcpfdkmdhpclkaaSl
import Derived.BigQuiet
import Derived.Deep.QuietTactic
import Derived.Deep.RegionHeld3
import Derived.StillTactics
import Derived.BigRegion
import Derived.Deep.RegionLaw
import Derived.Lib.Hide
namespace Go.Proofs.Ytcpfdkmdhpclkaa
set_option linter.unusedVariables false
set_option linter.unusedSimpArgs false
open Go.RowKit
abbrev bptr (g : Nat) : Value := .pointer (some ⟨g, 0, none⟩)
theorem Sl.cap {w : World} {e : TypeId} {size n c : Nat} {A : Option Addr} {xs : List Value} (h : Sl w e size A n c xs) : n ≤ c ∧ c ≤ maxLen := by
  rcases h.form with ⟨_, rfl, rfl⟩ | ⟨g, _, _, h1, h2⟩
  · exact ⟨Nat.le_refl _, Nat.zero_le _⟩
  · exact ⟨h1, h2⟩
end Go.Proofs.Ytcpfdkmdhpclkaa
