/- slices.Equal of two equal rows of words. -/
import Derived.Test.YtfkbcflgbjncdaaVauC
namespace Go.Proofs.Ytfkbcflgbjncdaa
set_option linter.unusedVariables false
set_option linter.unusedSimpArgs false
open Go.RowKit
set_option maxHeartbeats 2000000 in
theorem equal_same (w : World) (X Y : Option Addr) (m c d : Nat) (l : List Nat) (hx : Vw w X m 1 (u32s l)) (hy : Vw w Y m 1 (u32s l)) (hmc : m ≤ c) (hcm : c ≤ maxLen) (hmd : m ≤ d) (hdm : d ≤ maxLen) :
    Calls Try.prog 150 #[.slice X m c, .slice Y m d] w fun e w' => e = .returned (.bool true) ∧ Keep w.heap.size [] w w' := by
  have h1 : (m : Int) ≤ (c : Int) := by omega
  have h2 : (c : Int) ≤ 9223372036854775807 := by unfold maxLen at hcm; omega
  have h3 : (m : Int) ≤ (d : Int) := by omega
  have h4 : (d : Int) ≤ 9223372036854775807 := by unfold maxLen at hdm; omega
  have HX := Lib.hid hx
  have HY := Lib.hid hy
  clear hx hy
  go_enter Try.func150, Try.ntmps150
  go_wp2_with fail
  go_loopw [13] (fun ii wr => ∃ k : Nat, k ≤ m ∧ ii = .int .i64 k ∧ Keep w.heap.size [] w wr) (fun ii _ => m - (intOf ii).toNat)
  case atStart => exact ⟨0, by omega, rfl, Keep.refl _ _ _⟩
  case round =>
    obtain ⟨k, hk, rfl, hkw⟩ := hrel
    have KW := Lib.hid hkw
    clear hkw
    by_cases hlt : k < m
    · have hki : (k : Int) < (m : Int) := by omega
      obtain ⟨b1, o1, u, rfl, _, hu, hc1⟩ := (HX.out.keep0 KW.out).at_ hlt
      obtain ⟨b2, o2, u2, rfl, _, hu2, hc2⟩ := (HY.out.keep0 KW.out).at_ hlt
      rw [hu] at hu2
      cases hu2
      obtain ⟨x, _, rfl⟩ := u32s_at hu
      clear hu
      go_wp2_with fail
      go_quiet (fail)
      go_wp2_with fail
      go_roundw
      case rel => exact ⟨k + 1, by omega, by go_num, KW.out.drewN _⟩
      case measure => simp [intOf] <;> omega
    · obtain rfl : k = m := by omega
      go_wp2_with fail
      go_ret
      exact ⟨rfl, KW.out⟩
end Go.Proofs.Ytfkbcflgbjncdaa
