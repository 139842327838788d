/- The examples of the chapter, plainly. -/
import Derived.Test.YtijionfhnoffcaaPSame
namespace Go.Proofs.Ytijionfhnoffcaa
set_option linter.unusedVariables false
set_option linter.unusedSimpArgs false
def exM : Pd := ⟨1, 1, 300, 2, [120], 4, 0, [], 0, 0, []⟩
def exN : Pd := ⟨4, 1, 5, 0, [], 0, 0, [], 0, 0, [⟨0, 0⟩, ⟨0, 2⟩]⟩
def exK : Pd := ⟨4, 1, 5, 0, [], 0, 0, [], 0, 0, [⟨0, 2⟩, ⟨2, 4⟩]⟩
def octM : List Int := [1, 1, 1, 44, 2, 8, 2, 120]
def octN : List Int := [4, 1, 0, 5, 4, 0, 0, 0, 4]
theorem validM : validP exM = true := by decide
theorem validN : validP exN = true := by decide
theorem validK : validP exK = false := by decide
theorem encM : encP exM = octM := by
  simp [encP, headE, bodyE, exM, vB, vI, zz, vn_small, be, octM]
theorem encN : encP exN = octN := by
  simp [encP, headE, bodyE, exN, gapsE, vI, zz, vn_small, be, octN]
theorem encRM : encR exM = (octM, 0) := by unfold encR; rw [validM, if_pos rfl, encM]
theorem encRN : encR exN = (octN, 0) := by unfold encR; rw [validN, if_pos rfl, encN]
theorem encRK : encR exK = ([], 1) := by unfold encR; rw [validK]; rfl
theorem octM_oct : Oct octM := by intro x hx; simp [octM] at hx; omega
theorem octN_oct : Oct octN := by intro x hx; simp [octN] at hx; omega
theorem decN : decR (decP octN) = (exN, 0) := by
  rw [← encN, decP_enc validN (by simp [exN])]; rfl
theorem decM7 : decR (decP (octM.take 7)) = (zP, 4) := by
  cases h : decP (octM.take 7) with
  | none => rfl
  | some p =>
    exfalso
    obtain ⟨h1, h2⟩ := decP_some (oct_take octM_oct 7) h
    have hs : 0 ≤ p.sum ∧ p.sum < 4294967296 := by
      have hb : p.kind = 1 := by
        have := congrArg (fun L => L.head?) h2
        simp [encP, headE, be, octM] at this
        have := (valid_head h1).1
        omega
      have he := (valid_body h1).2
      obtain ⟨_, _, _, _, _, z6, _, _⟩ := emptyB_rest he
      unfold restP at z6
      rw [if_pos hb] at z6
      simp only at z6
      omega
    have h3 := decP_more h1 hs (M := [120]) (by simp)
    have h4 : encP p ++ [120] = encP exM := by rw [h2, encM]; rfl
    rw [h4, decP_enc validM (by simp [exM])] at h3
    cases h3
end Go.Proofs.Ytijionfhnoffcaa
