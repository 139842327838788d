/- How long an encoding is. -/
import Derived.Test.YtijionfhnoffcaaPLawA
namespace Go.Proofs.Ytijionfhnoffcaa
set_option linter.unusedVariables false
set_option linter.unusedSimpArgs false
theorem gapsE_len : ∀ (G : List Gp), (∀ g ∈ G, (0 ≤ g.f ∧ g.f ≤ 65536) ∧ (0 ≤ g.t ∧ g.t ≤ 65536)) → (gapsE G).length ≤ 20 * G.length
  | [], _ => by simp [gapsE]
  | g :: G, h => by
    have ih := gapsE_len G (fun x hx => h x (by simp [hx]))
    have hg := h g (by simp)
    have h1 := vI_len (n := g.f) (by omega) (by omega)
    have h2 := vI_len (n := g.t) (by omega) (by omega)
    have e : gapsE (g :: G) = (vI g.f ++ vI g.t) ++ gapsE G := by simp [gapsE]
    rw [e]
    simp only [List.length_append, List.length_cons]
    omega
theorem encV_len {p : Pd} (hv : validP p = true) : (encP p).length ≤ 50000 := by
  have hh : (headE p).length = 4 := by simp [headE, be_length]
  have hk := (valid_head hv).1
  unfold encP
  rw [List.length_append, hh]
  unfold bodyE
  by_cases k1 : p.kind = 1
  · obtain ⟨b1, b2, b3⟩ := body1 hv k1
    have hn := nameB_len b3
    rw [if_pos k1]
    have h1 := vI_len (n := p.size) (by omega) (by omega)
    have h2 := vI_len (n := (p.name.length : Int)) (by omega) (by omega)
    unfold vB
    simp only [List.length_append, be_length]
    omega
  rw [if_neg k1]
  by_cases k2 : p.kind = 2
  · obtain ⟨b1, b2⟩ := body2 hv k2
    rw [if_pos k2]
    have h1 := vI_len (n := p.off) (by omega) (by omega)
    have h2 := vI_len (n := (p.data.length : Int)) (by omega) (by omega)
    unfold vB
    simp only [List.length_append]
    omega
  rw [if_neg k2]
  by_cases k3 : p.kind = 3
  · obtain ⟨b1, b2, b3⟩ := body3 hv k3
    rw [if_pos k3]
    have h1 := vI_len (n := p.size) (by omega) (by omega)
    simp only [List.length_append, be_length]
    omega
  rw [if_neg k3]
  by_cases k4 : p.kind = 4
  · obtain ⟨b1, b2⟩ := body4 hv k4
    rw [if_pos k4]
    have h1 := vI_len (n := (p.gaps.length : Int)) (by omega) (by omega)
    have h2 := gapsE_len p.gaps b2
    simp only [List.length_append]
    omega
  rw [if_neg k4]
  by_cases k5 : p.kind = 5
  · rw [if_pos k5]; simp [be_length]
  · rw [if_neg k5]; simp
end Go.Proofs.Ytijionfhnoffcaa
