/- What was written is read back, plainly. -/
import Derived.Test.YtijionfhnoffcaaPEnc0
namespace Go.Proofs.Ytijionfhnoffcaa
set_option linter.unusedVariables false
set_option linter.unusedSimpArgs false
theorem rd1 {n : Int} (h0 : 0 ≤ n) (h1 : n < 256) (M : List Int) : stU (some (be n 1 ++ M)) 1 = (n, some M) := stU_be n 1 (by omega) (by omega) h0 (by omega) M
theorem rd2 {n : Int} (h0 : 0 ≤ n) (h1 : n < 65536) (M : List Int) : stU (some (be n 2 ++ M)) 2 = (n, some M) := stU_be n 2 (by omega) (by omega) h0 (by omega) M
theorem rd4 {n : Int} (h0 : 0 ≤ n) (h1 : n < 4294967296) (M : List Int) : stU (some (be n 4 ++ M)) 4 = (n, some M) := stU_be n 4 (by omega) (by omega) h0 (by omega) M
theorem emptyB_rest {p : Pd} (h : emptyB (restP p) = true) : (restP p).cls = 0 ∧ (restP p).name = [] ∧ (restP p).size = 0 ∧ (restP p).off = 0 ∧ (restP p).data = [] ∧ (restP p).sum = 0 ∧ (restP p).code = 0 ∧ (restP p).gaps = [] := by
  unfold emptyB at h
  exact of_decide_eq_true h
theorem fldH_enc {p : Pd} (h : validP p = true) (M : List Int) : fldH (some (encP p ++ M)) = (zeroP p.kind p.src p.num, some (bodyE p ++ M)) := by
  obtain ⟨⟨k1, k2⟩, ⟨s1, s2⟩, n1, n2⟩ := valid_head h
  have e0 : encP p ++ M = be p.kind 1 ++ (be p.src 1 ++ (be p.num 2 ++ (bodyE p ++ M))) := by simp [encP, headE]
  unfold fldH
  rw [e0, rd1 (by omega) (by omega)]
  simp only
  rw [rd1 (by omega) (by omega)]
  simp only
  rw [rd2 (by omega) (by omega)]
theorem nameB_len {L : List Int} (h : nameB L = true) : L.length ≤ 64 := by
  unfold nameB at h
  simp only [Bool.and_eq_true, inB_iff] at h
  omega
theorem fld_enc {p : Pd} (h : validP p = true) (hs : 0 ≤ p.sum ∧ p.sum < 4294967296) (M : List Int) : fld (some (encP p ++ M)) = (p, some M) := by
  obtain ⟨_, he⟩ := valid_body h
  obtain ⟨z1, z2, z3, z4, z5, z6, z7, z8⟩ := emptyB_rest he
  unfold fld
  rw [fldH_enc h]
  simp only
  have hh := valid_head h
  by_cases k1 : p.kind = 1
  · obtain ⟨b1, b2, b3⟩ := body1 h k1
    have hn := nameB_len b3
    have eb : bodyE p ++ M = be p.cls 1 ++ (vI p.size ++ (vB p.name ++ M)) := by unfold bodyE; rw [if_pos k1]; simp
    obtain ⟨kind, src, num, cls, name, size, off, data, sum, code, gaps⟩ := p
    simp only at k1 hn b1 b2
    subst k1
    unfold restP at z4 z5 z6 z7 z8
    simp only [if_true] at z4 z5 z6 z7 z8
    subst z4 z5 z6 z7 z8
    rw [eb]
    unfold fldB
    simp only [zeroP, if_true]
    rw [rd1 (by omega) (by omega)]
    simp only
    rw [stI_vn _ (by omega) (by omega)]
    simp only
    rw [stB_vb _ _ (by omega) (by omega)]
  by_cases k2 : p.kind = 2
  · obtain ⟨b1, b2⟩ := body2 h k2
    have eb : bodyE p ++ M = vI p.off ++ (vB p.data ++ M) := by unfold bodyE; rw [if_neg k1, if_pos k2]; simp
    obtain ⟨kind, src, num, cls, name, size, off, data, sum, code, gaps⟩ := p
    simp only at k2 b1 b2
    subst k2
    unfold restP at z1 z2 z3 z6 z7 z8
    simp only [if_true] at z1 z2 z3 z6 z7 z8
    rw [if_neg (by decide)] at z1 z2 z3 z6 z7 z8
    simp only at z1 z2 z3 z6 z7 z8
    subst z1 z2 z3 z6 z7 z8
    rw [eb]
    unfold fldB
    simp only [zeroP, if_true]
    rw [if_neg (by decide)]
    rw [stI_vn _ (by omega) (by omega)]
    simp only
    rw [stB_vb _ _ (by omega) (by omega)]
  by_cases k3 : p.kind = 3
  · obtain ⟨b1, b2, b3⟩ := body3 h k3
    have eb : bodyE p ++ M = be p.cls 1 ++ (vI p.size ++ (be p.sum 4 ++ (be p.code 1 ++ M))) := by unfold bodyE; rw [if_neg k1, if_neg k2, if_pos k3]; simp
    obtain ⟨kind, src, num, cls, name, size, off, data, sum, code, gaps⟩ := p
    simp only at k3 b1 b2 b3 hs
    subst k3
    unfold restP at z2 z4 z5 z8
    simp only [if_true] at z2 z4 z5 z8
    rw [if_neg (by decide), if_neg (by decide)] at z2 z4 z5 z8
    simp only at z2 z4 z5 z8
    subst z2 z4 z5 z8
    rw [eb]
    unfold fldB
    simp only [zeroP, if_true]
    rw [if_neg (by decide), if_neg (by decide)]
    rw [rd1 (by omega) (by omega)]
    simp only
    rw [stI_vn _ (by omega) (by omega)]
    simp only
    rw [rd4 (by omega) (by omega)]
    simp only
    rw [rd1 (by omega) (by omega)]
  by_cases k4 : p.kind = 4
  · obtain ⟨b1, b2⟩ := body4 h k4
    have eb : bodyE p ++ M = vI p.gaps.length ++ (gapsE p.gaps ++ M) := by unfold bodyE; rw [if_neg k1, if_neg k2, if_neg k3, if_pos k4]; simp
    obtain ⟨kind, src, num, cls, name, size, off, data, sum, code, gaps⟩ := p
    simp only at k4 b1 b2
    subst k4
    unfold restP at z1 z2 z3 z4 z5 z6 z7
    simp only [if_true] at z1 z2 z3 z4 z5 z6 z7
    rw [if_neg (by decide), if_neg (by decide), if_neg (by decide)] at z1 z2 z3 z4 z5 z6 z7
    simp only at z1 z2 z3 z4 z5 z6 z7
    subst z1 z2 z3 z4 z5 z6 z7
    rw [eb]
    unfold fldB
    simp only [zeroP, if_true]
    rw [if_neg (by decide), if_neg (by decide), if_neg (by decide)]
    rw [stC_vn _ _ (by omega) (by omega) (by omega)]
    simp only
    rw [Int.toNat_natCast, gapsRd_gapsE _ _ (fun g hg => by obtain ⟨c1, c2⟩ := b2 g hg; omega)]
  by_cases k5 : p.kind = 5
  · have b1 := body5 h k5
    have eb : bodyE p ++ M = be p.code 1 ++ M := by unfold bodyE; rw [if_neg k1, if_neg k2, if_neg k3, if_neg k4, if_pos k5]
    obtain ⟨kind, src, num, cls, name, size, off, data, sum, code, gaps⟩ := p
    simp only at k5 b1
    subst k5
    unfold restP at z1 z2 z3 z4 z5 z6 z8
    simp only [if_true] at z1 z2 z3 z4 z5 z6 z8
    rw [if_neg (by decide), if_neg (by decide), if_neg (by decide), if_neg (by decide)] at z1 z2 z3 z4 z5 z6 z8
    simp only at z1 z2 z3 z4 z5 z6 z8
    subst z1 z2 z3 z4 z5 z6 z8
    rw [eb]
    unfold fldB
    simp only [zeroP, if_true]
    rw [if_neg (by decide), if_neg (by decide), if_neg (by decide), if_neg (by decide)]
    rw [rd1 (by omega) (by omega)]
  · have eb : bodyE p ++ M = M := by unfold bodyE; rw [if_neg k1, if_neg k2, if_neg k3, if_neg k4, if_neg k5]; rfl
    obtain ⟨kind, src, num, cls, name, size, off, data, sum, code, gaps⟩ := p
    simp only at k1 k2 k3 k4 k5
    unfold restP at z1 z2 z3 z4 z5 z6 z7 z8
    simp only [k1, k2, k3, k4, k5, if_false] at z1 z2 z3 z4 z5 z6 z7 z8
    subst z1 z2 z3 z4 z5 z6 z7 z8
    rw [eb]
    unfold fldB
    simp only [zeroP, k1, k2, k3, k4, k5, if_false]
/-- the encoding with nothing behind it is read back; with something behind it, it is not -/
theorem decP_enc {p : Pd} (h : validP p = true) (hs : 0 ≤ p.sum ∧ p.sum < 4294967296) : decP (encP p) = some p := by
  unfold decP
  have := fld_enc h hs []
  rw [List.append_nil] at this
  rw [this]
  simp [endS, h]
theorem decP_more {p : Pd} (h : validP p = true) (hs : 0 ≤ p.sum ∧ p.sum < 4294967296) {M : List Int} (hM : M ≠ []) : decP (encP p ++ M) = none := by
  unfold decP
  rw [fld_enc h hs M]
  simp [endS, hM]
end Go.Proofs.Ytijionfhnoffcaa
