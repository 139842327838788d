/- Which units are valid. -/
import Derived.Test.YtfkbcflgbjncdaaTxU
namespace Go.Proofs.Ytfkbcflgbjncdaa
set_option linter.unusedVariables false
set_option linter.unusedSimpArgs false
open Go.RowKit
theorem gapGo_nrm : ∀ (L : List Gp) (b : Bool) (last : Int), L.Pairwise (fun a b => a.t < b.f) → (∀ g ∈ L, g.f < g.t ∧ g.t ≤ 65536 ∧ last < g.f) → gapGo b last L = true
  | [], b, last, _, _ => by cases b <;> rfl
  | g :: l, b, last, hp, h => by
    obtain ⟨h1, h2, h3⟩ := h g (by simp)
    obtain ⟨a1, a2⟩ := List.pairwise_cons.1 hp
    rw [gapGo_next (by rintro ⟨_, k1, k2⟩; omega) (by omega)]
    exact gapGo_nrm l false g.t a2 fun x hx => by
      have := h x (by simp [hx])
      have := a1 x hx
      omega
/-- the units that are sent are valid -/
theorem valid_nk {F : List Int} {b : Bool} {L : List Gp} (hn : F.length ≤ 300) (hL : Nrm L) (hb : ∀ z, mem L z → 0 ≤ z ∧ z < (F.length : Int)) (h1 : 1 ≤ L.length + b.toNat) (h2 : L.length + b.toNat ≤ 16) : validP (upd F (.nk b L)) = true := by
  have hg : ∀ g ∈ L, g.f < g.t ∧ g.t ≤ 65536 ∧ (-1 : Int) < g.f := fun g hg => by
    have h3 := hL.full g hg
    have := hb g.f ⟨g, hg, Int.le_refl _, h3⟩
    have := hb (g.t - 1) ⟨g, hg, by omega, by omega⟩
    omega
  have key : gapsB ((if b then [⟨0, 0⟩] else []) ++ L) = true := by
    unfold gapsB
    rw [Bool.and_eq_true]
    constructor
    · cases b with
      | false => exact gapGo_nrm L true (-1) hL.apart hg
      | true =>
        show gapGo true (-1) (⟨0, 0⟩ :: L) = true
        rw [gapGo_zero ⟨rfl, rfl, rfl⟩]
        exact gapGo_nrm L false (-1) hL.apart hg
    · rw [inB_iff]
      cases b <;> simp at h1 h2 ⊢ <;> omega
  have e : validP (upd F (.nk b L)) = gapsB ((if b then [⟨0, 0⟩] else []) ++ L) := by
    unfold validP headB
    simp only [upd, restP, bodyB]
    simp [inB, emptyB]
  rw [e, key]
theorem valid_ae (F : List Int) : validP (upd F .ae) = true := by rfl
theorem valid_fi (F : List Int) : validP (upd F .fi) = true := by rfl
theorem valid_ad (F : List Int) : validP (upd F .ad) = true := by rfl
theorem valid_md {F : List Int} (hn : F.length ≤ 300) : validP (upd F .md) = true := by
  have h1 : inB (F.length : Int) 0 65536 = true := inB_iff.2 (by omega)
  have h2 : nameB plan = true := by decide
  have e : validP (upd F .md) = (inB (F.length : Int) 0 65536 && nameB plan) := by
    unfold validP headB
    simp only [upd, restP, bodyB]
    simp [inB, emptyB]
  rw [e, h1, h2]; rfl
theorem valid_ef {F : List Int} (hn : F.length ≤ 300) : validP (upd F .ef) = true := by
  have h1 : inB (F.length : Int) 0 65536 = true := inB_iff.2 (by omega)
  have e : validP (upd F .ef) = inB (F.length : Int) 0 65536 := by
    unfold validP headB
    simp only [upd, restP, bodyB]
    simp [inB, emptyB]
  rw [e, h1]
theorem valid_pc {F : List Int} {a b : Nat} (hn : F.length ≤ 300) (hab : a < b) (hb : b ≤ F.length) : validP (upd F (.pc a b)) = true := by
  have hl : ((F.drop a).take (b - a)).length = b - a := by rw [List.length_take, List.length_drop]; omega
  have e : validP (upd F (.pc a b)) = (inB (((F.drop a).take (b - a)).length : Int) 1 512 && inB (a : Int) 0 (65536 - ((F.drop a).take (b - a)).length)) := by
    unfold validP headB
    simp only [upd, restP, bodyB]
    simp [inB, emptyB]
  rw [e, Bool.and_eq_true, inB_iff, inB_iff, hl]
  omega
end Go.Proofs.Ytfkbcflgbjncdaa
