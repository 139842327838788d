/- Statements of seat 35, lifted: each proved for every input, without a condition. -/
import Derived.Test.YtlceepknoijndaaELawD
import Derived.Test.YtlceepknoijndaaArgs
namespace Go.Proofs.Ytlceepknoijndaa
set_option linter.unusedVariables false
set_option linter.unusedSimpArgs false
open Go.ChangeShapes Go.WideShapes Go.ChangeAt Go.RowKit

theorem own0 : ownKnob Try.prog.godebug = none := by kernel_rfl
theorem laid0 : laidOutB Try.prog = true := by kernel_rfl
theorem leavesU8 : leaves Try.prog 5 5 = some [.int .u8] := by kernel_rfl
theorem cellsOfU8 : Try.prog.cellsOf 5 = 1 := by kernel_rfl
theorem bytes_arg {H : Type} {enc : TypeId × Value → H} {w : World} {base : Nat} {spare : Nat → Bool} {held : Bool} {v : Value} {d : DataW H} {ps : List MemPlace}
    {B : Nat} (hv : Value.okWide Try.prog w .any B 22 v) (h : DataW.Trod enc Try.prog w base spare held 22 v d ps) :
    ∃ A n c L, v = .slice A n c ∧ Oct L ∧ n ≤ c ∧ c ≤ maxLen ∧ Vw w A n 1 (octs L) := by
  obtain ⟨a0, len0, cap0, rfl⟩ := okWide_slice Try.underlying22 hv
  obtain ⟨fuel, hf⟩ := h
  obtain ⟨A, n, c, he, hnc, hcm, hc⟩ := slice_cells Try.underlying22 leavesU8 cellsOfU8 (by decide) hf
  rcases Nat.eq_zero_or_pos n with h0 | hp
  · subst h0
    exact ⟨A, 0, c, [], he, (by intro x hx; cases hx), hnc, hcm, rfl, fun h => absurd h (by omega)⟩
  obtain ⟨b, o, rfl, hb, hall⟩ := hc hp
  have hex : ∀ i : Nat, ∃ k : Int, i < n → (0 ≤ k ∧ k ≤ 255) ∧ w.cell? ⟨b, o + i, none⟩ = some (.int .u8 k) := by
    intro i
    by_cases hi : i < n
    · obtain ⟨u0, h0, k, rfl, hk⟩ := hall i 0 _ hi rfl
      exact ⟨k, fun _ => ⟨wf_u8 hk, by simpa using h0⟩⟩
    · exact ⟨0, fun h => absurd h hi⟩
  let f : Nat → Int := fun i => (hex i).choose
  have hf : ∀ i, i < n → (0 ≤ f i ∧ f i ≤ 255) ∧ w.cell? ⟨b, o + i, none⟩ = some (.int .u8 (f i)) := fun i hi => (hex i).choose_spec hi
  refine ⟨_, n, c, (List.range n).map f, he, ?_, hnc, hcm, by simp [octs], fun _ => ⟨b, o, rfl, hb, ?_⟩⟩
  · intro x hx
    obtain ⟨i, hi, rfl⟩ := List.mem_map.1 hx
    exact (hf i (List.mem_range.1 hi)).1
  · intro j u hj
    have hjn : j < n := by
      have := (List.getElem?_eq_some_iff.1 hj).1
      simpa [octs] using this
    simp [octs, List.getElem?_range hjn] at hj
    subst hj
    exact (hf j hjn).2

set_option maxRecDepth 100000 in
theorem counts_lifted (os : Os) (started : os.Started) (H : Type) (enc : TypeId × Value → H) :
    ReturnsInHanded {} Try.checked os 3 .any (Rows.eventCountsSpec.pre6 enc Try.prog Try.f3 Rows.eventCountsRow.domain false) (Rows.eventCountsSpec.post enc Try.prog Try.f3 false true false false) := by
  refine returnsInHanded_of_change (C := Try.checked) own0 started (by kernel_rfl) Try.func3
    (ChangeSpec.witness6 (enc := enc) (C := Try.checked) false ⟨#[], #[.slice none 0 0, .slice none 0 0], []⟩ 8 (by kernel_rfl) (by kernel_rfl) (by kernel_rfl) (by kernel_rfl)) ?_
  intro W base args ds gs before hval0 hW hcnd _
  have hval : ∀ (j : Nat) t v, Try.f3.params[j]? = some t → args[j]? = some v → Value.okWide Try.prog W .any base t v := hval0
  have hW' := hW
  obtain ⟨p, q, hA0, hV, rfl, hfz, hnd⟩ := hW
  have hA : DataW.TrodAll enc Try.prog W 0 (fun _ => true) true Try.f3.params.toList args.toList ds p := hA0
  rw [Try.params3] at hA hval
  obtain ⟨v0, v1, d0, d1, p0, p1, rfl, rfl, rfl, h0, h1⟩ := trodAll_two hA
  obtain ⟨rfl, rfl⟩ := trodVars_none hV
  obtain ⟨A, n, c, L, rfl, hO1, hnc1, hcm1, hv1⟩ := bytes_arg (hval 0 22 v0 rfl rfl) h0
  obtain ⟨A2, n2, c2, L2, rfl, hO2, hnc2, hcm2, hv2⟩ := bytes_arg (hval 1 22 v1 rfl rfl) h1
  clear hA0 hval0
  refine (counts_any W A n c L hO1 hnc1 hcm1 hv1 A2 n2 c2 L2 hO2 hnc2 hcm2 hv2).mono fun e W' ⟨he, hk⟩ => ?_
  subst he
  exact ⟨_, rfl, law_post hW' rfl laid0 (by kernel_rfl) rfl Try.underlying4 rfl hk.below⟩

theorem counts_holds : Rows.EventCountsSaid :=
  OpenClaim.holds_of_wide 3 Try.f3 rfl rfl rfl rfl rfl rfl rfl ⟨rfl, rfl, rfl, rfl, rfl⟩ rfl rfl rfl rfl rfl (by kernel_rfl) Try.func3 (by kernel_rfl)
    (of_decide_eq_true (by kernel_rfl)) (by unfold Func.isWrapper; first | (rw [if_pos (by decide +kernel)]; kernel_rfl) | (rw [if_neg (by decide +kernel)]; exact ⟨rfl, rfl⟩))
    (fun os started H enc _ => counts_lifted os started H enc)
#print axioms counts_holds

end Go.Proofs.Ytlceepknoijndaa
