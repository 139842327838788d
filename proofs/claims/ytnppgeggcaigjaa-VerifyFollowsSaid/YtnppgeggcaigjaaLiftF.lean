/- The statement VerifyFollows, lifted: proved for every input, without a condition. -/
import Derived.Test.YtnppgeggcaigjaaFol
import Derived.Test.YtnppgeggcaigjaaArgs
namespace Go.Proofs.Ytnppgeggcaigjaa
set_option linter.unusedVariables false
set_option linter.unusedSimpArgs false
open Go.ChangeShapes Go.WideShapes Go.ChangeAt Go.RowKit

theorem own0 : ownKnob Try.prog.godebug = none := by kernel_rfl
theorem laid0 : laidOutB Try.prog = true := by kernel_rfl
theorem leaves3 : leaves Try.prog 5 3 = some [.int .i64] := by kernel_rfl
theorem cellsOf3 : Try.prog.cellsOf 3 = 1 := by kernel_rfl
theorem ints_arg {H : Type} {enc : TypeId × Value → H} {w : World} {base : Nat} {spare : Nat → Bool} {held : Bool} {v : Value} {d : DataW H} {ps : List MemPlace}
    {B : Nat} (hv : Value.okWide Try.prog w .any B 36 v) (h : DataW.Trod enc Try.prog w base spare held 36 v d ps) :
    ∃ A n c, v = .slice A n c ∧ IntsAt w w.heap.size A n := by
  obtain ⟨a0, len0, cap0, rfl⟩ := okWide_slice Try.underlying36 hv
  obtain ⟨fuel, hf⟩ := h
  obtain ⟨A, n, c, he, hnc, hcm, hc⟩ := slice_cells Try.underlying36 leaves3 cellsOf3 (by decide) hf
  refine ⟨A, n, c, he, fun hn => ?_⟩
  obtain ⟨b, o, rfl, hb, hall⟩ := hc hn
  refine ⟨b, o, rfl, hb, fun i hi => ?_⟩
  obtain ⟨u0, h0, k, rfl, hk⟩ := hall i 0 _ hi rfl
  exact ⟨k, by simpa using h0⟩

set_option maxRecDepth 100000 in
theorem vfollows_lifted (os : Os) (started : os.Started) (H : Type) (enc : TypeId × Value → H) :
    ReturnsInHanded {} Try.checked os 7 .any (Rows.verifyFollowsSpec.pre6 enc Try.prog Try.f7 Rows.verifyFollowsRow.domain false) (Rows.verifyFollowsSpec.post enc Try.prog Try.f7 false true false false) := by
  refine returnsInHanded_of_change (C := Try.checked) own0 started (by kernel_rfl) Try.func7
    (ChangeSpec.witness6 (enc := enc) (C := Try.checked) false ⟨#[], #[.slice none 0 0], []⟩ 8 (by kernel_rfl) (by kernel_rfl) (by kernel_rfl) (by kernel_rfl)) ?_
  intro W base args ds gs before hval0 hW hcnd _
  have hval : ∀ (j : Nat) t v, Try.f7.params[j]? = some t → args[j]? = some v → Value.okWide Try.prog W .any base t v := hval0
  have hW' := hW
  obtain ⟨p, q, hA0, hV, rfl, hfz, hnd⟩ := hW
  have hA : DataW.TrodAll enc Try.prog W 0 (fun _ => true) true Try.f7.params.toList args.toList ds p := hA0
  rw [Try.params7] at hA hval
  obtain ⟨v0, d0, rfl, rfl, h0⟩ := trodAll_one hA
  obtain ⟨rfl, rfl⟩ := trodVars_none hV
  obtain ⟨A, n, c, rfl, hst⟩ := ints_arg (hval 0 36 v0 rfl rfl) h0
  clear hA0 hval0
  refine (vfollows_any W A n c hst).mono fun e W' ⟨he, hk⟩ => ?_
  subst he
  exact ⟨_, rfl, law_post hW' rfl laid0 (by kernel_rfl) rfl Try.underlying4 rfl hk.below⟩

theorem vfollows_holds : Rows.VerifyFollowsSaid :=
  OpenClaim.holds_of_wide 7 Try.f7 rfl rfl rfl rfl rfl rfl rfl ⟨rfl, rfl, rfl, rfl, rfl⟩ rfl rfl rfl rfl rfl (by kernel_rfl) Try.func7 (by kernel_rfl)
    (of_decide_eq_true (by kernel_rfl)) (by unfold Func.isWrapper; first | (rw [if_pos (by decide +kernel)]; kernel_rfl) | (rw [if_neg (by decide +kernel)]; exact ⟨rfl, rfl⟩))
    (fun os started H enc _ => vfollows_lifted os started H enc)
#print axioms vfollows_holds

end Go.Proofs.Ytnppgeggcaigjaa
