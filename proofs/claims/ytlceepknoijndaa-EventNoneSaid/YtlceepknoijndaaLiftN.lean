/- Statements of seat 35, lifted: each proved for every input, without a condition. -/
import Derived.Test.YtlceepknoijndaaELawA
import Derived.Test.YtlceepknoijndaaArgs
namespace Go.Proofs.Ytlceepknoijndaa
set_option linter.unusedVariables false
set_option linter.unusedSimpArgs false
open Go.ChangeShapes Go.WideShapes Go.ChangeAt Go.RowKit

theorem own0 : ownKnob Try.prog.godebug = none := by kernel_rfl
theorem laid0 : laidOutB Try.prog = true := by kernel_rfl
theorem leavesE : leaves Try.prog 5 31 = some [.int .i64, .int .i64, .int .i64, .int .i64] := by kernel_rfl
theorem ev_arg {H : Type} {enc : TypeId × Value → H} {w : World} {base : Nat} {spare : Nat → Bool} {held : Bool} {v : Value} {d : DataW H} {ps : List MemPlace}
    {B : Nat} (hv : Value.okWide Try.prog w .any B 31 v) (h : DataW.Trod enc Try.prog w base spare held 31 v d ps) :
    ∃ a : Ev, v = eagg a := by
  obtain ⟨cs, rfl, hsz⟩ := okWide_struct Try.underlying31 hv
  obtain ⟨hs, hall⟩ := agg_cells leavesE h
  obtain ⟨u0, h0, a, rfl, wa⟩ := hall 0 _ rfl
  obtain ⟨u1, h1, b, rfl, wb⟩ := hall 1 _ rfl
  obtain ⟨u2, h2, c, rfl, wc⟩ := hall 2 _ rfl
  obtain ⟨u3, h3, e, rfl, we⟩ := hall 3 _ rfl
  exact ⟨⟨a, b, c, e⟩, congrArg Value.agg (arr4 (cs := cs) hs h0 h1 h2 h3)⟩

set_option maxRecDepth 100000 in
theorem none_lifted (os : Os) (started : os.Started) (H : Type) (enc : TypeId × Value → H) :
    ReturnsInHanded {} Try.checked os 6 .any (Rows.eventNoneSpec.pre6 enc Try.prog Try.f6 Rows.eventNoneRow.domain false) (Rows.eventNoneSpec.post enc Try.prog Try.f6 false true false false) := by
  refine returnsInHanded_of_change (C := Try.checked) own0 started (by kernel_rfl) Try.func6
    (ChangeSpec.witness6 (enc := enc) (C := Try.checked) false ⟨#[], #[.agg #[.int .i64 0, .int .i64 0, .int .i64 0, .int .i64 0]], []⟩ 8 (by kernel_rfl) (by kernel_rfl) (by kernel_rfl) (by kernel_rfl)) ?_
  intro W base args ds gs before hval0 hW hcnd _
  have hval : ∀ (j : Nat) t v, Try.f6.params[j]? = some t → args[j]? = some v → Value.okWide Try.prog W .any base t v := hval0
  have hW' := hW
  obtain ⟨p, q, hA0, hV, rfl, hfz, hnd⟩ := hW
  have hA : DataW.TrodAll enc Try.prog W 0 (fun _ => true) true Try.f6.params.toList args.toList ds p := hA0
  rw [Try.params6] at hA hval
  obtain ⟨v0, d0, rfl, rfl, h0⟩ := trodAll_one hA
  obtain ⟨rfl, rfl⟩ := trodVars_none hV
  obtain ⟨x, rfl⟩ := ev_arg (hval 0 31 v0 rfl rfl) h0
  clear hA0 hval0
  refine (none_law W x).mono fun e W' ⟨he, hk⟩ => ?_
  subst he
  exact ⟨_, rfl, law_post hW' rfl laid0 (by kernel_rfl) rfl Try.underlying4 rfl hk.below⟩

theorem none_holds : Rows.EventNoneSaid :=
  OpenClaim.holds_of_wide 6 Try.f6 rfl rfl rfl rfl rfl rfl rfl ⟨rfl, rfl, rfl, rfl, rfl⟩ rfl rfl rfl rfl rfl (by kernel_rfl) Try.func6 (by kernel_rfl)
    (of_decide_eq_true (by kernel_rfl)) (by unfold Func.isWrapper; first | (rw [if_pos (by decide +kernel)]; kernel_rfl) | (rw [if_neg (by decide +kernel)]; exact ⟨rfl, rfl⟩))
    (fun os started H enc _ => none_lifted os started H enc)
#print axioms none_holds

end Go.Proofs.Ytlceepknoijndaa
