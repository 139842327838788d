/- Statements of seat 35, lifted: each proved for every input, without a condition. -/
import Derived.Test.YtlceepknoijndaaEPlL
import Derived.Test.YtlceepknoijndaaArgs
namespace Go.Proofs.Ytlceepknoijndaa
set_option linter.unusedVariables false
set_option linter.unusedSimpArgs false
open Go.ChangeShapes Go.WideShapes Go.ChangeAt Go.RowKit

theorem own0 : ownKnob Try.prog.godebug = none := by kernel_rfl
theorem laid0 : laidOutB Try.prog = true := by kernel_rfl
theorem leavesO : leaves Try.prog 6 45 = some [.int .i64, .int .i64, .int .i64, .int .i64, .int .i64, .int .i64, .bool] := by kernel_rfl
theorem cellsOfO : Try.prog.cellsOf 45 = 7 := by kernel_rfl
theorem ops_arg {H : Type} {enc : TypeId × Value → H} {w : World} {base : Nat} {spare : Nat → Bool} {held : Bool} {v : Value} {d : DataW H} {ps : List MemPlace}
    {B : Nat} (hv : Value.okWide Try.prog w .any B 38 v) (h : DataW.Trod enc Try.prog w base spare held 38 v d ps) :
    ∃ A n c L, v = .slice A n c ∧ n ≤ c ∧ c ≤ maxLen ∧ Vw w A n 7 (opns L) := by
  obtain ⟨a0, len0, cap0, rfl⟩ := okWide_slice Try.underlying38 hv
  obtain ⟨fuel, hf⟩ := h
  obtain ⟨A, n, c, he, hnc, hcm, hc⟩ := slice_cells Try.underlying38 leavesO cellsOfO (by decide) hf
  rcases Nat.eq_zero_or_pos n with h0 | hp
  · subst h0
    exact ⟨A, 0, c, [], he, hnc, hcm, rfl, fun h => absurd h (by omega)⟩
  obtain ⟨b, o, rfl, hb, hall⟩ := hc hp
  have hex : ∀ i : Nat, ∃ x : Opn, i < n → ∀ j u, (ocells x)[j]? = some u → w.cell? ⟨b, o + i * 7 + j, none⟩ = some u := by
    intro i
    by_cases hi : i < n
    · obtain ⟨u0, h0, k0, rfl, _⟩ := hall i 0 _ hi rfl
      obtain ⟨u1, h1, k1, rfl, _⟩ := hall i 1 _ hi rfl
      obtain ⟨u2, h2, k2, rfl, _⟩ := hall i 2 _ hi rfl
      obtain ⟨u3, h3, k3, rfl, _⟩ := hall i 3 _ hi rfl
      obtain ⟨u4, h4, k4, rfl, _⟩ := hall i 4 _ hi rfl
      obtain ⟨u5, h5, k5, rfl, _⟩ := hall i 5 _ hi rfl
      obtain ⟨u6, h6, k6, rfl⟩ := hall i 6 _ hi rfl
      refine ⟨⟨k0, ⟨k1, k2, k3, k4⟩, k5, k6⟩, fun _ j u hj => ?_⟩
      match j, hj with
      | 0, hj => cases hj; exact h0
      | 1, hj => cases hj; exact h1
      | 2, hj => cases hj; exact h2
      | 3, hj => cases hj; exact h3
      | 4, hj => cases hj; exact h4
      | 5, hj => cases hj; exact h5
      | 6, hj => cases hj; exact h6
      | j + 7, hj => simp [ocells] at hj
    · exact ⟨⟨0, ⟨0, 0, 0, 0⟩, 0, false⟩, fun h => absurd h hi⟩
  let f : Nat → Opn := fun i => (hex i).choose
  have hf : ∀ i, i < n → ∀ j u, (ocells (f i))[j]? = some u → w.cell? ⟨b, o + i * 7 + j, none⟩ = some u := fun i hi => (hex i).choose_spec hi
  refine ⟨_, n, c, (List.range n).map f, he, hnc, hcm, by rw [opns_len]; simp, fun _ => ⟨b, o, rfl, hb, ?_⟩⟩
  intro j u hj
  have hjn : j < n * 7 := by
    have := (List.getElem?_eq_some_iff.1 hj).1
    rw [opns_len] at this
    simpa using this
  have hi : j / 7 < n := by omega
  have e : j = j / 7 * 7 + j % 7 := by omega
  have hx : ((List.range n).map f)[j / 7]? = some (f (j / 7)) := by simp [List.getElem?_range hi]
  rw [e, opns_get _ _ _ _ hx (by omega)] at hj
  have := hf (j / 7) hi (j % 7) u hj
  rw [show o + j / 7 * 7 + j % 7 = o + j by omega] at this
  exact this

set_option maxRecDepth 100000 in
theorem plays_lifted (os : Os) (started : os.Started) (H : Type) (enc : TypeId × Value → H) :
    ReturnsInHanded {} Try.checked os 5 .any (Rows.eventPlaysSpec.pre6 enc Try.prog Try.f5 Rows.eventPlaysRow.domain false) (Rows.eventPlaysSpec.post enc Try.prog Try.f5 false true false false) := by
  refine returnsInHanded_of_change (C := Try.checked) own0 started (by kernel_rfl) Try.func5
    (ChangeSpec.witness6 (enc := enc) (C := Try.checked) false ⟨#[], #[.int .i64 0, .slice none 0 0], []⟩ 8 (by kernel_rfl) (by kernel_rfl) (by kernel_rfl) (by kernel_rfl)) ?_
  intro W base args ds gs before hval0 hW hcnd _
  have hval : ∀ (j : Nat) t v, Try.f5.params[j]? = some t → args[j]? = some v → Value.okWide Try.prog W .any base t v := hval0
  have hW' := hW
  obtain ⟨p, q, hA0, hV, rfl, hfz, hnd⟩ := hW
  have hA : DataW.TrodAll enc Try.prog W 0 (fun _ => true) true Try.f5.params.toList args.toList ds p := hA0
  rw [Try.params5] at hA hval
  obtain ⟨v0, v1, d0, d1, p0, p1, rfl, rfl, rfl, h0, h1⟩ := trodAll_two hA
  obtain ⟨rfl, rfl⟩ := trodVars_none hV
  obtain ⟨mo, rfl, rfl, rfl, w0⟩ := open_int Try.underlying3 (hval 0 3 v0 rfl rfl) h0
  obtain ⟨A, n, c, L, rfl, hnc, hcm, hv⟩ := ops_arg (hval 1 38 v1 rfl rfl) h1
  clear hA0 hval0
  refine (plays_any W mo A n c L hnc hcm hv).mono fun e W' ⟨he, hk⟩ => ?_
  subst he
  exact ⟨_, rfl, law_post hW' rfl laid0 (by kernel_rfl) rfl Try.underlying4 rfl hk.below⟩

theorem plays_holds : Rows.EventPlaysSaid :=
  OpenClaim.holds_of_wide 5 Try.f5 rfl rfl rfl rfl rfl rfl rfl ⟨rfl, rfl, rfl, rfl, rfl⟩ rfl rfl rfl rfl rfl (by kernel_rfl) Try.func5 (by kernel_rfl)
    (of_decide_eq_true (by kernel_rfl)) (by unfold Func.isWrapper; first | (rw [if_pos (by decide +kernel)]; kernel_rfl) | (rw [if_neg (by decide +kernel)]; exact ⟨rfl, rfl⟩))
    (fun os started H enc _ => plays_lifted os started H enc)
#print axioms plays_holds

end Go.Proofs.Ytlceepknoijndaa
