/- Statements of seat 55, lifted: each proved for every input, without a condition. -/
import Derived.Test.YtcpfdkmdhpclkaaFol
import Derived.Test.YtcpfdkmdhpclkaaArgs
namespace Go.Proofs.Ytcpfdkmdhpclkaa
set_option linter.unusedVariables false
set_option linter.unusedSimpArgs false
open Go.ChangeShapes Go.WideShapes Go.ChangeAt Go.RowKit

theorem own0 : ownKnob Try.prog.godebug = none := by kernel_rfl
theorem laid0 : laidOutB Try.prog = true := by kernel_rfl
theorem leavesA : leaves Try.prog 5 31 = some [.int .i64, .int .i64, .int .i64, .int .i64] := by kernel_rfl
theorem ack_arg {H : Type} {enc : TypeId × Value → H} {w : World} {base : Nat} {spare : Nat → Bool} {held : Bool} {v : Value} {d : DataW H} {ps : List MemPlace}
    {B : Nat} (hv : Value.okWide Try.prog w .any B 31 v) (h : DataW.Trod enc Try.prog w base spare held 31 v d ps) :
    ∃ a : Ak, v = aagg a := by
  obtain ⟨cs, rfl, hsz⟩ := okWide_struct Try.underlying31 hv
  obtain ⟨hs, hall⟩ := agg_cells leavesA h
  obtain ⟨u0, h0, a, rfl, wa⟩ := hall 0 _ rfl
  obtain ⟨u1, h1, b, rfl, wb⟩ := hall 1 _ rfl
  obtain ⟨u2, h2, c, rfl, wc⟩ := hall 2 _ rfl
  obtain ⟨u3, h3, e, rfl, we⟩ := hall 3 _ rfl
  exact ⟨⟨a, b, c, e⟩, congrArg Value.agg (arr4 (cs := cs) hs h0 h1 h2 h3)⟩

theorem cellsOfA : Try.prog.cellsOf 31 = 4 := by kernel_rfl
theorem acks_arg {H : Type} {enc : TypeId × Value → H} {w : World} {base : Nat} {spare : Nat → Bool} {held : Bool} {v : Value} {d : DataW H} {ps : List MemPlace}
    {B : Nat} (hv : Value.okWide Try.prog w .any B 38 v) (h : DataW.Trod enc Try.prog w base spare held 38 v d ps) :
    ∃ A n c l, v = .slice A n c ∧ n ≤ c ∧ c ≤ maxLen ∧ Acks w A n l := by
  obtain ⟨a0, len0, cap0, rfl⟩ := okWide_slice Try.underlying38 hv
  obtain ⟨fuel, hf⟩ := h
  obtain ⟨A, n, c, he, hnc, hcm, hc⟩ := slice_cells Try.underlying38 leavesA cellsOfA (by decide) hf
  rcases Nat.eq_zero_or_pos n with h0 | hp
  · subst h0
    exact ⟨A, 0, c, [], he, hnc, hcm, rfl, fun h => absurd h (by omega)⟩
  obtain ⟨b, o, rfl, hb, hall⟩ := hc hp
  have hex : ∀ i : Nat, ∃ u : Ak, i < n → At4 w b (o + i * 4) u := by
    intro i
    by_cases hi : i < n
    · obtain ⟨u0, h0, k, rfl, _⟩ := hall i 0 _ hi rfl
      obtain ⟨u1, h1, m, rfl, _⟩ := hall i 1 _ hi rfl
      obtain ⟨u2, h2, z, rfl, _⟩ := hall i 2 _ hi rfl
      obtain ⟨u3, h3, y, rfl, _⟩ := hall i 3 _ hi rfl
      exact ⟨⟨k, m, z, y⟩, fun _ => ⟨h0, h1, h2, h3⟩⟩
    · exact ⟨⟨0, 0, 0, 0⟩, fun h => absurd h hi⟩
  let f : Nat → Ak := fun i => (hex i).choose
  have hf : ∀ i, i < n → At4 w b (o + i * 4) (f i) := fun i hi => (hex i).choose_spec hi
  refine ⟨_, n, c, (List.range n).map f, he, hnc, hcm, by simp, fun _ => ⟨b, o, rfl, hb, ?_⟩⟩
  intro j u hj
  have hjn : j < n := by
    have := (List.getElem?_eq_some_iff.1 hj).1
    simpa using this
  simp [List.getElem?_range hjn] at hj
  subst hj
  exact hf j hjn

set_option maxRecDepth 100000 in
theorem follows_lifted (os : Os) (started : os.Started) (H : Type) (enc : TypeId × Value → H) :
    ReturnsInHanded {} Try.checked os 4 .any (Rows.trackerFollowsSpec.pre6 enc Try.prog Try.f4 Rows.trackerFollowsRow.domain false) (Rows.trackerFollowsSpec.post enc Try.prog Try.f4 false true false false) := by
  refine returnsInHanded_of_change (C := Try.checked) own0 started (by kernel_rfl) Try.func4
    (ChangeSpec.witness6 (enc := enc) (C := Try.checked) false ⟨#[], #[.slice none 0 0], []⟩ 8 (by kernel_rfl) (by kernel_rfl) (by kernel_rfl) (by kernel_rfl)) ?_
  intro W base args ds gs before hval0 hW hcnd _
  have hval : ∀ (j : Nat) t v, Try.f4.params[j]? = some t → args[j]? = some v → Value.okWide Try.prog W .any base t v := hval0
  have hW' := hW
  obtain ⟨p, q, hA0, hV, rfl, hfz, hnd⟩ := hW
  have hA : DataW.TrodAll enc Try.prog W 0 (fun _ => true) true Try.f4.params.toList args.toList ds p := hA0
  rw [Try.params4] at hA hval
  obtain ⟨v0, d0, rfl, rfl, h0⟩ := trodAll_one hA
  obtain ⟨rfl, rfl⟩ := trodVars_none hV
  obtain ⟨A, n, c, l, rfl, hnc, hcm, hvs⟩ := acks_arg (hval 0 38 v0 rfl rfl) h0
  clear hA0 hval0
  refine (follows_law W A n c l hnc hcm hvs).mono fun e W' ⟨he, hk⟩ => ?_
  subst he
  exact ⟨_, rfl, law_post hW' rfl laid0 (by kernel_rfl) rfl Try.underlying4 rfl hk.below⟩

theorem follows_holds : Rows.TrackerFollowsSaid :=
  OpenClaim.holds_of_wide 4 Try.f4 rfl rfl rfl rfl rfl rfl rfl ⟨rfl, rfl, rfl, rfl, rfl⟩ rfl rfl rfl rfl rfl (by kernel_rfl) Try.func4 (by kernel_rfl)
    (of_decide_eq_true (by kernel_rfl)) (by unfold Func.isWrapper; first | (rw [if_pos (by decide +kernel)]; kernel_rfl) | (rw [if_neg (by decide +kernel)]; exact ⟨rfl, rfl⟩))
    (fun os started H enc _ => follows_lifted os started H enc)
#print axioms follows_holds

end Go.Proofs.Ytcpfdkmdhpclkaa
