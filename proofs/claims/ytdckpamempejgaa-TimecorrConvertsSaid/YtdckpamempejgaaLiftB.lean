/- Statements of seat 38, lifted: each proved for every input, without a condition. -/
import Derived.Test.YtdckpamempejgaaTLawE
import Derived.Test.YtdckpamempejgaaArgs
namespace Go.Proofs.Ytdckpamempejgaa
set_option linter.unusedVariables false
set_option linter.unusedSimpArgs false
open Go.ChangeShapes Go.WideShapes Go.ChangeAt Go.RowKit

theorem own0 : ownKnob Try.prog.godebug = none := by kernel_rfl
theorem laid0 : laidOutB Try.prog = true := by kernel_rfl
theorem leaves2 : leaves Try.prog 5 34 = some [.int .i64, .int .i64] := by kernel_rfl
theorem okWide_array {P : Program} {w : World} {r : Reach} {base : Nat} {t e : TypeId} {n : Nat} {v : Value} (ht : P.underlying t = some (.array n e)) (h : Value.okWide P w r base t v) : ∃ cs, v = .agg cs ∧ cs.size = P.cellsOf t := by
  simp only [Value.okWide, ht] at h
  obtain ⟨cs, h1, h2, _⟩ := h
  exact ⟨cs, h1, h2⟩
theorem arr_arg {H : Type} {enc : TypeId × Value → H} {w : World} {base : Nat} {spare : Nat → Bool} {held : Bool} {v : Value} {d : DataW H} {ps : List MemPlace}
    {B : Nat} (hv : Value.okWide Try.prog w .any B 34 v) (h : DataW.Trod enc Try.prog w base spare held 34 v d ps) :
    ∃ a b : Int, v = p2 a b := by
  obtain ⟨cs, rfl, hsz⟩ := okWide_array Try.underlying34 hv
  obtain ⟨hs, hall⟩ := agg_cells leaves2 h
  obtain ⟨u0, h0, a, rfl, wa⟩ := hall 0 _ rfl
  obtain ⟨u1, h1, b, rfl, wb⟩ := hall 1 _ rfl
  exact ⟨a, b, congrArg Value.agg (arr2 (cs := cs) hs h0 h1)⟩

theorem cellsOf2 : Try.prog.cellsOf 34 = 2 := by kernel_rfl
theorem leavesI : leaves Try.prog 5 3 = some [.int .i64] := by kernel_rfl
theorem cellsOfI : Try.prog.cellsOf 3 = 1 := by kernel_rfl
theorem rows_arg {H : Type} {enc : TypeId × Value → H} {w : World} {base : Nat} {spare : Nat → Bool} {held : Bool} {v : Value} {d : DataW H} {ps : List MemPlace}
    {B : Nat} (hv : Value.okWide Try.prog w .any B 22 v) (h : DataW.Trod enc Try.prog w base spare held 22 v d ps) :
    ∃ A n c l, v = .slice A n c ∧ n ≤ c ∧ c ≤ maxLen ∧ Rows2 w A n l := by
  obtain ⟨a0, len0, cap0, rfl⟩ := okWide_slice Try.underlying22 hv
  obtain ⟨fuel, hf⟩ := h
  obtain ⟨A, n, c, he, hnc, hcm, hc⟩ := slice_cells Try.underlying22 leaves2 cellsOf2 (by decide) hf
  rcases Nat.eq_zero_or_pos n with h0 | hp
  · subst h0
    exact ⟨A, 0, c, [], he, hnc, hcm, rfl, fun h => absurd h (by omega)⟩
  obtain ⟨b, o, rfl, hb, hall⟩ := hc hp
  have hex : ∀ i : Nat, ∃ u : Int × Int, i < n → At2 w b (o + i * 2) u := by
    intro i
    by_cases hi : i < n
    · obtain ⟨u0, h0, k, rfl, _⟩ := hall i 0 _ hi rfl
      obtain ⟨u1, h1, m, rfl, _⟩ := hall i 1 _ hi rfl
      exact ⟨(k, m), fun _ => ⟨h0, h1⟩⟩
    · exact ⟨(0, 0), fun h => absurd h hi⟩
  let f : Nat → Int × Int := fun i => (hex i).choose
  have hf : ∀ i, i < n → At2 w b (o + i * 2) (f i) := fun i hi => (hex i).choose_spec hi
  refine ⟨_, n, c, (List.range n).map f, he, hnc, hcm, by simp, fun _ => ⟨b, o, rfl, hb, ?_⟩⟩
  intro j u hj
  have hjn : j < n := by
    have := (List.getElem?_eq_some_iff.1 hj).1
    simpa using this
  simp [List.getElem?_range hjn] at hj
  subst hj
  exact hf j hjn
theorem nums_arg {H : Type} {enc : TypeId × Value → H} {w : World} {base : Nat} {spare : Nat → Bool} {held : Bool} {v : Value} {d : DataW H} {ps : List MemPlace}
    {B : Nat} (hv : Value.okWide Try.prog w .any B 40 v) (h : DataW.Trod enc Try.prog w base spare held 40 v d ps) :
    ∃ (A : Option Addr) (n c : Nat) (l : List Int), v = .slice A n c ∧ n ≤ c ∧ c ≤ maxLen ∧ Vw w A n 1 (l.map (Value.int .i64)) := by
  obtain ⟨a0, len0, cap0, rfl⟩ := okWide_slice Try.underlying40 hv
  obtain ⟨fuel, hf⟩ := h
  obtain ⟨A, n, c, he, hnc, hcm, hc⟩ := slice_cells Try.underlying40 leavesI cellsOfI (by decide) hf
  rcases Nat.eq_zero_or_pos n with h0 | hp
  · subst h0
    exact ⟨A, 0, c, [], he, hnc, hcm, rfl, fun h => absurd h (by omega)⟩
  obtain ⟨b, o, rfl, hb, hall⟩ := hc hp
  have hex : ∀ i : Nat, ∃ k : Int, i < n → w.cell? ⟨b, o + i, none⟩ = some (.int .i64 k) := by
    intro i
    by_cases hi : i < n
    · obtain ⟨u0, h0, k, rfl, hk⟩ := hall i 0 _ hi rfl
      exact ⟨k, fun _ => by simpa using h0⟩
    · exact ⟨0, fun h => absurd h hi⟩
  let f : Nat → Int := fun i => (hex i).choose
  have hf : ∀ i, i < n → w.cell? ⟨b, o + i, none⟩ = some (.int .i64 (f i)) := fun i hi => (hex i).choose_spec hi
  refine ⟨_, n, c, (List.range n).map f, he, hnc, hcm, by simp, fun _ => ⟨b, o, rfl, hb, ?_⟩⟩
  intro j u hj
  have hjn : j < n := by
    have := (List.getElem?_eq_some_iff.1 hj).1
    simpa using this
  simp [List.getElem?_range hjn] at hj
  subst hj
  exact hf j hjn

set_option maxRecDepth 100000 in
theorem drifts_lifted (os : Os) (started : os.Started) (H : Type) (enc : TypeId × Value → H) :
    ReturnsInHanded {} Try.checked os 3 .any (Rows.timecorrDriftsSpec.pre6 enc Try.prog Try.f3 Rows.timecorrDriftsRow.domain false) (Rows.timecorrDriftsSpec.post enc Try.prog Try.f3 false true false false) := by
  refine returnsInHanded_of_change (C := Try.checked) own0 started (by kernel_rfl) Try.func3
    (ChangeSpec.witness6 (enc := enc) (C := Try.checked) false ⟨#[], #[.slice none 0 0], []⟩ 8 (by kernel_rfl) (by kernel_rfl) (by kernel_rfl) (by kernel_rfl)) ?_
  intro W base args ds gs before hval0 hW hcnd _
  have hval : ∀ (j : Nat) t v, Try.f3.params[j]? = some t → args[j]? = some v → Value.okWide Try.prog W .any base t v := hval0
  have hW' := hW
  obtain ⟨p, q, hA0, hV, rfl, hfz, hnd⟩ := hW
  have hA : DataW.TrodAll enc Try.prog W 0 (fun _ => true) true Try.f3.params.toList args.toList ds p := hA0
  rw [Try.params3] at hA hval
  obtain ⟨v0, d0, rfl, rfl, h0⟩ := trodAll_one hA
  obtain ⟨rfl, rfl⟩ := trodVars_none hV
  obtain ⟨A, n, c, l, rfl, hnc, hcm, hvs⟩ := rows_arg (hval 0 22 v0 rfl rfl) h0
  clear hA0 hval0
  refine (drifts_any W A n c l hnc hcm hvs).mono fun e W' ⟨he, hk⟩ => ?_
  subst he
  exact ⟨_, rfl, law_post hW' rfl laid0 (by kernel_rfl) rfl Try.underlying4 rfl hk.below⟩

theorem drifts_holds : Rows.TimecorrDriftsSaid :=
  OpenClaim.holds_of_wide 3 Try.f3 rfl rfl rfl rfl rfl rfl rfl ⟨rfl, rfl, rfl, rfl, rfl⟩ rfl rfl rfl rfl rfl (by kernel_rfl) Try.func3 (by kernel_rfl)
    (of_decide_eq_true (by kernel_rfl)) (by unfold Func.isWrapper; first | (rw [if_pos (by decide +kernel)]; kernel_rfl) | (rw [if_neg (by decide +kernel)]; exact ⟨rfl, rfl⟩))
    (fun os started H enc _ => drifts_lifted os started H enc)
#print axioms drifts_holds

set_option maxRecDepth 100000 in
theorem converts_lifted (os : Os) (started : os.Started) (H : Type) (enc : TypeId × Value → H) :
    ReturnsInHanded {} Try.checked os 6 .any (Rows.timecorrConvertsSpec.pre6 enc Try.prog Try.f6 Rows.timecorrConvertsRow.domain false) (Rows.timecorrConvertsSpec.post enc Try.prog Try.f6 false true false false) := by
  refine returnsInHanded_of_change (C := Try.checked) own0 started (by kernel_rfl) Try.func6
    (ChangeSpec.witness6 (enc := enc) (C := Try.checked) false ⟨#[], #[.slice none 0 0, .slice none 0 0], []⟩ 8 (by kernel_rfl) (by kernel_rfl) (by kernel_rfl) (by kernel_rfl)) ?_
  intro W base args ds gs before hval0 hW hcnd _
  have hval : ∀ (j : Nat) t v, Try.f6.params[j]? = some t → args[j]? = some v → Value.okWide Try.prog W .any base t v := hval0
  have hW' := hW
  obtain ⟨p, q, hA0, hV, rfl, hfz, hnd⟩ := hW
  have hA : DataW.TrodAll enc Try.prog W 0 (fun _ => true) true Try.f6.params.toList args.toList ds p := hA0
  rw [Try.params6] at hA hval
  obtain ⟨v0, v1, d0, d1, p0, p1, rfl, rfl, rfl, h0, h1⟩ := trodAll_two hA
  obtain ⟨rfl, rfl⟩ := trodVars_none hV
  obtain ⟨A, n, c, l, rfl, hnc, hcm, hvs⟩ := rows_arg (hval 0 22 v0 rfl rfl) h0
  obtain ⟨A2, n2, c2, l2, rfl, hnc2, hcm2, hvs2⟩ := nums_arg (hval 1 40 v1 rfl rfl) h1
  clear hA0 hval0
  refine (converts_any W A n c l hnc hcm hvs A2 n2 c2 l2 hnc2 hcm2 hvs2).mono fun e W' ⟨he, hk⟩ => ?_
  subst he
  exact ⟨_, rfl, law_post hW' rfl laid0 (by kernel_rfl) rfl Try.underlying4 rfl hk.below⟩

theorem converts_holds : Rows.TimecorrConvertsSaid :=
  OpenClaim.holds_of_wide 6 Try.f6 rfl rfl rfl rfl rfl rfl rfl ⟨rfl, rfl, rfl, rfl, rfl⟩ rfl rfl rfl rfl rfl (by kernel_rfl) Try.func6 (by kernel_rfl)
    (of_decide_eq_true (by kernel_rfl)) (by unfold Func.isWrapper; first | (rw [if_pos (by decide +kernel)]; kernel_rfl) | (rw [if_neg (by decide +kernel)]; exact ⟨rfl, rfl⟩))
    (fun os started H enc _ => converts_lifted os started H enc)
#print axioms converts_holds

end Go.Proofs.Ytdckpamempejgaa
