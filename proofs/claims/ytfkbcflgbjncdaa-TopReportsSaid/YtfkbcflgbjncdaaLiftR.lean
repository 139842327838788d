/- Statements of the top seat, lifted: each proved for every input, without a condition. -/
import Derived.Test.YtfkbcflgbjncdaaTopR
import Derived.Test.YtfkbcflgbjncdaaArgs
namespace Go.Proofs.Ytfkbcflgbjncdaa
set_option linter.unusedVariables false
set_option linter.unusedSimpArgs false
open Go.ChangeShapes Go.WideShapes Go.ChangeAt Go.RowKit

theorem own0 : ownKnob Try.prog.godebug = none := by kernel_rfl
theorem laid0 : laidOutB Try.prog = true := by kernel_rfl
theorem leavesB : leaves Try.prog 5 4 = some [.bool] := by kernel_rfl
theorem cellsOfB : Try.prog.cellsOf 4 = 1 := by kernel_rfl
set_option maxRecDepth 100000 in
theorem bools_arg {H : Type} {enc : TypeId × Value → H} {w : World} {base : Nat} {spare : Nat → Bool} {held : Bool} {v : Value} {fuel : Nat} {x : DataW H × List MemPlace}
    (hf : DataW.trod enc Try.prog w base spare held fuel 29 [v] = some x) :
    ∃ A n c L, v = .slice A n c ∧ n ≤ c ∧ c ≤ maxLen ∧ Vw w A n 1 (bools L) := by
  obtain ⟨A, n, c, he, hnc, hcm, hc⟩ := slice_cells Try.underlying29 leavesB cellsOfB (by decide) hf
  rcases Nat.eq_zero_or_pos n with h0 | hp
  · subst h0
    exact ⟨A, 0, c, [], he, hnc, hcm, rfl, fun h => absurd h (by omega)⟩
  obtain ⟨b, o, rfl, hb, hall⟩ := hc hp
  have hex : ∀ i : Nat, ∃ k : Bool, i < n → w.cell? ⟨b, o + i, none⟩ = some (.bool k) := by
    intro i
    by_cases hi : i < n
    · obtain ⟨u0, h0, k, rfl⟩ := hall i 0 _ hi rfl
      exact ⟨k, fun _ => by simpa using h0⟩
    · exact ⟨false, fun h => absurd h hi⟩
  let f : Nat → Bool := fun i => (hex i).choose
  have hf : ∀ i, i < n → w.cell? ⟨b, o + i, none⟩ = some (.bool (f i)) := fun i hi => (hex i).choose_spec hi
  refine ⟨_, n, c, (List.range n).map f, he, hnc, hcm, by simp [bools], fun _ => ⟨b, o, rfl, hb, ?_⟩⟩
  intro j u hj
  have hjn : j < n := by
    have := (List.getElem?_eq_some_iff.1 hj).1
    simpa [bools] using this
  simp [bools, List.getElem?_range hjn] at hj
  subst hj
  exact hf j hjn
theorem leavesAr : leaves Try.prog 6 31 = some [.int .i64, .int .i64, .int .i64, .sl 29 4] := by kernel_rfl
theorem cellsOfAr : Try.prog.cellsOf 31 = 4 := by kernel_rfl
set_option maxRecDepth 100000 in
theorem arrs_arg {H : Type} {enc : TypeId × Value → H} {w : World} {base : Nat} {spare : Nat → Bool} {held : Bool} {v : Value} {d : DataW H} {ps : List MemPlace}
    {B : Nat} (hv : Value.okWide Try.prog w .any B 22 v) (h : DataW.Trod enc Try.prog w base spare held 22 v d ps) :
    ∃ A n c L, v = .slice A n c ∧ n ≤ c ∧ c ≤ maxLen ∧ Arrs w A n L := by
  obtain ⟨a0, len0, cap0, rfl⟩ := okWide_slice Try.underlying22 hv
  obtain ⟨fuel, hf⟩ := h
  obtain ⟨A, n, c, he, hnc, hcm, hc⟩ := slice_cells Try.underlying22 leavesAr cellsOfAr (by decide) hf
  rcases Nat.eq_zero_or_pos n with h0 | hp
  · subst h0
    exact ⟨A, 0, c, [], he, hnc, hcm, ⟨rfl, fun h => absurd h (by omega)⟩, by simp⟩
  obtain ⟨b, o, rfl, hb, hall⟩ := hc hp
  have hex : ∀ i : Nat, ∃ x : Arr, i < n → (∀ j u, (arcells x)[j]? = some u → w.cell? ⟨b, o + i * 4 + j, none⟩ = some u) ∧ Vw w x.X x.m 1 (bools x.bs) ∧ x.m ≤ x.c ∧ x.c ≤ maxLen := by
    intro i
    by_cases hi : i < n
    · obtain ⟨u0, h0, k0, rfl, _⟩ := hall i 0 _ hi rfl
      obtain ⟨u1, h1, k1, rfl, _⟩ := hall i 1 _ hi rfl
      obtain ⟨u2, h2, k2, rfl, _⟩ := hall i 2 _ hi rfl
      obtain ⟨u3, h3, _, m3, y3, ht3⟩ := hall i 3 _ hi rfl
      obtain ⟨X, m, cc, bs, rfl, hm1, hm2, hbv⟩ := bools_arg ht3
      refine ⟨⟨k0, k1, k2, X, m, cc, bs⟩, fun _ => ⟨fun j u hj => ?_, hbv, hm1, hm2⟩⟩
      match j, hj with
      | 0, hj => cases hj; exact h0
      | 1, hj => cases hj; exact h1
      | 2, hj => cases hj; exact h2
      | 3, hj => cases hj; exact h3
      | j + 4, hj => simp [arcells] at hj
    · exact ⟨⟨0, 0, 0, none, 0, 0, []⟩, fun h => absurd h hi⟩
  let f : Nat → Arr := fun i => (hex i).choose
  have hf : ∀ i, i < n → (∀ j u, (arcells (f i))[j]? = some u → w.cell? ⟨b, o + i * 4 + j, none⟩ = some u) ∧ Vw w (f i).X (f i).m 1 (bools (f i).bs) ∧ (f i).m ≤ (f i).c ∧ (f i).c ≤ maxLen := fun i hi => (hex i).choose_spec hi
  refine ⟨_, n, c, (List.range n).map f, he, hnc, hcm, ⟨by rw [flat_length arcells 4 arr_len]; simp, fun _ => ⟨b, o, rfl, hb, ?_⟩⟩, ?_⟩
  · intro j u hj
    have hjn : j < n * 4 := by
      have := (List.getElem?_eq_some_iff.1 hj).1
      rw [flat_length arcells 4 arr_len] at this
      simpa using this
    have hi : j / 4 < n := by omega
    have e : j = j / 4 * 4 + j % 4 := by omega
    have hx : ((List.range n).map f)[j / 4]? = some (f (j / 4)) := by simp [List.getElem?_range hi]
    rw [e, flat_get arcells 4 arr_len _ _ _ _ hx (by omega)] at hj
    have := (hf (j / 4) hi).1 (j % 4) u hj
    rw [show o + j / 4 * 4 + j % 4 = o + j by omega] at this
    exact this
  · intro a ha
    obtain ⟨i, hi, rfl⟩ := List.mem_map.1 ha
    exact (hf i (List.mem_range.1 hi)).2

set_option maxRecDepth 100000 in
theorem reports_lifted (os : Os) (started : os.Started) (H : Type) (enc : TypeId × Value → H) :
    ReturnsInHanded {} Try.checked os 3 .any (Rows.topReportsSpec.pre6 enc Try.prog Try.f3 Rows.topReportsRow.domain false) (Rows.topReportsSpec.post enc Try.prog Try.f3 false true false false) := by
  refine returnsInHanded_of_change (C := Try.checked) own0 started (by kernel_rfl) Try.func3
    (ChangeSpec.witness6 (enc := enc) (C := Try.checked) false ⟨#[], #[.slice none 0 0], []⟩ 8 (by kernel_rfl) (by kernel_rfl) (by kernel_rfl) (by kernel_rfl)) ?_
  intro W base args ds gs before hval0 hW hcnd _
  have hval : ∀ (j : Nat) t v, Try.f3.params[j]? = some t → args[j]? = some v → Value.okWide Try.prog W .any base t v := hval0
  have hW' := hW
  obtain ⟨p, q, hA0, hV, rfl, hfz, hnd⟩ := hW
  have hA : DataW.TrodAll enc Try.prog W 0 (fun _ => true) true Try.f3.params.toList args.toList ds p := hA0
  rw [Try.params3] at hA hval
  obtain ⟨v0, d0, rfl, rfl, h0⟩ := trodAll_one hA
  obtain ⟨rfl, rfl⟩ := trodVars_none hV
  obtain ⟨A, n, c, L, rfl, hnc, hcm, hv⟩ := arrs_arg (hval 0 22 v0 rfl rfl) h0
  clear hA0 hval0
  refine (reports_any W A n c L hnc hcm hv).mono fun e W' ⟨he, hk⟩ => ?_
  subst he
  exact ⟨_, rfl, law_post hW' rfl laid0 (by kernel_rfl) rfl Try.underlying4 rfl hk.below⟩

theorem reports_holds : Rows.TopReportsSaid :=
  OpenClaim.holds_of_wide 3 Try.f3 rfl rfl rfl rfl rfl rfl rfl ⟨rfl, rfl, rfl, rfl, rfl⟩ rfl rfl rfl rfl rfl (by kernel_rfl) Try.func3 (by kernel_rfl)
    (of_decide_eq_true (by kernel_rfl)) (by unfold Func.isWrapper; first | (rw [if_pos (by decide +kernel)]; kernel_rfl) | (rw [if_neg (by decide +kernel)]; exact ⟨rfl, rfl⟩))
    (fun os started H enc _ => reports_lifted os started H enc)
#print axioms reports_holds

end Go.Proofs.Ytfkbcflgbjncdaa
