/- TopCheckpoint, lifted: proved for every input, without a condition. -/
import Derived.Test.YtfkbcflgbjncdaaChH
import Derived.Test.YtfkbcflgbjncdaaArgs
namespace Go.Proofs.Ytfkbcflgbjncdaa
set_option linter.unusedVariables false
set_option linter.unusedSimpArgs false
open Go.ChangeShapes Go.WideShapes Go.ChangeAt Go.RowKit

theorem own0 : ownKnob Try.prog.godebug = none := by kernel_rfl
theorem laid0 : laidOutB Try.prog = true := by kernel_rfl
theorem leavesI : leaves Try.prog 5 3 = some [.int .i64] := by kernel_rfl
theorem cellsOfI : Try.prog.cellsOf 3 = 1 := by kernel_rfl
theorem ints_of {H : Type} {enc : TypeId × Value → H} {w : World} {base : Nat} {spare : Nat → Bool} {held : Bool} {v : Value} {fuel : Nat} {x : DataW H × List MemPlace}
    (hf : DataW.trod enc Try.prog w base spare held fuel 32 [v] = some x) :
    ∃ A n c L, v = .slice A n c ∧ n ≤ c ∧ c ≤ maxLen ∧ Vw w A n 1 (i64s L) := by
  obtain ⟨A, n, c, he, hnc, hcm, hc⟩ := slice_cells Try.underlying32 leavesI cellsOfI (by decide) hf
  rcases Nat.eq_zero_or_pos n with h0 | hp
  · subst h0
    exact ⟨A, 0, c, [], he, hnc, hcm, rfl, fun h => absurd h (by omega)⟩
  obtain ⟨b, o, rfl, hb, hall⟩ := hc hp
  have hex : ∀ i : Nat, ∃ k : Int, i < n → w.cell? ⟨b, o + i, none⟩ = some (.int .i64 k) := by
    intro i
    by_cases hi : i < n
    · obtain ⟨u0, h0, k, rfl, _⟩ := hall i 0 _ hi rfl
      exact ⟨k, fun _ => by simpa using h0⟩
    · exact ⟨0, fun h => absurd h hi⟩
  let f : Nat → Int := fun i => (hex i).choose
  have hf : ∀ i, i < n → w.cell? ⟨b, o + i, none⟩ = some (.int .i64 (f i)) := fun i hi => (hex i).choose_spec hi
  refine ⟨_, n, c, (List.range n).map f, he, hnc, hcm, by simp [i64s], fun _ => ⟨b, o, rfl, hb, ?_⟩⟩
  intro j u hj
  have hjn : j < n := by
    have := (List.getElem?_eq_some_iff.1 hj).1
    simpa [i64s] using this
  simp [i64s, List.getElem?_range hjn] at hj
  subst hj
  exact hf j hjn
theorem leavesFi : leaves Try.prog 5 75 = some [.int .i64, .int .i64] := by kernel_rfl
theorem cellsOfFi : Try.prog.cellsOf 75 = 2 := by kernel_rfl
theorem fids_of {H : Type} {enc : TypeId × Value → H} {w : World} {base : Nat} {spare : Nat → Bool} {held : Bool} {v : Value} {fuel : Nat} {x : DataW H × List MemPlace}
    (hf : DataW.trod enc Try.prog w base spare held fuel 47 [v] = some x) :
    ∃ A n c, ∃ L : List Fi, v = .slice A n c ∧ n ≤ c ∧ c ≤ maxLen ∧ Vw w A n 2 (L.flatMap fcells) := by
  obtain ⟨A, n, c, he, hnc, hcm, hc⟩ := slice_cells Try.underlying47 leavesFi cellsOfFi (by decide) hf
  rcases Nat.eq_zero_or_pos n with h0 | hp
  · subst h0
    exact ⟨A, 0, c, [], he, hnc, hcm, rfl, fun h => absurd h (by omega)⟩
  obtain ⟨b, o, rfl, hb, hall⟩ := hc hp
  have hex : ∀ i : Nat, ∃ g : Fi, i < n → w.cell? ⟨b, o + i * 2 + 0, none⟩ = some (.int .i64 g.s) ∧ w.cell? ⟨b, o + i * 2 + 1, none⟩ = some (.int .i64 g.n) := by
    intro i
    by_cases hi : i < n
    · obtain ⟨u0, h0, k0, rfl, _⟩ := hall i 0 _ hi rfl
      obtain ⟨u1, h1, k1, rfl, _⟩ := hall i 1 _ hi rfl
      exact ⟨⟨k0, k1⟩, fun _ => ⟨h0, h1⟩⟩
    · exact ⟨⟨0, 0⟩, fun h => absurd h hi⟩
  let f : Nat → Fi := fun i => (hex i).choose
  have hf : ∀ i, i < n → w.cell? ⟨b, o + i * 2 + 0, none⟩ = some (.int .i64 (f i).s) ∧ w.cell? ⟨b, o + i * 2 + 1, none⟩ = some (.int .i64 (f i).n) := fun i hi => (hex i).choose_spec hi
  refine ⟨_, n, c, (List.range n).map f, he, hnc, hcm, by rw [fcells_len]; simp, fun _ => ⟨b, o, rfl, hb, ?_⟩⟩
  intro j u hj
  have hjn : j < n * 2 := by
    have := (List.getElem?_eq_some_iff.1 hj).1
    rw [fcells_len] at this
    simpa using this
  have hd : j = j / 2 * 2 + j % 2 := by omega
  have hi : j / 2 < n := by omega
  have hg : ((List.range n).map f)[j / 2]? = some (f (j / 2)) := by simp [List.getElem?_range hi]
  have h1 := flat_get (f := fcells) (n := 2) (fun _ => rfl) ((List.range n).map f) (j / 2) _ (j % 2) hg (by omega)
  rw [← hd, hj] at h1
  rcases (by omega : j % 2 = 0 ∨ j % 2 = 1) with h2 | h2
  · rw [h2] at h1
    cases h1
    have := (hf (j / 2) hi).1
    rw [show o + j = o + j / 2 * 2 + 0 by omega]
    exact this
  · rw [h2] at h1
    cases h1
    have := (hf (j / 2) hi).2
    rw [show o + j = o + j / 2 * 2 + 1 by omega]
    exact this
theorem leavesSt : leaves Try.prog 6 49 = some [.int .i64, .int .i64, .int .i64, .sl 32 3, .sl 47 75, .int .i64] := by kernel_rfl
set_option maxRecDepth 100000 in
theorem state_arg {H : Type} {enc : TypeId × Value → H} {w : World} {base : Nat} {spare : Nat → Bool} {held : Bool} {v : Value} {d : DataW H} {ps : List MemPlace}
    {B : Nat} (hv : Value.okWide Try.prog w .any B 49 v) (h : DataW.Trod enc Try.prog w base spare held 49 v d ps) :
    ∃ x l, v = .agg (scs x l) ∧ SIn w x l := by
  obtain ⟨cs, rfl, hsz⟩ := okWide_struct Try.underlying49 hv
  obtain ⟨hs, hall⟩ := agg_cells leavesSt h
  obtain ⟨u0, h0, a0, rfl, _⟩ := hall 0 _ rfl
  obtain ⟨u1, h1, a1, rfl, _⟩ := hall 1 _ rfl
  obtain ⟨u2, h2, a2, rfl, _⟩ := hall 2 _ rfl
  obtain ⟨u3, h3, _, m3, y3, t3⟩ := hall 3 _ rfl
  obtain ⟨u4, h4, _, m4, y4, t4⟩ := hall 4 _ rfl
  obtain ⟨u5, h5, a5, rfl, _⟩ := hall 5 _ rfl
  obtain ⟨XA, xn, xc, XL, rfl, xnc, xcm, xV⟩ := ints_of t3
  obtain ⟨GA, gn, gc, GL, rfl, gnc, gcm, gV⟩ := fids_of t4
  refine ⟨⟨a0, a1, a2, a5, XL, GL⟩, ⟨XA, xn, xc, GA, gn, gc⟩, congrArg Value.agg ?_, ⟨xV, gV, ⟨xnc, xcm⟩, ⟨gnc, gcm⟩⟩⟩
  exact arr_ext (l := [.int .i64 a0, .int .i64 a1, .int .i64 a2, .slice XA xn xc, .slice GA gn gc, .int .i64 a5]) hs (fun i hi => by
    match i, hi with
    | 0, _ => exact h0
    | 1, _ => exact h1
    | 2, _ => exact h2
    | 3, _ => exact h3
    | 4, _ => exact h4
    | 5, _ => exact h5)
theorem leavesDm : leaves Try.prog 6 51 = some [.int .i64, .int .i64, .int .i64] := by kernel_rfl
set_option maxRecDepth 100000 in
theorem damage_arg {H : Type} {enc : TypeId × Value → H} {w : World} {base : Nat} {spare : Nat → Bool} {held : Bool} {v : Value} {d : DataW H} {ps : List MemPlace}
    {B : Nat} (hv : Value.okWide Try.prog w .any B 51 v) (h : DataW.Trod enc Try.prog w base spare held 51 v d ps) :
    ∃ a b c : Int, v = .agg #[.int .i64 a, .int .i64 b, .int .i64 c] := by
  obtain ⟨cs, rfl, hsz⟩ := okWide_struct Try.underlying51 hv
  obtain ⟨hs, hall⟩ := agg_cells leavesDm h
  obtain ⟨u0, h0, a0, rfl, _⟩ := hall 0 _ rfl
  obtain ⟨u1, h1, a1, rfl, _⟩ := hall 1 _ rfl
  obtain ⟨u2, h2, a2, rfl, _⟩ := hall 2 _ rfl
  refine ⟨a0, a1, a2, congrArg Value.agg ?_⟩
  exact arr_ext (l := [.int .i64 a0, .int .i64 a1, .int .i64 a2]) hs (fun i hi => by
    match i, hi with
    | 0, _ => exact h0
    | 1, _ => exact h1
    | 2, _ => exact h2)

set_option maxRecDepth 100000 in
theorem checkpoint_lifted (os : Os) (started : os.Started) (H : Type) (enc : TypeId × Value → H) :
    ReturnsInHanded {} Try.checked os 4 .any (Rows.topCheckpointSpec.pre6 enc Try.prog Try.f4 Rows.topCheckpointRow.domain false) (Rows.topCheckpointSpec.post enc Try.prog Try.f4 false true false false) := by
  refine returnsInHanded_of_change (C := Try.checked) own0 started (by kernel_rfl) Try.func4
    (ChangeSpec.witness6 (enc := enc) (C := Try.checked) false ⟨#[], #[.agg #[.int .i64 0, .int .i64 0, .int .i64 0, .slice none 0 0, .slice none 0 0, .int .i64 0], .agg #[.int .i64 0, .int .i64 0, .int .i64 0, .slice none 0 0, .slice none 0 0, .int .i64 0], .agg #[.int .i64 0, .int .i64 0, .int .i64 0]], []⟩ 8 (by kernel_rfl) (by kernel_rfl) (by kernel_rfl) (by kernel_rfl)) ?_
  intro W base args ds gs before hval0 hW hcnd _
  have hval : ∀ (j : Nat) t v, Try.f4.params[j]? = some t → args[j]? = some v → Value.okWide Try.prog W .any base t v := hval0
  have hW' := hW
  obtain ⟨p, q, hA0, hV, rfl, hfz, hnd⟩ := hW
  have hA : DataW.TrodAll enc Try.prog W 0 (fun _ => true) true Try.f4.params.toList args.toList ds p := hA0
  rw [Try.params4] at hA hval
  obtain ⟨v0, v1, v2, d0, d1, d2, p0, p1, p2, rfl, rfl, rfl, h0, h1, h2⟩ := trodAll_three hA
  obtain ⟨rfl, rfl⟩ := trodVars_none hV
  obtain ⟨x, l1, rfl, hx⟩ := state_arg (hval 0 49 v0 rfl rfl) h0
  obtain ⟨y, l2, rfl, hy⟩ := state_arg (hval 1 49 v1 rfl rfl) h1
  obtain ⟨ca, cb, cc, rfl⟩ := damage_arg (hval 2 51 v2 rfl rfl) h2
  clear hA0 hval0
  refine (ckpt_any W x y l1 l2 ca cb cc hx hy).mono fun e W' ⟨he, hk⟩ => ?_
  subst he
  exact ⟨_, rfl, law_post hW' rfl laid0 (by kernel_rfl) rfl Try.underlying4 rfl hk.below⟩

theorem checkpoint_holds : Rows.TopCheckpointSaid :=
  OpenClaim.holds_of_wide 4 Try.f4 rfl rfl rfl rfl rfl rfl rfl ⟨rfl, rfl, rfl, rfl, rfl⟩ rfl rfl rfl rfl rfl (by kernel_rfl) Try.func4 (by kernel_rfl)
    (of_decide_eq_true (by kernel_rfl)) (by unfold Func.isWrapper; first | (rw [if_pos (by decide +kernel)]; kernel_rfl) | (rw [if_neg (by decide +kernel)]; exact ⟨rfl, rfl⟩))
    (fun os started H enc _ => checkpoint_lifted os started H enc)
#print axioms checkpoint_holds

end Go.Proofs.Ytfkbcflgbjncdaa
