/- TopTransfer, lifted: proved for every input, without a condition. -/
import Derived.Test.YtfkbcflgbjncdaaTxAo
import Derived.Test.YtfkbcflgbjncdaaArgs
namespace Go.Proofs.Ytfkbcflgbjncdaa
set_option linter.unusedVariables false
set_option linter.unusedSimpArgs false
open Go.ChangeShapes Go.WideShapes Go.ChangeAt Go.RowKit

theorem own0 : ownKnob Try.prog.godebug = none := by kernel_rfl
theorem laid0 : laidOutB Try.prog = true := by kernel_rfl
theorem leavesB : leaves Try.prog 5 4 = some [.bool] := by kernel_rfl
theorem cellsOfB : Try.prog.cellsOf 4 = 1 := by kernel_rfl
set_option maxRecDepth 100000 in
theorem bools_arg {H : Type} {enc : TypeId × Value → H} {w : World} {base : Nat} {spare : Nat → Bool} {held : Bool} {v : Value} {fuel : Nat} {x : DataW H × List MemPlace}
    (hf : DataW.trod enc Try.prog w base spare held fuel 29 [v] = some x) :
    ∃ A n c, ∃ L : List Bool, v = .slice A n c ∧ n ≤ c ∧ c ≤ maxLen ∧ Vw w A n 1 (L.map Value.bool) := by
  obtain ⟨A, n, c, he, hnc, hcm, hc⟩ := slice_cells Try.underlying29 leavesB cellsOfB (by decide) hf
  rcases Nat.eq_zero_or_pos n with h0 | hp
  · subst h0
    exact ⟨A, 0, c, [], he, hnc, hcm, rfl, fun h => absurd h (by omega)⟩
  obtain ⟨b, o, rfl, hb, hall⟩ := hc hp
  have hex : ∀ i : Nat, ∃ k : Bool, i < n → w.cell? ⟨b, o + i, none⟩ = some (.bool k) := by
    intro i
    by_cases hi : i < n
    · obtain ⟨u0, h0, k, rfl⟩ := hall i 0 _ hi rfl
      exact ⟨k, fun _ => by simpa using h0⟩
    · exact ⟨false, fun h => absurd h hi⟩
  let f : Nat → Bool := fun i => (hex i).choose
  have hf : ∀ i, i < n → w.cell? ⟨b, o + i, none⟩ = some (.bool (f i)) := fun i hi => (hex i).choose_spec hi
  refine ⟨_, n, c, (List.range n).map f, he, hnc, hcm, by simp, fun _ => ⟨b, o, rfl, hb, ?_⟩⟩
  intro j u hj
  have hjn : j < n := by
    have := (List.getElem?_eq_some_iff.1 hj).1
    simpa using this
  simp [List.getElem?_range hjn] at hj
  subst hj
  exact hf j hjn
theorem leavesU8 : leaves Try.prog 5 5 = some [.int .u8] := by kernel_rfl
theorem cellsOfU8 : Try.prog.cellsOf 5 = 1 := by kernel_rfl
theorem bytes_arg {H : Type} {enc : TypeId × Value → H} {w : World} {base : Nat} {spare : Nat → Bool} {held : Bool} {v : Value}
    {fuel : Nat} {x : DataW H × List MemPlace} (hf : DataW.trod enc Try.prog w base spare held fuel 35 [v] = some x) :
    ∃ A n c L, v = .slice A n c ∧ Oct L ∧ n ≤ c ∧ c ≤ maxLen ∧ Vw w A n 1 (octs L) := by
  obtain ⟨A, n, c, he, hnc, hcm, hc⟩ := slice_cells Try.underlying35 leavesU8 cellsOfU8 (by decide) hf
  rcases Nat.eq_zero_or_pos n with h0 | hp
  · subst h0
    exact ⟨A, 0, c, [], he, (by intro x hx; cases hx), hnc, hcm, rfl, fun h => absurd h (by omega)⟩
  obtain ⟨b, o, rfl, hb, hall⟩ := hc hp
  have hex : ∀ i : Nat, ∃ k : Int, i < n → (0 ≤ k ∧ k ≤ 255) ∧ w.cell? ⟨b, o + i, none⟩ = some (.int .u8 k) := by
    intro i
    by_cases hi : i < n
    · obtain ⟨u0, h0, k, rfl, hk⟩ := hall i 0 _ hi rfl
      exact ⟨k, fun _ => ⟨wf_u8 hk, by simpa using h0⟩⟩
    · exact ⟨0, fun h => absurd h hi⟩
  let f : Nat → Int := fun i => (hex i).choose
  have hf : ∀ i, i < n → (0 ≤ f i ∧ f i ≤ 255) ∧ w.cell? ⟨b, o + i, none⟩ = some (.int .u8 (f i)) := fun i hi => (hex i).choose_spec hi
  refine ⟨_, n, c, (List.range n).map f, he, ?_, hnc, hcm, by simp [octs], fun _ => ⟨b, o, rfl, hb, ?_⟩⟩
  · intro x hx
    obtain ⟨i, hi, rfl⟩ := List.mem_map.1 hx
    exact (hf i (List.mem_range.1 hi)).1
  · intro j u hj
    have hjn : j < n := by
      have := (List.getElem?_eq_some_iff.1 hj).1
      simpa [octs] using this
    simp [octs, List.getElem?_range hjn] at hj
    subst hj
    exact (hf j hjn).2

theorem leavesTx : leaves Try.prog 6 71 = some [.sl 35 5, .int .i64, .sl 29 4, .sl 29 4] := by kernel_rfl
set_option maxRecDepth 100000 in
theorem transfer_arg {H : Type} {enc : TypeId × Value → H} {w : World} {base : Nat} {spare : Nat → Bool} {held : Bool} {v : Value} {d : DataW H} {ps : List MemPlace}
    {B : Nat} (hv : Value.okWide Try.prog w .any B 71 v) (h : DataW.Trod enc Try.prog w base spare held 71 v d ps) :
    ∃ (X : Option Addr) (xc : Nat) (F : List Int) (ch : Int) (U : Option Addr) (un uc : Nat) (bu : List Bool) (V : Option Addr) (vn vc : Nat) (bv : List Bool), v = .agg #[.slice X F.length xc, .int .i64 ch, .slice U un uc, .slice V vn vc] ∧ Vw w X F.length 1 (octs F) ∧ (F.length ≤ xc ∧ xc ≤ maxLen) ∧ Oct F ∧ Vw w U un 1 (bu.map Value.bool) ∧ (un ≤ uc ∧ uc ≤ maxLen) ∧ Vw w V vn 1 (bv.map Value.bool) ∧ (vn ≤ vc ∧ vc ≤ maxLen) := by
  obtain ⟨cs, rfl, hsz⟩ := okWide_struct Try.underlying71 hv
  obtain ⟨hs, hall⟩ := agg_cells leavesTx h
  obtain ⟨u0, h0, _, m0, y0, t0⟩ := hall 0 _ rfl
  obtain ⟨u1, h1, a1, rfl, _⟩ := hall 1 _ rfl
  obtain ⟨u2, h2, _, m2, y2, t2⟩ := hall 2 _ rfl
  obtain ⟨u3, h3, _, m3, y3, t3⟩ := hall 3 _ rfl
  obtain ⟨X, n, xc, F, rfl, hO, xnc, xcm, xV⟩ := bytes_arg t0
  obtain ⟨U, un, uc, bu, rfl, unc, ucm, uV⟩ := bools_arg t2
  obtain ⟨V, vn, vc, bv, rfl, vnc, vcm, vV⟩ := bools_arg t3
  have hn : n = F.length := by have := xV.1; simpa [octs] using this.symm
  subst hn
  refine ⟨X, xc, F, a1, U, un, uc, bu, V, vn, vc, bv, congrArg Value.agg ?_, xV, ⟨xnc, xcm⟩, hO, uV, ⟨unc, ucm⟩, vV, ⟨vnc, vcm⟩⟩
  exact arr_ext (l := [.slice X F.length xc, .int .i64 a1, .slice U un uc, .slice V vn vc]) hs (fun i hi => by
    match i, hi with
    | 0, _ => exact h0
    | 1, _ => exact h1
    | 2, _ => exact h2
    | 3, _ => exact h3)

set_option maxRecDepth 100000 in
theorem transfer_lifted (os : Os) (started : os.Started) (H : Type) (enc : TypeId × Value → H) :
    ReturnsInHanded {} Try.checked os 5 .any (Rows.topTransferSpec.pre6 enc Try.prog Try.f5 Rows.topTransferRow.domain false) (Rows.topTransferSpec.post enc Try.prog Try.f5 false true false false) := by
  refine returnsInHanded_of_change (C := Try.checked) own0 started (by kernel_rfl) Try.func5
    (ChangeSpec.witness6 (enc := enc) (C := Try.checked) false ⟨#[], #[.agg #[.slice none 0 0, .int .i64 0, .slice none 0 0, .slice none 0 0]], []⟩ 8 (by kernel_rfl) (by kernel_rfl) (by kernel_rfl) (by kernel_rfl)) ?_
  intro W base args ds gs before hval0 hW hcnd _
  have hval : ∀ (j : Nat) t v, Try.f5.params[j]? = some t → args[j]? = some v → Value.okWide Try.prog W .any base t v := hval0
  have hW' := hW
  obtain ⟨p, q, hA0, hV, rfl, hfz, hnd⟩ := hW
  have hA : DataW.TrodAll enc Try.prog W 0 (fun _ => true) true Try.f5.params.toList args.toList ds p := hA0
  rw [Try.params5] at hA hval
  obtain ⟨v0, d0, rfl, rfl, h0⟩ := trodAll_one hA
  obtain ⟨rfl, rfl⟩ := trodVars_none hV
  obtain ⟨X, xc, F, ch, U, un, uc, bu, V, vn, vc, bv, rfl, hX, hXc, hO, hU, hUc, hV, hVc⟩ := transfer_arg (hval 0 71 v0 rfl rfl) h0
  clear hA0 hval0
  refine (law_any W X xc F U un uc bu V vn vc bv ch hX hXc hO hU hUc hV hVc).mono fun e W' ⟨he, hk⟩ => ?_
  subst he
  exact ⟨_, rfl, law_post hW' rfl laid0 (by kernel_rfl) rfl Try.underlying4 rfl hk.below⟩

theorem transfer_holds : Rows.TopTransferSaid :=
  OpenClaim.holds_of_wide 5 Try.f5 rfl rfl rfl rfl rfl rfl rfl ⟨rfl, rfl, rfl, rfl, rfl⟩ rfl rfl rfl rfl rfl (by kernel_rfl) Try.func5 (by kernel_rfl)
    (of_decide_eq_true (by kernel_rfl)) (by unfold Func.isWrapper; first | (rw [if_pos (by decide +kernel)]; kernel_rfl) | (rw [if_neg (by decide +kernel)]; exact ⟨rfl, rfl⟩))
    (fun os started H enc _ => transfer_lifted os started H enc)
#print axioms transfer_holds

end Go.Proofs.Ytfkbcflgbjncdaa
