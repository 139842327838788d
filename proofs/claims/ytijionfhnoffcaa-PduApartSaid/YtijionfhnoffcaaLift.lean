/- Statements of seat 24, lifted: each proved for every input, without a condition. -/
import Derived.Test.YtijionfhnoffcaaPLawE
import Derived.Test.YtijionfhnoffcaaPLawD
import Derived.Test.YtijionfhnoffcaaPLawB
import Derived.Test.YtijionfhnoffcaaArgs
namespace Go.Proofs.Ytijionfhnoffcaa
set_option linter.unusedVariables false
set_option linter.unusedSimpArgs false
open Go.ChangeShapes Go.WideShapes Go.ChangeAt Go.RowKit

theorem own0 : ownKnob Try.prog.godebug = none := by kernel_rfl
theorem laid0 : laidOutB Try.prog = true := by kernel_rfl
theorem leavesU8 : leaves Try.prog 5 5 = some [.int .u8] := by kernel_rfl
theorem cellsOfU8 : Try.prog.cellsOf 5 = 1 := by kernel_rfl
theorem bytes_of {H : Type} {enc : TypeId × Value → H} {w : World} {base : Nat} {spare : Nat → Bool} {held : Bool} {v : Value} {fuel : Nat} {x : DataW H × List MemPlace}
    (hf : DataW.trod enc Try.prog w base spare held fuel 24 [v] = some x) :
    ∃ A n c L, v = .slice A n c ∧ Oct L ∧ n ≤ c ∧ c ≤ maxLen ∧ Vw w A n 1 (octs L) := by
  obtain ⟨A, n, c, he, hnc, hcm, hc⟩ := slice_cells Try.underlying24 leavesU8 cellsOfU8 (by decide) hf
  rcases Nat.eq_zero_or_pos n with h0 | hp
  · subst h0
    exact ⟨A, 0, c, [], he, (by intro x hx; cases hx), hnc, hcm, rfl, fun h => absurd h (by omega)⟩
  obtain ⟨b, o, rfl, hb, hall⟩ := hc hp
  have hex : ∀ i : Nat, ∃ k : Int, i < n → (0 ≤ k ∧ k ≤ 255) ∧ w.cell? ⟨b, o + i, none⟩ = some (.int .u8 k) := by
    intro i
    by_cases hi : i < n
    · obtain ⟨u0, h0, k, rfl, hk⟩ := hall i 0 _ hi rfl
      exact ⟨k, fun _ => ⟨wf_u8 hk, by simpa using h0⟩⟩
    · exact ⟨0, fun h => absurd h hi⟩
  let f : Nat → Int := fun i => (hex i).choose
  have hf : ∀ i, i < n → (0 ≤ f i ∧ f i ≤ 255) ∧ w.cell? ⟨b, o + i, none⟩ = some (.int .u8 (f i)) := fun i hi => (hex i).choose_spec hi
  refine ⟨_, n, c, (List.range n).map f, he, ?_, hnc, hcm, by simp [octs], fun _ => ⟨b, o, rfl, hb, ?_⟩⟩
  · intro x hx
    obtain ⟨i, hi, rfl⟩ := List.mem_map.1 hx
    exact (hf i (List.mem_range.1 hi)).1
  · intro j u hj
    have hjn : j < n := by
      have := (List.getElem?_eq_some_iff.1 hj).1
      simpa [octs] using this
    simp [octs, List.getElem?_range hjn] at hj
    subst hj
    exact (hf j hjn).2
theorem bytes_arg {H : Type} {enc : TypeId × Value → H} {w : World} {base : Nat} {spare : Nat → Bool} {held : Bool} {v : Value} {d : DataW H} {ps : List MemPlace}
    {B : Nat} (hv : Value.okWide Try.prog w .any B 24 v) (h : DataW.Trod enc Try.prog w base spare held 24 v d ps) :
    ∃ A n c L, v = .slice A n c ∧ Oct L ∧ n ≤ c ∧ c ≤ maxLen ∧ Vw w A n 1 (octs L) := by
  obtain ⟨a0, len0, cap0, rfl⟩ := okWide_slice Try.underlying24 hv
  obtain ⟨fuel, hf⟩ := h
  exact bytes_of hf

theorem leavesRg : leaves Try.prog 5 41 = some [.int .i64, .int .i64] := by kernel_rfl
theorem cellsOfRg : Try.prog.cellsOf 41 = 2 := by kernel_rfl
theorem gaps_of {H : Type} {enc : TypeId × Value → H} {w : World} {base : Nat} {spare : Nat → Bool} {held : Bool} {v : Value} {fuel : Nat} {x : DataW H × List MemPlace}
    (hf : DataW.trod enc Try.prog w base spare held fuel 27 [v] = some x) :
    ∃ A n c, ∃ L : List Gp, v = .slice A n c ∧ n ≤ c ∧ c ≤ maxLen ∧ Vw w A n 2 (L.flatMap gcells) := by
  obtain ⟨A, n, c, he, hnc, hcm, hc⟩ := slice_cells Try.underlying27 leavesRg cellsOfRg (by decide) hf
  rcases Nat.eq_zero_or_pos n with h0 | hp
  · subst h0
    exact ⟨A, 0, c, [], he, hnc, hcm, rfl, fun h => absurd h (by omega)⟩
  obtain ⟨b, o, rfl, hb, hall⟩ := hc hp
  have hex : ∀ i : Nat, ∃ g : Gp, i < n → w.cell? ⟨b, o + i * 2 + 0, none⟩ = some (.int .i64 g.f) ∧ w.cell? ⟨b, o + i * 2 + 1, none⟩ = some (.int .i64 g.t) := by
    intro i
    by_cases hi : i < n
    · obtain ⟨u0, h0, k0, rfl, _⟩ := hall i 0 _ hi rfl
      obtain ⟨u1, h1, k1, rfl, _⟩ := hall i 1 _ hi rfl
      exact ⟨⟨k0, k1⟩, fun _ => ⟨h0, h1⟩⟩
    · exact ⟨⟨0, 0⟩, fun h => absurd h hi⟩
  let f : Nat → Gp := fun i => (hex i).choose
  have hf : ∀ i, i < n → w.cell? ⟨b, o + i * 2 + 0, none⟩ = some (.int .i64 (f i).f) ∧ w.cell? ⟨b, o + i * 2 + 1, none⟩ = some (.int .i64 (f i).t) := fun i hi => (hex i).choose_spec hi
  refine ⟨_, n, c, (List.range n).map f, he, hnc, hcm, by rw [gcells_len]; simp, fun _ => ⟨b, o, rfl, hb, ?_⟩⟩
  intro j u hj
  have hjn : j < n * 2 := by
    have := (List.getElem?_eq_some_iff.1 hj).1
    rw [gcells_len] at this
    simpa using this
  have hd : j = j / 2 * 2 + j % 2 := by omega
  have hi : j / 2 < n := by omega
  have hg : ((List.range n).map f)[j / 2]? = some (f (j / 2)) := by simp [List.getElem?_range hi]
  have h1 := flat_get (f := gcells) (n := 2) (fun _ => rfl) ((List.range n).map f) (j / 2) _ (j % 2) hg (by omega)
  rw [← hd, hj] at h1
  rcases (by omega : j % 2 = 0 ∨ j % 2 = 1) with h2 | h2
  · rw [h2] at h1
    cases h1
    have := (hf (j / 2) hi).1
    rw [show o + j = o + j / 2 * 2 + 0 by omega]
    exact this
  · rw [h2] at h1
    cases h1
    have := (hf (j / 2) hi).2
    rw [show o + j = o + j / 2 * 2 + 1 by omega]
    exact this
theorem nums_of (s : ByteArray) : ∃ L, strOfNums L = s ∧ Oct L ∧ L.length = s.size := by
  refine ⟨s.data.toList.map (fun b => (b.toNat : Int)), ?_, ?_, by rw [List.length_map, Array.length_toList]; rfl⟩
  · have h : (strOfNums (s.data.toList.map (fun b => (b.toNat : Int)))).data.toList = s.data.toList := by
      rw [strOfNums_data, List.map_map]
      conv => rhs; rw [← List.map_id s.data.toList]
      apply List.map_congr_left
      intro b _
      simp
    have h2 : (strOfNums (s.data.toList.map (fun b => (b.toNat : Int)))).data = s.data := Array.toList_inj.1 h
    cases s
    cases hq : strOfNums _
    rw [hq] at h2
    simp only at h2
    rw [h2]
  · intro x hx
    obtain ⟨b, _, rfl⟩ := List.mem_map.1 hx
    have := b.toNat_lt
    omega
theorem leavesP : leaves Try.prog 6 29 = some [.int .i64, .int .i64, .int .i64, .int .i64, .str, .int .i64, .int .i64, .sl 24 5, .int .u32, .int .i64, .sl 27 41] := by kernel_rfl
set_option maxRecDepth 100000 in
theorem pdu_arg {H : Type} {enc : TypeId × Value → H} {w : World} {base : Nat} {spare : Nat → Bool} {held : Bool} {v : Value} {d : DataW H} {ps : List MemPlace}
    {B : Nat} (hv : Value.okWide Try.prog w .any B 29 v) (h : DataW.Trod enc Try.prog w base spare held 29 v d ps) :
    ∃ p l, v = .agg (pcs p l) ∧ PArg w p l := by
  obtain ⟨cs, rfl, hsz⟩ := okWide_struct Try.underlying29 hv
  obtain ⟨hs, hall⟩ := agg_cells leavesP h
  obtain ⟨u0, h0, a0, rfl, _⟩ := hall 0 _ rfl
  obtain ⟨u1, h1, a1, rfl, _⟩ := hall 1 _ rfl
  obtain ⟨u2, h2, a2, rfl, _⟩ := hall 2 _ rfl
  obtain ⟨u3, h3, a3, rfl, _⟩ := hall 3 _ rfl
  obtain ⟨u4, h4, s4, rfl, w4⟩ := hall 4 _ rfl
  obtain ⟨u5, h5, a5, rfl, _⟩ := hall 5 _ rfl
  obtain ⟨u6, h6, a6, rfl, _⟩ := hall 6 _ rfl
  obtain ⟨u7, h7, _, m7, y7, t7⟩ := hall 7 _ rfl
  obtain ⟨u8, h8, a8, rfl, w8⟩ := hall 8 _ rfl
  obtain ⟨u9, h9, a9, rfl, _⟩ := hall 9 _ rfl
  obtain ⟨u10, h10, _, m10, y10, t10⟩ := hall 10 _ rfl
  obtain ⟨DA, dn, dc, DL, rfl, dO, dnc, dcm, dV⟩ := bytes_of t7
  obtain ⟨GA, gn, gc, GL, rfl, gnc, gcm, gV⟩ := gaps_of t10
  obtain ⟨NL, rfl, nO, nS⟩ := nums_of s4
  refine ⟨⟨a0, a1, a2, a3, NL, a5, a6, DL, a8, a9, GL⟩, ⟨DA, dn, dc, GA, gn, gc⟩, congrArg Value.agg ?_, ⟨nO, dO, dV, gV, ⟨dnc, dcm⟩, ⟨gnc, gcm⟩, by simp only; rw [nS]; exact w4, by have := wf_u32 w8; simp only; omega⟩⟩
  exact arr_ext (l := [.int .i64 a0, .int .i64 a1, .int .i64 a2, .int .i64 a3, .string (strOfNums NL), .int .i64 a5, .int .i64 a6, .slice DA dn dc, .int .u32 a8, .int .i64 a9, .slice GA gn gc]) hs (fun i hi => by
    match i, hi with
    | 0, _ => exact h0
    | 1, _ => exact h1
    | 2, _ => exact h2
    | 3, _ => exact h3
    | 4, _ => exact h4
    | 5, _ => exact h5
    | 6, _ => exact h6
    | 7, _ => exact h7
    | 8, _ => exact h8
    | 9, _ => exact h9
    | 10, _ => exact h10)

set_option maxRecDepth 100000 in
theorem encodes_lifted (os : Os) (started : os.Started) (H : Type) (enc : TypeId × Value → H) :
    ReturnsInHanded {} Try.checked os 3 .any (Rows.pduEncodesSpec.pre6 enc Try.prog Try.f3 Rows.pduEncodesRow.domain false) (Rows.pduEncodesSpec.post enc Try.prog Try.f3 false true false false) := by
  refine returnsInHanded_of_change (C := Try.checked) own0 started (by kernel_rfl) Try.func3
    (ChangeSpec.witness6 (enc := enc) (C := Try.checked) false ⟨#[], #[.agg #[.int .i64 0, .int .i64 0, .int .i64 0, .int .i64 0, .string ⟨#[]⟩, .int .i64 0, .int .i64 0, .slice none 0 0, .int .u32 0, .int .i64 0, .slice none 0 0]], []⟩ 8 (by kernel_rfl) (by kernel_rfl) (by kernel_rfl) (by kernel_rfl)) ?_
  intro W base args ds gs before hval0 hW hcnd _
  have hval : ∀ (j : Nat) t v, Try.f3.params[j]? = some t → args[j]? = some v → Value.okWide Try.prog W .any base t v := hval0
  have hW' := hW
  obtain ⟨p, q, hA0, hV, rfl, hfz, hnd⟩ := hW
  have hA : DataW.TrodAll enc Try.prog W 0 (fun _ => true) true Try.f3.params.toList args.toList ds p := hA0
  rw [Try.params3] at hA hval
  obtain ⟨v0, d0, rfl, rfl, h0⟩ := trodAll_one hA
  obtain ⟨rfl, rfl⟩ := trodVars_none hV
  obtain ⟨p, l, rfl, hpa⟩ := pdu_arg (hval 0 29 v0 rfl rfl) h0
  clear hA0 hval0
  refine (pduencodes_any W p l hpa).mono fun e W' ⟨he, hk⟩ => ?_
  subst he
  exact ⟨_, rfl, law_post hW' rfl laid0 (by kernel_rfl) rfl Try.underlying4 rfl hk.below⟩

theorem encodes_holds : Rows.PduEncodesSaid :=
  OpenClaim.holds_of_wide 3 Try.f3 rfl rfl rfl rfl rfl rfl rfl ⟨rfl, rfl, rfl, rfl, rfl⟩ rfl rfl rfl rfl rfl (by kernel_rfl) Try.func3 (by kernel_rfl)
    (of_decide_eq_true (by kernel_rfl)) (by unfold Func.isWrapper; first | (rw [if_pos (by decide +kernel)]; kernel_rfl) | (rw [if_neg (by decide +kernel)]; exact ⟨rfl, rfl⟩))
    (fun os started H enc _ => encodes_lifted os started H enc)
#print axioms encodes_holds

set_option maxRecDepth 100000 in
theorem decodes_lifted (os : Os) (started : os.Started) (H : Type) (enc : TypeId × Value → H) :
    ReturnsInHanded {} Try.checked os 4 .any (Rows.pduDecodesSpec.pre6 enc Try.prog Try.f4 Rows.pduDecodesRow.domain false) (Rows.pduDecodesSpec.post enc Try.prog Try.f4 false true false false) := by
  refine returnsInHanded_of_change (C := Try.checked) own0 started (by kernel_rfl) Try.func4
    (ChangeSpec.witness6 (enc := enc) (C := Try.checked) false ⟨#[], #[.slice none 0 0], []⟩ 8 (by kernel_rfl) (by kernel_rfl) (by kernel_rfl) (by kernel_rfl)) ?_
  intro W base args ds gs before hval0 hW hcnd _
  have hval : ∀ (j : Nat) t v, Try.f4.params[j]? = some t → args[j]? = some v → Value.okWide Try.prog W .any base t v := hval0
  have hW' := hW
  obtain ⟨p, q, hA0, hV, rfl, hfz, hnd⟩ := hW
  have hA : DataW.TrodAll enc Try.prog W 0 (fun _ => true) true Try.f4.params.toList args.toList ds p := hA0
  rw [Try.params4] at hA hval
  obtain ⟨v0, d0, rfl, rfl, h0⟩ := trodAll_one hA
  obtain ⟨rfl, rfl⟩ := trodVars_none hV
  obtain ⟨A, n, c, L, rfl, hO1, hnc1, hcm1, hv1⟩ := bytes_arg (hval 0 24 v0 rfl rfl) h0
  clear hA0 hval0
  refine (pdudecodes_any W A n c L hO1 hnc1 hcm1 hv1).mono fun e W' ⟨he, hk⟩ => ?_
  subst he
  exact ⟨_, rfl, law_post hW' rfl laid0 (by kernel_rfl) rfl Try.underlying4 rfl hk.below⟩

theorem decodes_holds : Rows.PduDecodesSaid :=
  OpenClaim.holds_of_wide 4 Try.f4 rfl rfl rfl rfl rfl rfl rfl ⟨rfl, rfl, rfl, rfl, rfl⟩ rfl rfl rfl rfl rfl (by kernel_rfl) Try.func4 (by kernel_rfl)
    (of_decide_eq_true (by kernel_rfl)) (by unfold Func.isWrapper; first | (rw [if_pos (by decide +kernel)]; kernel_rfl) | (rw [if_neg (by decide +kernel)]; exact ⟨rfl, rfl⟩))
    (fun os started H enc _ => decodes_lifted os started H enc)
#print axioms decodes_holds

set_option maxRecDepth 100000 in
theorem back_lifted (os : Os) (started : os.Started) (H : Type) (enc : TypeId × Value → H) :
    ReturnsInHanded {} Try.checked os 5 .any (Rows.pduBackSpec.pre6 enc Try.prog Try.f5 Rows.pduBackRow.domain false) (Rows.pduBackSpec.post enc Try.prog Try.f5 false true false false) := by
  refine returnsInHanded_of_change (C := Try.checked) own0 started (by kernel_rfl) Try.func5
    (ChangeSpec.witness6 (enc := enc) (C := Try.checked) false ⟨#[], #[.agg #[.int .i64 0, .int .i64 0, .int .i64 0, .int .i64 0, .string ⟨#[]⟩, .int .i64 0, .int .i64 0, .slice none 0 0, .int .u32 0, .int .i64 0, .slice none 0 0]], []⟩ 8 (by kernel_rfl) (by kernel_rfl) (by kernel_rfl) (by kernel_rfl)) ?_
  intro W base args ds gs before hval0 hW hcnd _
  have hval : ∀ (j : Nat) t v, Try.f5.params[j]? = some t → args[j]? = some v → Value.okWide Try.prog W .any base t v := hval0
  have hW' := hW
  obtain ⟨p, q, hA0, hV, rfl, hfz, hnd⟩ := hW
  have hA : DataW.TrodAll enc Try.prog W 0 (fun _ => true) true Try.f5.params.toList args.toList ds p := hA0
  rw [Try.params5] at hA hval
  obtain ⟨v0, d0, rfl, rfl, h0⟩ := trodAll_one hA
  obtain ⟨rfl, rfl⟩ := trodVars_none hV
  obtain ⟨p, l, rfl, hpa⟩ := pdu_arg (hval 0 29 v0 rfl rfl) h0
  clear hA0 hval0
  refine (pduback_any W p l hpa).mono fun e W' ⟨he, hk⟩ => ?_
  subst he
  exact ⟨_, rfl, law_post hW' rfl laid0 (by kernel_rfl) rfl Try.underlying4 rfl hk.below⟩

theorem back_holds : Rows.PduBackSaid :=
  OpenClaim.holds_of_wide 5 Try.f5 rfl rfl rfl rfl rfl rfl rfl ⟨rfl, rfl, rfl, rfl, rfl⟩ rfl rfl rfl rfl rfl (by kernel_rfl) Try.func5 (by kernel_rfl)
    (of_decide_eq_true (by kernel_rfl)) (by unfold Func.isWrapper; first | (rw [if_pos (by decide +kernel)]; kernel_rfl) | (rw [if_neg (by decide +kernel)]; exact ⟨rfl, rfl⟩))
    (fun os started H enc _ => back_lifted os started H enc)
#print axioms back_holds

set_option maxRecDepth 100000 in
theorem once_lifted (os : Os) (started : os.Started) (H : Type) (enc : TypeId × Value → H) :
    ReturnsInHanded {} Try.checked os 6 .any (Rows.pduOnceSpec.pre6 enc Try.prog Try.f6 Rows.pduOnceRow.domain false) (Rows.pduOnceSpec.post enc Try.prog Try.f6 false true false false) := by
  refine returnsInHanded_of_change (C := Try.checked) own0 started (by kernel_rfl) Try.func6
    (ChangeSpec.witness6 (enc := enc) (C := Try.checked) false ⟨#[], #[.slice none 0 0], []⟩ 8 (by kernel_rfl) (by kernel_rfl) (by kernel_rfl) (by kernel_rfl)) ?_
  intro W base args ds gs before hval0 hW hcnd _
  have hval : ∀ (j : Nat) t v, Try.f6.params[j]? = some t → args[j]? = some v → Value.okWide Try.prog W .any base t v := hval0
  have hW' := hW
  obtain ⟨p, q, hA0, hV, rfl, hfz, hnd⟩ := hW
  have hA : DataW.TrodAll enc Try.prog W 0 (fun _ => true) true Try.f6.params.toList args.toList ds p := hA0
  rw [Try.params6] at hA hval
  obtain ⟨v0, d0, rfl, rfl, h0⟩ := trodAll_one hA
  obtain ⟨rfl, rfl⟩ := trodVars_none hV
  obtain ⟨A, n, c, L, rfl, hO1, hnc1, hcm1, hv1⟩ := bytes_arg (hval 0 24 v0 rfl rfl) h0
  clear hA0 hval0
  refine (pduonce_any W A n c L hO1 hnc1 hcm1 hv1).mono fun e W' ⟨he, hk⟩ => ?_
  subst he
  exact ⟨_, rfl, law_post hW' rfl laid0 (by kernel_rfl) rfl Try.underlying4 rfl hk.below⟩

theorem once_holds : Rows.PduOnceSaid :=
  OpenClaim.holds_of_wide 6 Try.f6 rfl rfl rfl rfl rfl rfl rfl ⟨rfl, rfl, rfl, rfl, rfl⟩ rfl rfl rfl rfl rfl (by kernel_rfl) Try.func6 (by kernel_rfl)
    (of_decide_eq_true (by kernel_rfl)) (by unfold Func.isWrapper; first | (rw [if_pos (by decide +kernel)]; kernel_rfl) | (rw [if_neg (by decide +kernel)]; exact ⟨rfl, rfl⟩))
    (fun os started H enc _ => once_lifted os started H enc)
#print axioms once_holds

set_option maxRecDepth 100000 in
theorem apart_lifted (os : Os) (started : os.Started) (H : Type) (enc : TypeId × Value → H) :
    ReturnsInHanded {} Try.checked os 7 .any (Rows.pduApartSpec.pre6 enc Try.prog Try.f7 Rows.pduApartRow.domain false) (Rows.pduApartSpec.post enc Try.prog Try.f7 false true false false) := by
  refine returnsInHanded_of_change (C := Try.checked) own0 started (by kernel_rfl) Try.func7
    (ChangeSpec.witness6 (enc := enc) (C := Try.checked) false ⟨#[], #[.agg #[.int .i64 0, .int .i64 0, .int .i64 0, .int .i64 0, .string ⟨#[]⟩, .int .i64 0, .int .i64 0, .slice none 0 0, .int .u32 0, .int .i64 0, .slice none 0 0], .slice none 0 0], []⟩ 8 (by kernel_rfl) (by kernel_rfl) (by kernel_rfl) (by kernel_rfl)) ?_
  intro W base args ds gs before hval0 hW hcnd _
  have hval : ∀ (j : Nat) t v, Try.f7.params[j]? = some t → args[j]? = some v → Value.okWide Try.prog W .any base t v := hval0
  have hW' := hW
  obtain ⟨p, q, hA0, hV, rfl, hfz, hnd⟩ := hW
  have hA : DataW.TrodAll enc Try.prog W 0 (fun _ => true) true Try.f7.params.toList args.toList ds p := hA0
  rw [Try.params7] at hA hval
  obtain ⟨v0, v1, d0, d1, p0, p1, rfl, rfl, rfl, h0, h1⟩ := trodAll_two hA
  obtain ⟨rfl, rfl⟩ := trodVars_none hV
  obtain ⟨p, l, rfl, hpa⟩ := pdu_arg (hval 0 29 v0 rfl rfl) h0
  obtain ⟨A, n, c, L, rfl, hO1, hnc1, hcm1, hv1⟩ := bytes_arg (hval 1 24 v1 rfl rfl) h1
  clear hA0 hval0
  refine (pduapart_any W p l hpa A n c L hO1 hnc1 hcm1 hv1).mono fun e W' ⟨he, hk⟩ => ?_
  subst he
  exact ⟨_, rfl, law_post hW' rfl laid0 (by kernel_rfl) rfl Try.underlying4 rfl hk.below⟩

theorem apart_holds : Rows.PduApartSaid :=
  OpenClaim.holds_of_wide 7 Try.f7 rfl rfl rfl rfl rfl rfl rfl ⟨rfl, rfl, rfl, rfl, rfl⟩ rfl rfl rfl rfl rfl (by kernel_rfl) Try.func7 (by kernel_rfl)
    (of_decide_eq_true (by kernel_rfl)) (by unfold Func.isWrapper; first | (rw [if_pos (by decide +kernel)]; kernel_rfl) | (rw [if_neg (by decide +kernel)]; exact ⟨rfl, rfl⟩))
    (fun os started H enc _ => apart_lifted os started H enc)
#print axioms apart_holds

end Go.Proofs.Ytijionfhnoffcaa
