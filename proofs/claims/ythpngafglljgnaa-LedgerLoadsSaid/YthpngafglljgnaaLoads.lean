/- The law LedgerLoads: its walk. -/
import Derived.Test.YthpngafglljgnaaLoadsP
namespace Go.Proofs.Ythpngafglljgnaa
set_option linter.unusedVariables false
set_option linter.unusedSimpArgs false
open Go.RowKit
set_option maxRecDepth 10000 in
set_option maxHeartbeats 8000000 in
theorem loads_any (w : World) (X : Option Addr) (m c : Nat) (B : List Int) (hO : Oct B) (hmc : m ≤ c) (hcm : c ≤ maxLen) (hv : Vw w X m 1 (octs B)) :
    Calls Try.prog 4 #[.slice X m c] w (LawPost w) := by
  have hlm : B.length = m := by simpa [octs] using hv.1
  have HV := Lib.hid hv
  have HO := Lib.hid hO
  have HLM := Lib.hid hlm
  clear hv hO hlm
  by_cases h400 : 400 < m
  · have hl : (400 : Int) < (m : Int) := by omega
    go_enter Try.func4, Try.ntmps4
    go_wp2_with fail
    refine (awake_any _).mono ?_
    rintro e w1 ⟨rfl, hk⟩
    have K1 := Lib.hid hk
    have HV1 := Lib.hid (HV.out.keep0 hk)
    clear hk
    go_wp2_with fail
    go_ret
    exact ⟨rfl, K1.out⟩
  have hl : (m : Int) ≤ 400 := by omega
  have hm8 : m ≤ 100000000 := by omega
  cases hok : refOk B with
  | false =>
    have HLR := Lib.hid (loads_no HO.out (by have := HLM.out; omega) hok)
    have HOK := Lib.hid hok
    clear hok
    go_enter Try.func4, Try.ntmps4
    go_wp2_with fail
    refine (awake_any _).mono ?_
    rintro e w1 ⟨rfl, hk⟩
    have K1 := Lib.hid hk
    have HV1 := Lib.hid (HV.out.keep0 hk)
    clear hk
    go_wp2_with fail
    refine (load_r _ X m c B none HLR.out HO.out hm8 HV1.out).mono ?_
    rintro e w2 ⟨hk, rfl⟩
    have K2 : Hid (Keep w.heap.size [] w w2) := K1.out.chain0 (Nat.le_refl _) hk
    have HV2 := Lib.hid (HV1.out.keep0 hk)
    clear hk
    go_wp2_with fail
    refine (rload_b _ X m c B false HOK.out HO.out hmc hcm hm8 HV2.out).mono ?_
    rintro e w3 ⟨a, rfl, hsz, hone, hk⟩
    have K3 : Hid (Keep w.heap.size [] w w3) := K2.out.chain0 (Nat.le_refl _) hk
    have HSZ := Lib.hid hsz
    have HONE := Lib.hid hone
    have HB3 : Hid (Blk (w3.alloc (.cells zRL 40)) w3.heap.size 40 zRL) := Blk.new _ _ _
    clear hk hsz hone
    go_wp2_with (refine wpList_store_mid rfl 40 (.tmp 5) (.tmp 20) rfl w3.heap.size 0 a rfl rfl (HB3.out.there 0 _ (by rw [HSZ.out]; decide)) (by rw [infoRL, HSZ.out]) HONE.out ?_)
    go_ret
    exact ⟨rfl, Keep.setCells (.inl K3.out.size) _ _ _ (K3.out.alloc K3.out.size _)⟩
  | true =>
    obtain ⟨l, hlr, him, hl16⟩ := loads_yes HO.out hok
    have HLR := Lib.hid hlr
    have HIM := Lib.hid him
    have HOK := Lib.hid hok
    obtain ⟨S1, hS1⟩ : ∃ S1, strOfNums B = S1 := ⟨_, rfl⟩
    have hsz1 : S1.size ≤ 400 := by rw [← hS1, strOfNums_size]; have := HLM.out; omega
    have HCV : Hid (∀ W, Keep w.heap.size [] w W → (convert 33 9 (.slice X m c)).run Try.prog W = .ok (.string S1) W) := fun W hW => by
      rw [← hS1]
      exact conv_str 33 9 5 Try.underlying33 Try.underlying5 Try.underlying9 _ _ _ _ (HV.out.keep0 hW)
    have HCA : Hid (∀ W A n1 c1, Sl W 5 1 A n1 c1 (octs B) → (convert 33 9 (.slice A n1 c1)).run Try.prog W = .ok (.string S1) W) := fun W A n1 c1 hs => by
      rw [← hS1]
      exact conv_str 33 9 5 Try.underlying33 Try.underlying5 Try.underlying9 _ _ _ _ (hs.vw (by omega))
    clear hok hlr him hS1
    go_enter Try.func4, Try.ntmps4
    go_wp2_with fail
    refine (awake_any _).mono ?_
    rintro e w1 ⟨rfl, hk⟩
    have K1 := Lib.hid hk
    have HV1 := Lib.hid (HV.out.keep0 hk)
    clear hk
    go_wp2_with fail
    refine (load_r _ X m c B (some l) HLR.out HO.out hm8 HV1.out).mono ?_
    rintro e w2 ⟨hk, g, rfl, hg, hl2⟩
    have K2 : Hid (Keep w.heap.size [] w w2) := K1.out.chain0 (Nat.le_refl _) hk
    have HV2 := Lib.hid (HV1.out.keep0 hk)
    have L2 := Lib.hid hl2
    clear hk hg hl2
    go_wp2_with fail
    refine (rload_b _ X m c B true HOK.out HO.out hmc hcm hm8 HV2.out).mono ?_
    rintro e w3 ⟨a, rfl, hsz, hone, hk⟩
    have K3 : Hid (Keep w.heap.size [] w w3) := K2.out.chain0 (Nat.le_refl _) hk
    have L3 := Lib.hid (L2.out.keepS hk (by simp))
    have HSZ := Lib.hid hsz
    have HONE := Lib.hid hone
    have HB3 : Hid (Blk (w3.alloc (.cells zRL 40)) w3.heap.size 40 zRL) := Blk.new _ _ _
    clear hk hsz hone
    go_wp2_with (refine wpList_store_mid rfl 40 (.tmp 5) (.tmp 20) rfl w3.heap.size 0 a rfl rfl (HB3.out.there 0 _ (by rw [HSZ.out]; decide)) (by rw [infoRL, HSZ.out]) HONE.out ?_)
    obtain ⟨W5, hW5⟩ : ∃ W5, W5 = (w3.alloc (.cells zRL 40)).setCells w3.heap.size 0 a.toList := ⟨_, rfl⟩
    have hk5 : Keep w3.heap.size [] w3 W5 := by rw [hW5]; exact Keep.setCells (.inl (Nat.le_refl _)) _ _ _ ((Keep.refl _ _ _).alloc (Nat.le_refl _) _)
    have K5 : Hid (Keep w.heap.size [] w W5) := K3.out.chain0 (Nat.le_refl _) hk5
    have L5 := Lib.hid (L3.out.keepS hk5 (by simp))
    change Code.wp _ _ _ _ ((w3.alloc (.cells zRL 40)).setCells w3.heap.size 0 a.toList)
    rw [← hW5]
    have s5d := HCV.out W5.drew K5.out.drew
    clear hW5 hk5
    refine wp_region_held_drew (S := (fun w' => (convert 33 9 (.slice X m c)).run Try.prog w' = .ok (.string S1) w')) (by kernel_rfl) (by exact s5d) (fun hHeld => ?_)
    refine wpAnyH_take (i := 0) (oi := { dst := some 30, op := Op.move (Operand.tmp 4), type := 26, pos := _, after := #[], guard := none }) (v := _) rfl (by kernel_rfl) (by kernel_rfl) (by kernel_rfl) (fun _ _ _ h => h) (Or.inl ⟨by rfl, by (intro wS hSw; (try dsimp only at hSw); go_simp; try with_reducible rfl)⟩) (by assumption) ?_
    (try simp only [Act.put, List.setIfInBounds_toArray, List.set_cons_zero, List.set_cons_succ])
    refine wpAnyH_take (i := 1) (oi := { dst := some 31, op := Op.binOp BinOp.eql 26 (Operand.tmp 30) (Operand.const (Value.int IntKind.i64 0)) 26, type := 4, pos := _, after := #[{ on := 0, ground := Ground.data }], guard := none }) (v := _) rfl (by kernel_rfl) (by kernel_rfl) (by kernel_rfl) (fun _ _ _ h => h) (Or.inl ⟨by rfl, by (intro wS hSw; (try dsimp only at hSw); go_simp; try with_reducible rfl)⟩) (by assumption) ?_
    (try simp only [Act.put, List.setIfInBounds_toArray, List.set_cons_zero, List.set_cons_succ])
    refine wpAnyH_take (i := 2) (oi := { dst := some 32, op := Op.move (Operand.tmp 31), type := 4, pos := _, after := #[{ on := 1, ground := Ground.data }], guard := none }) (v := _) rfl (by kernel_rfl) (by kernel_rfl) (by kernel_rfl) (fun _ _ _ h => h) (Or.inl ⟨by rfl, by (intro wS hSw; (try dsimp only at hSw); go_simp; try with_reducible rfl)⟩) (by assumption) ?_
    (try simp only [Act.put, List.setIfInBounds_toArray, List.set_cons_zero, List.set_cons_succ])
    refine wpAnyH_take (i := 3) (oi := { dst := some 33, op := Op.move (Operand.tmp 3), type := 24, pos := _, after := #[{ on := 2, ground := Ground.guard }], guard := some (2, true) }) (v := _) rfl (by kernel_rfl) (by kernel_rfl) (by kernel_rfl) (fun _ _ _ h => h) (Or.inl ⟨by rfl, by (intro wS hSw; (try dsimp only at hSw); go_simp; try with_reducible rfl)⟩) (by assumption) ?_
    (try simp only [Act.put, List.setIfInBounds_toArray, List.set_cons_zero, List.set_cons_succ])
    refine wpAnyH_take (i := 6) (oi := { dst := some 36, op := Op.move (Operand.tmp 0), type := 33, pos := _, after := #[{ on := 2, ground := Ground.guard }], guard := some (2, true) }) (v := _) rfl (by kernel_rfl) (by kernel_rfl) (by kernel_rfl) (fun _ _ _ h => h) (Or.inl ⟨by rfl, by (intro wS hSw; (try dsimp only at hSw); go_simp; try with_reducible rfl)⟩) (by assumption) ?_
    (try simp only [Act.put, List.setIfInBounds_toArray, List.set_cons_zero, List.set_cons_succ])
    refine wpAnyH_take (i := 7) (oi := { dst := some 37, op := Op.convert 33 9 (Operand.tmp 36), type := 9, pos := _, after := #[{ on := 6, ground := Ground.data }, { on := 2, ground := Ground.guard }], guard := some (2, true) }) (v := _) rfl (by kernel_rfl) (by kernel_rfl) (by kernel_rfl) (fun _ _ _ h => h) (Or.inl ⟨by rfl, by (intro wS hSw; (try dsimp only at hSw); go_simp; try with_reducible rfl)⟩) (by assumption) ?_
    (try simp only [Act.put, List.setIfInBounds_toArray, List.set_cons_zero, List.set_cons_succ])
    refine wpAnyH_ready (rs := [4]) (by kernel_rfl) (by simp) ?_
    refine AllReadyH.cons (o := { dst := some 34, op := Op.call { callee := Callee.value (Operand.func 15), args := #[Operand.tmp 33], argTypes := #[24] }, type := 33, pos := _, after := #[{ on := 3, ground := Ground.data }, { on := 2, ground := Ground.chain }, { on := 2, ground := Ground.guard }], guard := some (2, true) }) rfl (fun K hK => ?_) AllReadyH.nil
    go_simp
    refine (image_any _ g l (by exact L5.out.drew)).mono ?_
    rintro e w6 ⟨A6, n6, c6, rfl, hn, hs, hk, _⟩
    have hk' := hk.undrew
    have K6 : Hid (Keep w.heap.size [] w w6) := K5.out.chain0 (Nat.le_refl _) hk'
    have s6 := HCV.out w6 K6.out
    have t6 := HCA.out w6 A6 n6 c6 (by rw [HIM.out] at hs; exact hs)
    clear hn hs hk hk'
    refine hK.out _ _ (by exact s6) (fun hHeld => ?_)
    clear hK K
    (try simp only [Act.put, List.setIfInBounds_toArray, List.set_cons_zero, List.set_cons_succ])
    refine wpAnyH_ready (rs := [5]) (by kernel_rfl) (by simp) ?_
    refine AllReadyH.cons (o := { dst := some 35, op := Op.convert 33 9 (Operand.tmp 34), type := 9, pos := _, after := #[{ on := 4, ground := Ground.data }, { on := 2, ground := Ground.guard }], guard := some (2, true) }) rfl (fun K hK => ?_) AllReadyH.nil
    go_simp
    refine hK.out _ _ (by exact s6) (fun hHeld => ?_)
    clear hK K
    (try simp only [Act.put, List.setIfInBounds_toArray, List.set_cons_zero, List.set_cons_succ])
    refine wpAnyH_take (i := 8) (oi := { dst := some 38, op := Op.binOp BinOp.eql 9 (Operand.tmp 35) (Operand.tmp 37) 9, type := 4, pos := _, after := #[{ on := 5, ground := Ground.data }, { on := 7, ground := Ground.data }, { on := 2, ground := Ground.guard }], guard := some (2, true) }) (v := _) rfl (by kernel_rfl) (by kernel_rfl) (by kernel_rfl) (fun _ _ _ h => h) (Or.inl ⟨by rfl, by (intro wS hSw; (try dsimp only at hSw); go_simp; try with_reducible rfl)⟩) (by assumption) ?_
    (try simp only [Act.put, List.setIfInBounds_toArray, List.set_cons_zero, List.set_cons_succ])
    refine wpAnyH_take (i := 9) (oi := { dst := some 39, op := Op.pick (Operand.tmp 32) (Operand.tmp 38) (Operand.const (Value.bool false)), type := 4, pos := _, after := #[{ on := 2, ground := Ground.data }, { on := 8, ground := Ground.data }], guard := none }) (v := _) rfl (by kernel_rfl) (by kernel_rfl) (by kernel_rfl) (fun _ _ _ h => h) (Or.inl ⟨by rfl, by (intro wS hSw; (try dsimp only at hSw); go_simp; try with_reducible rfl)⟩) (by assumption) ?_
    (try simp only [Act.put, List.setIfInBounds_toArray, List.set_cons_zero, List.set_cons_succ])
    refine wpAnyH_take (i := 10) (oi := { dst := some 2, op := Op.assign (Operand.tmp 39), type := 4, pos := _, after := #[{ on := 9, ground := Ground.data }, { on := 4, ground := Ground.chain }, { on := 0, ground := Ground.phase }, { on := 1, ground := Ground.phase }, { on := 2, ground := Ground.phase }, { on := 3, ground := Ground.phase }, { on := 4, ground := Ground.phase }, { on := 5, ground := Ground.phase }, { on := 6, ground := Ground.phase }, { on := 7, ground := Ground.phase }, { on := 8, ground := Ground.phase }, { on := 9, ground := Ground.phase }], guard := none }) (v := _) rfl (by kernel_rfl) (by kernel_rfl) (by kernel_rfl) (fun _ _ _ h => h) (Or.inl ⟨by rfl, by (intro wS hSw; (try dsimp only at hSw); go_simp; try with_reducible rfl)⟩) (by assumption) ?_
    (try simp only [Act.put, List.setIfInBounds_toArray, List.set_cons_zero, List.set_cons_succ])
    refine wpAnyH_done (by kernel_rfl) ?_ _
    go_wp2_with fail
    all_goals go_ret
    all_goals exact ⟨rfl, K6.out⟩
end Go.Proofs.Ythpngafglljgnaa
