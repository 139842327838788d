/- The error-correcting memory: New. -/
import Derived.Test.YtfkbcflgbjncdaaMemB
import Derived.Deep.OwnRows
import Derived.Deep.DeepCutAuto
namespace Go.Proofs.Ytfkbcflgbjncdaa
set_option linter.unusedVariables false
set_option linter.unusedSimpArgs false
open Go.RowKit
theorem enc_z (w : World) : Calls Try.prog 57 #[.int .u32 0] w fun e w' => e = .returned (.int .u64 (encW 0 : Int)) ∧ Keep w.heap.size [] w w' := enc_w w 0 (by decide)
def part0 (k : Nat) : List Nat := List.replicate k (encW 0) ++ List.replicate (400 - k) 0
theorem part0_len {k : Nat} (h : k ≤ 400) : (part0 k).length = 400 := by unfold part0; simp; omega
theorem part0_set {k : Nat} (h : k < 400) : (part0 k).set k (encW 0) = part0 (k + 1) := by
  unfold part0
  rw [List.set_append_right _ _ (by simp), List.length_replicate, Nat.sub_self]
  have e : 400 - k = (400 - (k + 1)) + 1 := by omega
  rw [e, List.replicate_succ, List.set_cons_zero, List.replicate_succ' (n := k), List.append_assoc]
  rfl
theorem part0_at {k : Nat} (h : k < 400) : (part0 k)[k]? = some 0 := by
  unfold part0
  rw [List.getElem?_append_right (by simp), List.length_replicate, Nat.sub_self]
  have e : 400 - k = (400 - (k + 1)) + 1 := by omega
  rw [e]; rfl
theorem made_rep (z : Value) (n : Nat) : madeCells #[z] n = (List.replicate n z).toArray := by
  apply Array.ext
  · simp [madeCells]
  · intro i h1 h2
    simp [madeCells, Nat.mod_one]
theorem made400 : madeCells #[Value.int .u64 0] 400 = cdsC (part0 0) := by
  rw [made_rep]
  unfold cdsC part0
  rw [List.replicate_zero, List.nil_append, List.map_replicate]
  rfl
set_option maxRecDepth 10000 in
set_option maxHeartbeats 4000000 in
theorem mnew_w (w : World) : Calls Try.prog 19 #[.int .i64 400] w fun e w' => ∃ g a C, e = .returned (bptr g) ∧ MemC w' g a true (List.replicate 400 0) C ∧ Keep w.heap.size [] w w' ∧ w.heap.size ≤ g ∧ w.heap.size ≤ a := by
  obtain ⟨i0, hi0, hz0, hz1, hz2⟩ := info_parts infoU64
  go_enter Try.func19, Try.ntmps19
  go_upto_region 2 with (at_make
                         refine wpList_make_row w rfl _ _ 124 rfl 95 i0 _ Try.underlying124 hi0 hz0 hz1 rfl .i64 .i64 400 rfl rfl (by rw [hz2]; omega) (by omega) ?_)
  rw [made400]
  obtain ⟨W0, hW0⟩ : ∃ W, W = (w.alloc (.cells (cdsC (part0 0)) 95)).alloc (.cells #[.bool true, .slice (some ⟨w.heap.size, 0, none⟩) 400 400, .int .i64 0] TMem) := ⟨_, rfl⟩
  have k1 : Keep w.heap.size [] w W0 := by rw [hW0]; exact ((Keep.refl _ _ w).alloc (Nat.le_refl _) _).alloc (by simp) _
  have hA : Blk W0 w.heap.size 95 (cdsC (part0 0)) := by rw [hW0]; exact (Blk.new _ _ _).alloc _
  have hB : Blk W0 (w.heap.size + 1) TMem #[.bool true, .slice (some ⟨w.heap.size, 0, none⟩) 400 400, .int .i64 0] := by
    rw [hW0]
    have := Blk.new (w.alloc (.cells (cdsC (part0 0)) 95)) TMem #[.bool true, .slice (some ⟨w.heap.size, 0, none⟩) 400 400, .int .i64 0]
    simpa using this
  change Code.wp _ _ _ _ ((w.alloc (.cells (cdsC (part0 0)) 95)).alloc (.cells #[.bool true, .slice (some ⟨w.heap.size, 0, none⟩) 400 400, .int .i64 0] TMem))
  rw [← hW0]
  obtain ⟨a, ha⟩ : ∃ a, a = w.heap.size := ⟨_, rfl⟩
  obtain ⟨g, hg⟩ : ∃ g, g = a + 1 := ⟨_, rfl⟩
  rw [← ha] at hA hB ⊢
  rw [← hg] at hB ⊢
  have hga : g ≠ a := by omega
  have ha0 : w.heap.size ≤ a := by omega
  have hg0 : w.heap.size ≤ g := by omega
  have KA := Lib.hid hA
  have KB := Lib.hid hB
  have K0 := Lib.hid k1
  have c1 : W0.cell? ⟨g, 1, none⟩ = some (.slice (some ⟨a, 0, none⟩) 400 400) := hB.cell 1
  clear hW0 ha hg hA hB k1
  go_wp2_with fail
  clear c1
  go_loopw [16] (fun ii wr => ∃ k : Nat, k ≤ 400 ∧ ii = .int .i64 k ∧ Keep w.heap.size [] w wr ∧ Blk wr g TMem #[.bool true, .slice (some ⟨a, 0, none⟩) 400 400, .int .i64 0] ∧ Blk wr a 95 (cdsC (part0 k))) (fun ii _ => 400 - (intOf ii).toNat)
  case atStart => exact ⟨0, by omega, rfl, K0.out, KB.out, KA.out⟩
  case round =>
    obtain ⟨k, hk, rfl, hkw, hbm, hba⟩ := hrel
    have KW := Lib.hid hkw
    have BM := Lib.hid hbm
    have BA := Lib.hid hba
    clear hkw hbm hba
    by_cases hlt : k < 400
    · have hki : (k : Int) < 400 := by omega
      have Q0 : Hid (Keep wr.heap.size [] wr wr.drew) := Lib.hid (Keep.refl _ _ _).drew
      go_wp2_with fail
      refine region_anyZ 7 (S := (fun w' => w'.cell? ⟨g, 1, none⟩ = some (.slice (some ⟨a, 0, none⟩) 400 400))) (by kernel_rfl) (by exact (BM.out.keepS Q0.out (by simp)).cell 1) (fun hHeld => ?_)
      refine anyZ.take (i := 0) (oi := { dst := some 19, op := Op.move (Operand.tmp 3), type := 54, pos := _, after := #[], guard := none }) (v := _) rfl (by kernel_rfl) (by kernel_rfl) (by kernel_rfl) (by kernel_rfl) (by kernel_rfl) (fun _ _ _ h => h) (Or.inl ⟨by rfl, by (intro wS hSw; (try dsimp only at hSw); go_simp; try with_reducible rfl)⟩) (by exact hHeld) ?_
      (try simp only [Act.put, List.setIfInBounds_toArray, List.set_cons_zero, List.set_cons_succ])
      refine anyZ.take (i := 1) (oi := { dst := some 20, op := Op.nilCheck (Operand.tmp 19), type := 0, pos := _, after := #[{ on := 0, ground := Ground.data }], guard := none }) (v := _) rfl (by kernel_rfl) (by kernel_rfl) (by kernel_rfl) (by kernel_rfl) (by kernel_rfl) (fun _ _ _ h => h) (Or.inl ⟨by rfl, by (intro wS hSw; (try dsimp only at hSw); go_simp; try with_reducible rfl)⟩) (by exact hHeld) ?_
      (try simp only [Act.put, List.setIfInBounds_toArray, List.set_cons_zero, List.set_cons_succ])
      refine anyZ.take (i := 2) (oi := { dst := some 21, op := Op.fieldAddr 126 (Operand.tmp 20) 1, type := 0, pos := _, after := #[{ on := 1, ground := Ground.data }], guard := none }) (v := _) rfl (by kernel_rfl) (by kernel_rfl) (by kernel_rfl) (by kernel_rfl) (by kernel_rfl) (fun _ _ _ h => h) (Or.inl ⟨by rfl, by (intro wS hSw; (try dsimp only at hSw); go_simp; try with_reducible rfl)⟩) (by exact hHeld) ?_
      (try simp only [Act.put, List.setIfInBounds_toArray, List.set_cons_zero, List.set_cons_succ])
      refine anyZ.take (i := 3) (oi := { dst := some 22, op := Op.load 124 (Operand.tmp 21), type := 124, pos := _, after := #[{ on := 2, ground := Ground.data }], guard := none }) (v := _) rfl (by kernel_rfl) (by kernel_rfl) (by kernel_rfl) (by kernel_rfl) (by kernel_rfl) (fun _ _ _ h => h) (Or.inl ⟨by rfl, by (intro wS hSw; (try dsimp only at hSw); go_simp; try with_reducible rfl)⟩) (by exact hHeld) ?_
      (try simp only [Act.put, List.setIfInBounds_toArray, List.set_cons_zero, List.set_cons_succ])
      refine anyZ.take (i := 4) (oi := { dst := some 23, op := Op.move (Operand.tmp 4), type := 3, pos := _, after := #[], guard := none }) (v := _) rfl (by kernel_rfl) (by kernel_rfl) (by kernel_rfl) (by kernel_rfl) (by kernel_rfl) (fun _ _ _ h => h) (Or.inl ⟨by rfl, by (intro wS hSw; (try dsimp only at hSw); go_simp; try with_reducible rfl)⟩) (by exact hHeld) ?_
      (try simp only [Act.put, List.setIfInBounds_toArray, List.set_cons_zero, List.set_cons_succ])
      refine anyZ.ready (rs := [5]) (by kernel_rfl) (by simp) ?_
      refine (AllZ.cons (o := { dst := some 24, op := Op.call { callee := Callee.value (Operand.func 57), args := #[Operand.const (Value.int IntKind.u32 0)], argTypes := #[82] }, type := 95, pos := _, after := #[], guard := none }) rfl (fun K hK => ?_) AllZ.nil)
      go_simp
      refine (enc_z _).mono ?_
      rintro e W1 ⟨rfl, hk1⟩
      have Q1 := Lib.hid (Q0.out.chain0 (Nat.le_refl _) hk1)
      have A1 := BA.out.keepS Q1.out (by simp)
      have M1 := BM.out.keepS Q1.out (by simp)
      have x2 : W1.cell? ⟨a, k, none⟩ = some (.int .u64 0) := by rw [A1.cell]; exact cdsC_at (part0_at hlt)
      have z2 := A1.frozen k
      have HA1 := Lib.hid A1
      have HM1 := Lib.hid M1
      clear hk1 A1 M1
      refine hK.out _ _ (fun _ => (by exact HM1.out.cell 1)) (fun hHeld => ?_)
      clear hK K
      replace hHeld := hHeld (by kernel_rfl)
      (try simp only [Act.put, List.setIfInBounds_toArray, List.set_cons_zero, List.set_cons_succ])
      refine anyZ.take (i := 6) (oi := { dst := some 25, op := Op.indexAddr 124 (Operand.tmp 22) (Operand.tmp 23), type := 0, pos := _, after := #[{ on := 3, ground := Ground.data }, { on := 4, ground := Ground.data }, { on := 0, ground := Ground.phase }, { on := 1, ground := Ground.phase }, { on := 2, ground := Ground.phase }, { on := 3, ground := Ground.phase }, { on := 4, ground := Ground.phase }, { on := 5, ground := Ground.phase }], guard := none }) (v := _) rfl (by kernel_rfl) (by kernel_rfl) (by kernel_rfl) (by kernel_rfl) (by kernel_rfl) (fun _ _ _ h => h) (Or.inl ⟨by rfl, by (intro wS hSw; (try dsimp only at hSw); go_simp; try with_reducible rfl)⟩) (by exact hHeld) ?_
      (try simp only [Act.put, List.setIfInBounds_toArray, List.set_cons_zero, List.set_cons_succ])
      refine anyZ.ready (rs := [7]) (by kernel_rfl) (by simp) ?_
      refine (AllZ.cons (o := { dst := none, op := Op.store 95 (Operand.tmp 25) (Operand.tmp 24), type := 0, pos := _, after := #[{ on := 6, ground := Ground.data }, { on := 5, ground := Ground.data }, { on := 5, ground := Ground.chain }, { on := 0, ground := Ground.phase }, { on := 1, ground := Ground.phase }, { on := 2, ground := Ground.phase }, { on := 3, ground := Ground.phase }, { on := 4, ground := Ground.phase }, { on := 5, ground := Ground.phase }], guard := none }) rfl (fun K hK => ?_) AllZ.nil)
      go_simp
      refine hK.out _ _ (fun h => absurd h (by decide)) (fun hHeld => ?_)
      clear hK K
      (try simp only [Act.put, List.setIfInBounds_toArray, List.set_cons_zero, List.set_cons_succ])
      refine anyZ.done (by kernel_rfl) ?_ _
      clear hHeld
      clear x2 z2
      go_wp2_with fail
      go_roundw
      case rel =>
        refine ⟨k + 1, by omega, by go_num, (KW.out.chain0 (Nat.le_refl _) Q1.out).setN ha0, HM1.out.far (p := ⟨a, k, none⟩) hga _, ?_⟩
        rw [← part0_set hlt, ← cdsC_set]
        exact HA1.out.set_ k _
      case measure => simp [intOf] <;> omega
    · obtain rfl : k = 400 := by omega
      go_wp2_with fail
      go_ret
      refine ⟨g, a, part0 400, rfl, ⟨⟨0, by rw [List.length_replicate]; exact BM.out⟩, BA.out, by rw [part0_len (by omega), List.length_replicate], fun i d hi => ?_, hga, by rw [List.length_replicate]; omega⟩, KW.out, hg0, ha0⟩
      have hil : i < 400 := by have := (List.getElem?_eq_some_iff.1 hi).1; rwa [List.length_replicate] at this
      have hd : d = 0 := by rw [List.getElem?_replicate, if_pos hil] at hi; exact (Option.some.inj hi).symm
      subst hd
      refine ⟨encW 0, ?_, by decide, .inl rfl⟩
      unfold part0
      rw [Nat.sub_self, List.replicate_zero, List.append_nil, List.getElem?_replicate, if_pos hil]
end Go.Proofs.Ytfkbcflgbjncdaa
