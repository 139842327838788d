/- The program's Encode, each kind. -/
import Derived.Test.YtijionfhnoffcaaPEncP
import Derived.Deep.DeepCutAuto
namespace Go.Proofs.Ytijionfhnoffcaa
set_option linter.unusedVariables false
set_option linter.unusedSimpArgs false
open Go.RowKit
set_option maxRecDepth 100000 in
set_option maxHeartbeats 16000000 in
theorem penc_0 (w : World) (p : Pd) (l : Lc) (hp : PIn w p l) (hk : 5 < p.kind) (hv : validP p = true) : Calls Try.prog 10 #[.agg (pcs p l)] w (EncPost w (encP p) 0) := by
  have HKK := Lib.hid hk
  clear hk
  have k1 : Keep w.heap.size [] w (w.alloc (.cells (pcs p l) TP)) := (Keep.refl _ _ w).alloc (Nat.le_refl _) _
  have hb := Blk.new w TP (pcs p l)
  have P0 := Lib.hid (hp.keep0 k1)
  have DO := Lib.hid (hp.vd.old (by omega))
  have HVL := Lib.hid hv
  have HEAD := Lib.hid (valid_head hv)
  obtain ⟨a0, a1, a2⟩ := HEAD.out
  clear hp hv
  obtain ⟨W0, hW0⟩ : ∃ W0, W0 = w.alloc (.cells (pcs p l) TP) := ⟨_, rfl⟩
  have B0 : Hid (Blk W0 w.heap.size TP (pcs p l)) := Lib.hid (by rw [hW0]; exact hb)
  rw [← hW0] at P0 k1
  have K0 := Lib.hid k1
  clear hb k1
  go_enter Try.func10, Try.ntmps10
  go_upto_region 1 with fail
  change Code.wp _ _ _ _ (w.alloc (.cells (pcs p l) TP))
  rw [← hW0]
  clear hW0
  have c0 : W0.cell? ⟨w.heap.size, 0, none⟩ = some (.int .i64 p.kind) := B0.out.cell 0
  have c1 : W0.cell? ⟨w.heap.size, 1, none⟩ = some (.int .i64 p.src) := B0.out.cell 1
  have c2 : W0.cell? ⟨w.heap.size, 2, none⟩ = some (.int .i64 p.num) := B0.out.cell 2
  have c3 : W0.cell? ⟨w.heap.size, 3, none⟩ = some (.int .i64 p.cls) := B0.out.cell 3
  have c4 : W0.cell? ⟨w.heap.size, 4, none⟩ = some (.string (strOfNums p.name)) := B0.out.cell 4
  have c5 : W0.cell? ⟨w.heap.size, 5, none⟩ = some (.int .i64 p.size) := B0.out.cell 5
  have c6 : W0.cell? ⟨w.heap.size, 6, none⟩ = some (.int .i64 p.off) := B0.out.cell 6
  have c7 : W0.cell? ⟨w.heap.size, 7, none⟩ = some (.slice l.D l.dn l.dc) := B0.out.cell 7
  have c8 : W0.cell? ⟨w.heap.size, 8, none⟩ = some (.int .u32 p.sum) := B0.out.cell 8
  have c9 : W0.cell? ⟨w.heap.size, 9, none⟩ = some (.int .i64 p.code) := B0.out.cell 9
  have c10 : W0.cell? ⟨w.heap.size, 10, none⟩ = some (.slice l.G l.gn l.gc) := B0.out.cell 10
  go_wp2_with fail
  refine (pvalid_b _ p l true P0.out HVL.out).mono ?_
  rintro e w1 ⟨rfl, hk1⟩
  have K1 := Lib.hid hk1
  clear hk1 c0 c1 c2 c3 c4 c5 c6 c7 c8 c9 c10
  go_wp2_with fail
  refine (wnew_any _).mono ?_
  rintro e w2 ⟨g, rfl, hg, hw, hk⟩
  have W2 : Hid (WS w w2 g none [] TP (pcs p l)) := ⟨(K0.out.chain0 (Nat.le_refl _) K1.out).chain0 (Nat.le_refl _) hk, hw, Nat.lt_of_lt_of_le (Nat.lt_of_lt_of_le B0.out.lt K1.out.size) hg, by simp [blks], (B0.out.keepS K1.out (by simp)).keepS hk (by simp)⟩
  have P2 := Lib.hid ((P0.out.keep0 K1.out).keep0 hk)
  clear hg hw hk
  have e0 := u64_in p.kind (by omega) (by omega)
  have e1 := u64_in p.src (by omega) (by omega)
  have e2 := u64_in p.num (by omega) (by omega)
  have c0 : w2.cell? ⟨w.heap.size, 0, none⟩ = some (.int .i64 p.kind) := W2.out.box.cell 0
  have c1 : w2.cell? ⟨w.heap.size, 1, none⟩ = some (.int .i64 p.src) := W2.out.box.cell 1
  have c2 : w2.cell? ⟨w.heap.size, 2, none⟩ = some (.int .i64 p.num) := W2.out.box.cell 2
  go_wp2_with fail
  go_region_held3 (fun w' => w'.cell? ⟨w.heap.size, 0, none⟩ = some (.int .i64 p.kind) ∧ w'.cell? ⟨w.heap.size, 1, none⟩ = some (.int .i64 p.src) ∧ w'.cell? ⟨w.heap.size, 2, none⟩ = some (.int .i64 p.num))
      (first | exact ⟨W2.out.box.cell 0, W2.out.box.cell 1, W2.out.box.cell 2⟩ | exact ⟨W3.out.box.cell 0, W3.out.box.cell 1, W3.out.box.cell 2⟩ | exact ⟨W4.out.box.cell 0, W4.out.box.cell 1, W4.out.box.cell 2⟩ | exact ⟨W5.out.box.cell 0, W5.out.box.cell 1, W5.out.box.cell 2⟩)
      (first
        | (go_at_call_of 20 (Value.int IntKind.u64 p.num)
           refine (wu_p W4.out p.num 2 2 rfl (by omega) (by omega) (by omega) (by omega) (by (try simp only [List.length_append, List.length_nil, be_length]); omega)).mono ?_
           rintro e w5 ⟨rfl, A5, hw, hk, hb⟩
           have W5 := Lib.hid hw
           clear hw hk hb)
        | (go_at_call_of 20 (Value.int IntKind.u64 p.src)
           refine (wu_p W3.out p.src 1 1 rfl (by omega) (by omega) (by omega) (by omega) (by (try simp only [List.length_append, List.length_nil, be_length]); omega)).mono ?_
           rintro e w4 ⟨rfl, A4, hw, hk, hb⟩
           have W4 := Lib.hid hw
           clear hw hk hb)
        | (go_at_call_of 20 (Value.int IntKind.u64 p.kind)
           refine (wu_p W2.out.drew p.kind 1 1 rfl (by omega) (by omega) (by omega) (by omega) (by (try simp only [List.length_append, List.length_nil, be_length]); omega)).mono ?_
           rintro e w3 ⟨rfl, A3, hw, hk, hb⟩
           have W3 := Lib.hid hw
           clear hw hk hb))
  have H5 : ([] ++ be p.kind 1 ++ be p.src 1 ++ be p.num 2) = headE p := by simp [headE]
  rw [H5] at W5
  have hl5 : (headE p).length = 4 := by simp [headE, be_length]
  clear H5 c0 c1 c2 e0 e1 e2 W3 W4
  rename_i hHd
  clear hHd
  have c0 : w5.cell? ⟨w.heap.size, 0, none⟩ = some (.int .i64 p.kind) := W5.out.box.cell 0
  have n1 : ¬ p.kind = 1 := by have := HKK.out; omega
  have n2 : ¬ p.kind = 2 := by have := HKK.out; omega
  have n3 : ¬ p.kind = 3 := by have := HKK.out; omega
  have n4 : ¬ p.kind = 4 := by have := HKK.out; omega
  have n5 : ¬ p.kind = 5 := by have := HKK.out; omega
  go_wp2_with fail
  refine (wbytes_any _ g _ _ W5.out.wr (by omega)).mono ?_
  rintro e w9 ⟨A9, n9, c9, rfl, hn, hs, hk, hb⟩
  have Z : Hid (AV w w9 A9 n9 c9 (_)) := ⟨hs, W5.out.keep.chain0 (Nat.le_refl _) hk, fun x hx => Nat.le_trans W5.out.keep.size (hb x hx)⟩
  clear hn hs hk hb
  go_wp2_with fail
  go_ret2
  refine ⟨_, _, _, rfl, ?_⟩
  have z := Z.out
  unfold encP bodyE
  rw [if_neg n1, if_neg n2, if_neg n3, if_neg n4, if_neg n5, List.append_nil]
  exact (by simpa only [List.append_assoc] using z)
set_option maxRecDepth 100000 in
set_option maxHeartbeats 16000000 in
theorem penc_1 (w : World) (p : Pd) (l : Lc) (hp : PIn w p l) (hkk : p.kind = 1) (hv : validP p = true) : Calls Try.prog 10 #[.agg (pcs p l)] w (EncPost w (encP p) 0) := by
  have BD := Lib.hid (body1 hv hkk)
  obtain ⟨bc, bs, bn⟩ := BD.out
  have bnl : p.name.length ≤ 64 := by unfold nameB at bn; simp only [Bool.and_eq_true, inB_iff] at bn; omega
  have bnp : 1 ≤ p.name.length := by unfold nameB at bn; simp only [Bool.and_eq_true, inB_iff] at bn; omega
  clear bn
  have HKK := Lib.hid hkk
  clear hkk
  have k1 : Keep w.heap.size [] w (w.alloc (.cells (pcs p l) TP)) := (Keep.refl _ _ w).alloc (Nat.le_refl _) _
  have hb := Blk.new w TP (pcs p l)
  have P0 := Lib.hid (hp.keep0 k1)
  have DO := Lib.hid (hp.vd.old (by omega))
  have HVL := Lib.hid hv
  have HEAD := Lib.hid (valid_head hv)
  obtain ⟨a0, a1, a2⟩ := HEAD.out
  clear hp hv
  obtain ⟨W0, hW0⟩ : ∃ W0, W0 = w.alloc (.cells (pcs p l) TP) := ⟨_, rfl⟩
  have B0 : Hid (Blk W0 w.heap.size TP (pcs p l)) := Lib.hid (by rw [hW0]; exact hb)
  rw [← hW0] at P0 k1
  have K0 := Lib.hid k1
  clear hb k1
  go_enter Try.func10, Try.ntmps10
  go_upto_region 1 with fail
  change Code.wp _ _ _ _ (w.alloc (.cells (pcs p l) TP))
  rw [← hW0]
  clear hW0
  have c0 : W0.cell? ⟨w.heap.size, 0, none⟩ = some (.int .i64 p.kind) := B0.out.cell 0
  have c1 : W0.cell? ⟨w.heap.size, 1, none⟩ = some (.int .i64 p.src) := B0.out.cell 1
  have c2 : W0.cell? ⟨w.heap.size, 2, none⟩ = some (.int .i64 p.num) := B0.out.cell 2
  have c3 : W0.cell? ⟨w.heap.size, 3, none⟩ = some (.int .i64 p.cls) := B0.out.cell 3
  have c4 : W0.cell? ⟨w.heap.size, 4, none⟩ = some (.string (strOfNums p.name)) := B0.out.cell 4
  have c5 : W0.cell? ⟨w.heap.size, 5, none⟩ = some (.int .i64 p.size) := B0.out.cell 5
  have c6 : W0.cell? ⟨w.heap.size, 6, none⟩ = some (.int .i64 p.off) := B0.out.cell 6
  have c7 : W0.cell? ⟨w.heap.size, 7, none⟩ = some (.slice l.D l.dn l.dc) := B0.out.cell 7
  have c8 : W0.cell? ⟨w.heap.size, 8, none⟩ = some (.int .u32 p.sum) := B0.out.cell 8
  have c9 : W0.cell? ⟨w.heap.size, 9, none⟩ = some (.int .i64 p.code) := B0.out.cell 9
  have c10 : W0.cell? ⟨w.heap.size, 10, none⟩ = some (.slice l.G l.gn l.gc) := B0.out.cell 10
  go_wp2_with fail
  refine (pvalid_b _ p l true P0.out HVL.out).mono ?_
  rintro e w1 ⟨rfl, hk1⟩
  have K1 := Lib.hid hk1
  clear hk1 c0 c1 c2 c3 c4 c5 c6 c7 c8 c9 c10
  go_wp2_with fail
  refine (wnew_any _).mono ?_
  rintro e w2 ⟨g, rfl, hg, hw, hk⟩
  have W2 : Hid (WS w w2 g none [] TP (pcs p l)) := ⟨(K0.out.chain0 (Nat.le_refl _) K1.out).chain0 (Nat.le_refl _) hk, hw, Nat.lt_of_lt_of_le (Nat.lt_of_lt_of_le B0.out.lt K1.out.size) hg, by simp [blks], (B0.out.keepS K1.out (by simp)).keepS hk (by simp)⟩
  have P2 := Lib.hid ((P0.out.keep0 K1.out).keep0 hk)
  clear hg hw hk
  have e0 := u64_in p.kind (by omega) (by omega)
  have e1 := u64_in p.src (by omega) (by omega)
  have e2 := u64_in p.num (by omega) (by omega)
  have c0 : w2.cell? ⟨w.heap.size, 0, none⟩ = some (.int .i64 p.kind) := W2.out.box.cell 0
  have c1 : w2.cell? ⟨w.heap.size, 1, none⟩ = some (.int .i64 p.src) := W2.out.box.cell 1
  have c2 : w2.cell? ⟨w.heap.size, 2, none⟩ = some (.int .i64 p.num) := W2.out.box.cell 2
  go_wp2_with fail
  go_region_held3 (fun w' => w'.cell? ⟨w.heap.size, 0, none⟩ = some (.int .i64 p.kind) ∧ w'.cell? ⟨w.heap.size, 1, none⟩ = some (.int .i64 p.src) ∧ w'.cell? ⟨w.heap.size, 2, none⟩ = some (.int .i64 p.num))
      (first | exact ⟨W2.out.box.cell 0, W2.out.box.cell 1, W2.out.box.cell 2⟩ | exact ⟨W3.out.box.cell 0, W3.out.box.cell 1, W3.out.box.cell 2⟩ | exact ⟨W4.out.box.cell 0, W4.out.box.cell 1, W4.out.box.cell 2⟩ | exact ⟨W5.out.box.cell 0, W5.out.box.cell 1, W5.out.box.cell 2⟩)
      (first
        | (go_at_call_of 20 (Value.int IntKind.u64 p.num)
           refine (wu_p W4.out p.num 2 2 rfl (by omega) (by omega) (by omega) (by omega) (by (try simp only [List.length_append, List.length_nil, be_length]); omega)).mono ?_
           rintro e w5 ⟨rfl, A5, hw, hk, hb⟩
           have W5 := Lib.hid hw
           clear hw hk hb)
        | (go_at_call_of 20 (Value.int IntKind.u64 p.src)
           refine (wu_p W3.out p.src 1 1 rfl (by omega) (by omega) (by omega) (by omega) (by (try simp only [List.length_append, List.length_nil, be_length]); omega)).mono ?_
           rintro e w4 ⟨rfl, A4, hw, hk, hb⟩
           have W4 := Lib.hid hw
           clear hw hk hb)
        | (go_at_call_of 20 (Value.int IntKind.u64 p.kind)
           refine (wu_p W2.out.drew p.kind 1 1 rfl (by omega) (by omega) (by omega) (by omega) (by (try simp only [List.length_append, List.length_nil, be_length]); omega)).mono ?_
           rintro e w3 ⟨rfl, A3, hw, hk, hb⟩
           have W3 := Lib.hid hw
           clear hw hk hb))
  have H5 : ([] ++ be p.kind 1 ++ be p.src 1 ++ be p.num 2) = headE p := by simp [headE]
  rw [H5] at W5
  have hl5 : (headE p).length = 4 := by simp [headE, be_length]
  clear H5 c0 c1 c2 e0 e1 e2 W3 W4
  rename_i hHd
  clear hHd
  have c0 : w5.cell? ⟨w.heap.size, 0, none⟩ = some (.int .i64 1) := by rw [← HKK.out]; exact W5.out.box.cell 0
  have hv6 := vI_len (n := p.size) (by omega) (by omega)
  have e3 := u64_in p.cls (by omega) (by omega)
  have hb7 : (vB p.name).length ≤ 80 := by have := vI_len (n := (p.name.length : Int)) (by omega) (by omega); unfold vB; simp only [List.length_append]; omega
  have c3 : w5.cell? ⟨w.heap.size, 3, none⟩ = some (.int .i64 p.cls) := W5.out.box.cell 3
  have c5 : w5.cell? ⟨w.heap.size, 5, none⟩ = some (.int .i64 p.size) := W5.out.box.cell 5
  have c4 : w5.cell? ⟨w.heap.size, 4, none⟩ = some (.string (strOfNums p.name)) := W5.out.box.cell 4
  go_wp2_with fail
  refine wp_region_held_drew (S := (fun w' => w'.cell? ⟨w.heap.size, 3, none⟩ = some (.int .i64 p.cls) ∧ w'.cell? ⟨w.heap.size, 5, none⟩ = some (.int .i64 p.size) ∧ w'.cell? ⟨w.heap.size, 4, none⟩ = some (.string (strOfNums p.name)))) (by kernel_rfl) (by exact ⟨W5.out.drew.box.cell 3, W5.out.drew.box.cell 5, W5.out.drew.box.cell 4⟩) (fun hHeld => ?_)
  refine wpAnyH_take (i := 0) (oi := { dst := some 30, op := Op.move (Operand.tmp 4), type := 42, pos := _, after := #[], guard := none }) (v := _) rfl (by kernel_rfl) (by kernel_rfl) (by kernel_rfl) (fun _ _ _ h => h) (Or.inl ⟨by rfl, by (intro wS hSw; (try dsimp only at hSw); go_simp; try with_reducible rfl)⟩) (by assumption) ?_
  (try simp only [Act.put, List.setIfInBounds_toArray, List.set_cons_zero, List.set_cons_succ])
  refine wpAnyH_take (i := 1) (oi := { dst := some 31, op := Op.fieldAddr 29 (Operand.tmp 1) 2, type := 0, pos := _, after := #[], guard := none }) (v := _) rfl (by kernel_rfl) (by kernel_rfl) (by kernel_rfl) (fun _ _ _ h => h) (Or.inl ⟨by rfl, by (intro wS hSw; (try dsimp only at hSw); go_simp; try with_reducible rfl)⟩) (by assumption) ?_
  (try simp only [Act.put, List.setIfInBounds_toArray, List.set_cons_zero, List.set_cons_succ])
  refine wpAnyH_take (i := 2) (oi := { dst := some 32, op := Op.load 3 (Operand.tmp 31), type := 3, pos := _, after := #[{ on := 1, ground := Ground.data }], guard := none }) (v := _) rfl (by kernel_rfl) (by kernel_rfl) (by kernel_rfl) (fun _ _ _ h => h) (Or.inl ⟨by rfl, by (intro wS hSw; (try dsimp only at hSw); go_simp; try with_reducible rfl)⟩) (by assumption) ?_
  (try simp only [Act.put, List.setIfInBounds_toArray, List.set_cons_zero, List.set_cons_succ])
  refine wpAnyH_take (i := 3) (oi := { dst := some 33, op := Op.convert 3 45 (Operand.tmp 32), type := 45, pos := _, after := #[{ on := 2, ground := Ground.data }], guard := none }) (v := _) rfl (by kernel_rfl) (by kernel_rfl) (by kernel_rfl) (fun _ _ _ h => h) (Or.inl ⟨by rfl, by (intro wS hSw; (try dsimp only at hSw); go_simp; try with_reducible rfl)⟩) (by assumption) ?_
  (try simp only [Act.put, List.setIfInBounds_toArray, List.set_cons_zero, List.set_cons_succ])
  refine wpAnyH_take (i := 5) (oi := { dst := some 35, op := Op.fieldAddr 29 (Operand.tmp 1) 4, type := 0, pos := _, after := #[], guard := none }) (v := _) rfl (by kernel_rfl) (by kernel_rfl) (by kernel_rfl) (fun _ _ _ h => h) (Or.inl ⟨by rfl, by (intro wS hSw; (try dsimp only at hSw); go_simp; try with_reducible rfl)⟩) (by assumption) ?_
  (try simp only [Act.put, List.setIfInBounds_toArray, List.set_cons_zero, List.set_cons_succ])
  refine wpAnyH_take (i := 6) (oi := { dst := some 36, op := Op.load 3 (Operand.tmp 35), type := 3, pos := _, after := #[{ on := 5, ground := Ground.data }], guard := none }) (v := _) rfl (by kernel_rfl) (by kernel_rfl) (by kernel_rfl) (fun _ _ _ h => h) (Or.inl ⟨by rfl, by (intro wS hSw; (try dsimp only at hSw); go_simp; try with_reducible rfl)⟩) (by assumption) ?_
  (try simp only [Act.put, List.setIfInBounds_toArray, List.set_cons_zero, List.set_cons_succ])
  refine wpAnyH_take (i := 8) (oi := { dst := some 38, op := Op.fieldAddr 29 (Operand.tmp 1) 3, type := 0, pos := _, after := #[], guard := none }) (v := _) rfl (by kernel_rfl) (by kernel_rfl) (by kernel_rfl) (fun _ _ _ h => h) (Or.inl ⟨by rfl, by (intro wS hSw; (try dsimp only at hSw); go_simp; try with_reducible rfl)⟩) (by assumption) ?_
  (try simp only [Act.put, List.setIfInBounds_toArray, List.set_cons_zero, List.set_cons_succ])
  refine wpAnyH_take (i := 9) (oi := { dst := some 39, op := Op.load 9 (Operand.tmp 38), type := 9, pos := _, after := #[{ on := 8, ground := Ground.data }], guard := none }) (v := _) rfl (by kernel_rfl) (by kernel_rfl) (by kernel_rfl) (fun _ _ _ h => h) (Or.inl ⟨by rfl, by (intro wS hSw; (try dsimp only at hSw); go_simp; try with_reducible rfl)⟩) (by assumption) ?_
  (try simp only [Act.put, List.setIfInBounds_toArray, List.set_cons_zero, List.set_cons_succ])
  refine wpAnyH_ready (rs := [4, 10]) (by kernel_rfl) (by simp) ?_
  refine (AllReadyH.cons (o := { dst := some 34, op := Op.call { callee := Callee.value (Operand.func 20), args := #[Operand.tmp 30, Operand.tmp 33, Operand.const (Value.int IntKind.i64 1)], argTypes := #[42, 45, 3] }, type := 42, pos := _, after := #[{ on := 0, ground := Ground.data }, { on := 3, ground := Ground.data }], guard := none }) rfl (fun K hK => ?_) (AllReadyH.cons (o := { dst := some 40, op := Op.convert 9 24 (Operand.tmp 39), type := 24, pos := _, after := #[{ on := 9, ground := Ground.data }], guard := none }) rfl (fun K hK => ?_) AllReadyH.nil))
  · go_simp
    refine (wu_p W5.out.drew p.cls 1 1 rfl (by omega) (by omega) (by omega) (by omega) (by (try simp only [List.length_append, List.length_nil, be_length]); omega)).mono ?_
    rintro e w6 ⟨rfl, A6, hw, hk, hb⟩
    have W6 := Lib.hid hw
    clear hw hk hb
    refine hK.out _ _ (by exact ⟨W6.out.box.cell 3, W6.out.box.cell 5, W6.out.box.cell 4⟩) (fun hHeld => ?_)
    clear hK K
    (try simp only [Act.put, List.setIfInBounds_toArray, List.set_cons_zero, List.set_cons_succ])
    refine wpAnyH_ready (rs := [7, 10]) (by kernel_rfl) (by simp) ?_
    refine (AllReadyH.cons (o := { dst := some 37, op := Op.call { callee := Callee.value (Operand.func 21), args := #[Operand.tmp 34, Operand.tmp 36], argTypes := #[42, 3] }, type := 42, pos := _, after := #[{ on := 4, ground := Ground.data }, { on := 6, ground := Ground.data }, { on := 4, ground := Ground.chain }], guard := none }) rfl (fun K hK => ?_) (AllReadyH.cons (o := { dst := some 40, op := Op.convert 9 24 (Operand.tmp 39), type := 24, pos := _, after := #[{ on := 9, ground := Ground.data }], guard := none }) rfl (fun K hK => ?_) AllReadyH.nil))
    · go_simp
      refine (wi_p W6.out p.size (by omega) (by omega) (by (try simp only [List.length_append, List.length_nil, be_length]); omega)).mono ?_
      rintro e w7 ⟨rfl, A7, hw, hk, hb⟩
      have W7 := Lib.hid hw
      clear hw hk hb
      refine hK.out _ _ (by exact ⟨W7.out.box.cell 3, W7.out.box.cell 5, W7.out.box.cell 4⟩) (fun hHeld => ?_)
      clear hK K
      (try simp only [Act.put, List.setIfInBounds_toArray, List.set_cons_zero, List.set_cons_succ])
      refine wpAnyH_ready (rs := [10]) (by kernel_rfl) (by simp) ?_
      refine (AllReadyH.cons (o := { dst := some 40, op := Op.convert 9 24 (Operand.tmp 39), type := 24, pos := _, after := #[{ on := 9, ground := Ground.data }], guard := none }) rfl (fun K hK => ?_) AllReadyH.nil)
      go_simp
      obtain ⟨w8, cv, hcv, hvw, hkv⟩ := conv_bytes _ p.name P2.out.on
      rw [hcv]
      have W8 := Lib.hid ((W7.out).other hkv)
      have V8 := Lib.hid hvw
      have NX8 := Lib.hid ((W7.out).new (Nat.le_refl _))
      have LX8 := Lib.hid (hvw.old (by omega) (by omega) _ (by exact List.mem_singleton.2 rfl))
      clear hcv hvw hkv
      refine hK.out _ _ (by exact ⟨W8.out.box.cell 3, W8.out.box.cell 5, W8.out.box.cell 4⟩) (fun hHeld => ?_)
      clear hK K
      (try simp only [Act.put, List.setIfInBounds_toArray, List.set_cons_zero, List.set_cons_succ])
      refine wpAnyH_ready (rs := [11]) (by kernel_rfl) (by simp) ?_
      refine (AllReadyH.cons (o := { dst := some 41, op := Op.call { callee := Callee.value (Operand.func 22), args := #[Operand.tmp 37, Operand.tmp 40], argTypes := #[42, 24] }, type := 42, pos := _, after := #[{ on := 7, ground := Ground.data }, { on := 10, ground := Ground.data }, { on := 7, ground := Ground.chain }], guard := none }) rfl (fun K hK => ?_) AllReadyH.nil)
      go_simp
      refine (wb_p W8.out _ _ _ p.name (by omega) (by (try simp only [List.length_append, List.length_nil, be_length]); omega) V8.out (fun _ x hx => by rcases List.mem_singleton.1 hx with rfl; exact NX8.out)).mono ?_
      rintro e w9 ⟨rfl, A9, hw, hk, hb⟩
      have W9 := Lib.hid hw
      clear hw hk hb
      refine hK.out _ _ (by exact ⟨W9.out.box.cell 3, W9.out.box.cell 5, W9.out.box.cell 4⟩) (fun hHeld => ?_)
      clear hK K
      (try simp only [Act.put, List.setIfInBounds_toArray, List.set_cons_zero, List.set_cons_succ])
      refine wpAnyH_done (by kernel_rfl) ?_ _
      go_wp2_with fail
      refine (wbytes_any _ g _ _ W9.out.wr (by simp only [List.length_append, be_length]; omega)).mono ?_
      rintro e w20 ⟨A20, n20, c20, rfl, hn, hs, hk, hb⟩
      have Z : Hid (AV w w20 A20 n20 c20 (_)) := ⟨hs, W9.out.keep.chain0 (Nat.le_refl _) hk, fun x hx => Nat.le_trans W9.out.keep.size (hb x hx)⟩
      clear hn hs hk hb
      go_wp2_with fail
      go_ret2
      refine ⟨_, _, _, rfl, ?_⟩
      have z := Z.out
      unfold encP bodyE
      have hkk := HKK.out
      simp only [hkk, if_true]
      exact (by simpa only [List.append_assoc] using z)
    · go_simp
      obtain ⟨w7, cv, hcv, hvw, hkv⟩ := conv_bytes _ p.name P2.out.on
      rw [hcv]
      have W7 := Lib.hid ((W6.out).other hkv)
      have V7 := Lib.hid hvw
      have NX7 := Lib.hid ((W6.out).new (Nat.le_refl _))
      have LX7 := Lib.hid (hvw.old (by omega) (by omega) _ (by exact List.mem_singleton.2 rfl))
      clear hcv hvw hkv
      refine hK.out _ _ (by exact ⟨W7.out.box.cell 3, W7.out.box.cell 5, W7.out.box.cell 4⟩) (fun hHeld => ?_)
      clear hK K
      (try simp only [Act.put, List.setIfInBounds_toArray, List.set_cons_zero, List.set_cons_succ])
      refine wpAnyH_ready (rs := [7]) (by kernel_rfl) (by simp) ?_
      refine (AllReadyH.cons (o := { dst := some 37, op := Op.call { callee := Callee.value (Operand.func 21), args := #[Operand.tmp 34, Operand.tmp 36], argTypes := #[42, 3] }, type := 42, pos := _, after := #[{ on := 4, ground := Ground.data }, { on := 6, ground := Ground.data }, { on := 4, ground := Ground.chain }], guard := none }) rfl (fun K hK => ?_) AllReadyH.nil)
      go_simp
      refine (wi_p W7.out p.size (by omega) (by omega) (by (try simp only [List.length_append, List.length_nil, be_length]); omega)).mono ?_
      rintro e w8 ⟨rfl, A8, hw, hk, hb⟩
      have W8 := Lib.hid hw
      have V8 := Lib.hid (V7.out.keepS hk (by intro x hx; rcases List.mem_singleton.1 hx with rfl; exact NX7.out))
      have NX8 := Lib.hid (apart_next NX7.out LX7.out hb)
      have LX8 := Lib.hid (Nat.lt_of_lt_of_le LX7.out hk.size)
      clear hw hk hb
      refine hK.out _ _ (by exact ⟨W8.out.box.cell 3, W8.out.box.cell 5, W8.out.box.cell 4⟩) (fun hHeld => ?_)
      clear hK K
      (try simp only [Act.put, List.setIfInBounds_toArray, List.set_cons_zero, List.set_cons_succ])
      refine wpAnyH_ready (rs := [11]) (by kernel_rfl) (by simp) ?_
      refine (AllReadyH.cons (o := { dst := some 41, op := Op.call { callee := Callee.value (Operand.func 22), args := #[Operand.tmp 37, Operand.tmp 40], argTypes := #[42, 24] }, type := 42, pos := _, after := #[{ on := 7, ground := Ground.data }, { on := 10, ground := Ground.data }, { on := 7, ground := Ground.chain }], guard := none }) rfl (fun K hK => ?_) AllReadyH.nil)
      go_simp
      refine (wb_p W8.out _ _ _ p.name (by omega) (by (try simp only [List.length_append, List.length_nil, be_length]); omega) V8.out (fun _ x hx => by rcases List.mem_singleton.1 hx with rfl; exact NX8.out)).mono ?_
      rintro e w9 ⟨rfl, A9, hw, hk, hb⟩
      have W9 := Lib.hid hw
      clear hw hk hb
      refine hK.out _ _ (by exact ⟨W9.out.box.cell 3, W9.out.box.cell 5, W9.out.box.cell 4⟩) (fun hHeld => ?_)
      clear hK K
      (try simp only [Act.put, List.setIfInBounds_toArray, List.set_cons_zero, List.set_cons_succ])
      refine wpAnyH_done (by kernel_rfl) ?_ _
      go_wp2_with fail
      refine (wbytes_any _ g _ _ W9.out.wr (by simp only [List.length_append, be_length]; omega)).mono ?_
      rintro e w20 ⟨A20, n20, c20, rfl, hn, hs, hk, hb⟩
      have Z : Hid (AV w w20 A20 n20 c20 (_)) := ⟨hs, W9.out.keep.chain0 (Nat.le_refl _) hk, fun x hx => Nat.le_trans W9.out.keep.size (hb x hx)⟩
      clear hn hs hk hb
      go_wp2_with fail
      go_ret2
      refine ⟨_, _, _, rfl, ?_⟩
      have z := Z.out
      unfold encP bodyE
      have hkk := HKK.out
      simp only [hkk, if_true]
      exact (by simpa only [List.append_assoc] using z)
  · go_simp
    obtain ⟨w6, cv, hcv, hvw, hkv⟩ := conv_bytes _ p.name P2.out.on
    rw [hcv]
    have W6 := Lib.hid ((W5.out.drew).other hkv)
    have V6 := Lib.hid hvw
    have NX6 := Lib.hid ((W5.out.drew).new (Nat.le_refl _))
    have LX6 := Lib.hid (hvw.old (by omega) (by omega) _ (by exact List.mem_singleton.2 rfl))
    clear hcv hvw hkv
    refine hK.out _ _ (by exact ⟨W6.out.box.cell 3, W6.out.box.cell 5, W6.out.box.cell 4⟩) (fun hHeld => ?_)
    clear hK K
    (try simp only [Act.put, List.setIfInBounds_toArray, List.set_cons_zero, List.set_cons_succ])
    refine wpAnyH_ready (rs := [4]) (by kernel_rfl) (by simp) ?_
    refine (AllReadyH.cons (o := { dst := some 34, op := Op.call { callee := Callee.value (Operand.func 20), args := #[Operand.tmp 30, Operand.tmp 33, Operand.const (Value.int IntKind.i64 1)], argTypes := #[42, 45, 3] }, type := 42, pos := _, after := #[{ on := 0, ground := Ground.data }, { on := 3, ground := Ground.data }], guard := none }) rfl (fun K hK => ?_) AllReadyH.nil)
    go_simp
    refine (wu_p W6.out p.cls 1 1 rfl (by omega) (by omega) (by omega) (by omega) (by (try simp only [List.length_append, List.length_nil, be_length]); omega)).mono ?_
    rintro e w7 ⟨rfl, A7, hw, hk, hb⟩
    have W7 := Lib.hid hw
    have V7 := Lib.hid (V6.out.keepS hk (by intro x hx; rcases List.mem_singleton.1 hx with rfl; exact NX6.out))
    have NX7 := Lib.hid (apart_next NX6.out LX6.out hb)
    have LX7 := Lib.hid (Nat.lt_of_lt_of_le LX6.out hk.size)
    clear hw hk hb
    refine hK.out _ _ (by exact ⟨W7.out.box.cell 3, W7.out.box.cell 5, W7.out.box.cell 4⟩) (fun hHeld => ?_)
    clear hK K
    (try simp only [Act.put, List.setIfInBounds_toArray, List.set_cons_zero, List.set_cons_succ])
    refine wpAnyH_ready (rs := [7]) (by kernel_rfl) (by simp) ?_
    refine (AllReadyH.cons (o := { dst := some 37, op := Op.call { callee := Callee.value (Operand.func 21), args := #[Operand.tmp 34, Operand.tmp 36], argTypes := #[42, 3] }, type := 42, pos := _, after := #[{ on := 4, ground := Ground.data }, { on := 6, ground := Ground.data }, { on := 4, ground := Ground.chain }], guard := none }) rfl (fun K hK => ?_) AllReadyH.nil)
    go_simp
    refine (wi_p W7.out p.size (by omega) (by omega) (by (try simp only [List.length_append, List.length_nil, be_length]); omega)).mono ?_
    rintro e w8 ⟨rfl, A8, hw, hk, hb⟩
    have W8 := Lib.hid hw
    have V8 := Lib.hid (V7.out.keepS hk (by intro x hx; rcases List.mem_singleton.1 hx with rfl; exact NX7.out))
    have NX8 := Lib.hid (apart_next NX7.out LX7.out hb)
    have LX8 := Lib.hid (Nat.lt_of_lt_of_le LX7.out hk.size)
    clear hw hk hb
    refine hK.out _ _ (by exact ⟨W8.out.box.cell 3, W8.out.box.cell 5, W8.out.box.cell 4⟩) (fun hHeld => ?_)
    clear hK K
    (try simp only [Act.put, List.setIfInBounds_toArray, List.set_cons_zero, List.set_cons_succ])
    refine wpAnyH_ready (rs := [11]) (by kernel_rfl) (by simp) ?_
    refine (AllReadyH.cons (o := { dst := some 41, op := Op.call { callee := Callee.value (Operand.func 22), args := #[Operand.tmp 37, Operand.tmp 40], argTypes := #[42, 24] }, type := 42, pos := _, after := #[{ on := 7, ground := Ground.data }, { on := 10, ground := Ground.data }, { on := 7, ground := Ground.chain }], guard := none }) rfl (fun K hK => ?_) AllReadyH.nil)
    go_simp
    refine (wb_p W8.out _ _ _ p.name (by omega) (by (try simp only [List.length_append, List.length_nil, be_length]); omega) V8.out (fun _ x hx => by rcases List.mem_singleton.1 hx with rfl; exact NX8.out)).mono ?_
    rintro e w9 ⟨rfl, A9, hw, hk, hb⟩
    have W9 := Lib.hid hw
    clear hw hk hb
    refine hK.out _ _ (by exact ⟨W9.out.box.cell 3, W9.out.box.cell 5, W9.out.box.cell 4⟩) (fun hHeld => ?_)
    clear hK K
    (try simp only [Act.put, List.setIfInBounds_toArray, List.set_cons_zero, List.set_cons_succ])
    refine wpAnyH_done (by kernel_rfl) ?_ _
    go_wp2_with fail
    refine (wbytes_any _ g _ _ W9.out.wr (by simp only [List.length_append, be_length]; omega)).mono ?_
    rintro e w20 ⟨A20, n20, c20, rfl, hn, hs, hk, hb⟩
    have Z : Hid (AV w w20 A20 n20 c20 (_)) := ⟨hs, W9.out.keep.chain0 (Nat.le_refl _) hk, fun x hx => Nat.le_trans W9.out.keep.size (hb x hx)⟩
    clear hn hs hk hb
    go_wp2_with fail
    go_ret2
    refine ⟨_, _, _, rfl, ?_⟩
    have z := Z.out
    unfold encP bodyE
    have hkk := HKK.out
    simp only [hkk, if_true]
    exact (by simpa only [List.append_assoc] using z)
set_option maxRecDepth 100000 in
set_option maxHeartbeats 16000000 in
theorem penc_2 (w : World) (p : Pd) (l : Lc) (hp : PIn w p l) (hkk : p.kind = 2) (hv : validP p = true) : Calls Try.prog 10 #[.agg (pcs p l)] w (EncPost w (encP p) 0) := by
  have BD := Lib.hid (body2 hv hkk)
  obtain ⟨bc, bs⟩ := BD.out
  have PW := Lib.hid hp
  have bdl : l.dn ≤ 512 := by have h2 := hp.dlen; omega
  have HKK := Lib.hid hkk
  clear hkk
  have k1 : Keep w.heap.size [] w (w.alloc (.cells (pcs p l) TP)) := (Keep.refl _ _ w).alloc (Nat.le_refl _) _
  have hb := Blk.new w TP (pcs p l)
  have P0 := Lib.hid (hp.keep0 k1)
  have DO := Lib.hid (hp.vd.old (by omega))
  have HVL := Lib.hid hv
  have HEAD := Lib.hid (valid_head hv)
  obtain ⟨a0, a1, a2⟩ := HEAD.out
  clear hp hv
  obtain ⟨W0, hW0⟩ : ∃ W0, W0 = w.alloc (.cells (pcs p l) TP) := ⟨_, rfl⟩
  have B0 : Hid (Blk W0 w.heap.size TP (pcs p l)) := Lib.hid (by rw [hW0]; exact hb)
  rw [← hW0] at P0 k1
  have K0 := Lib.hid k1
  clear hb k1
  go_enter Try.func10, Try.ntmps10
  go_upto_region 1 with fail
  change Code.wp _ _ _ _ (w.alloc (.cells (pcs p l) TP))
  rw [← hW0]
  clear hW0
  have c0 : W0.cell? ⟨w.heap.size, 0, none⟩ = some (.int .i64 p.kind) := B0.out.cell 0
  have c1 : W0.cell? ⟨w.heap.size, 1, none⟩ = some (.int .i64 p.src) := B0.out.cell 1
  have c2 : W0.cell? ⟨w.heap.size, 2, none⟩ = some (.int .i64 p.num) := B0.out.cell 2
  have c3 : W0.cell? ⟨w.heap.size, 3, none⟩ = some (.int .i64 p.cls) := B0.out.cell 3
  have c4 : W0.cell? ⟨w.heap.size, 4, none⟩ = some (.string (strOfNums p.name)) := B0.out.cell 4
  have c5 : W0.cell? ⟨w.heap.size, 5, none⟩ = some (.int .i64 p.size) := B0.out.cell 5
  have c6 : W0.cell? ⟨w.heap.size, 6, none⟩ = some (.int .i64 p.off) := B0.out.cell 6
  have c7 : W0.cell? ⟨w.heap.size, 7, none⟩ = some (.slice l.D l.dn l.dc) := B0.out.cell 7
  have c8 : W0.cell? ⟨w.heap.size, 8, none⟩ = some (.int .u32 p.sum) := B0.out.cell 8
  have c9 : W0.cell? ⟨w.heap.size, 9, none⟩ = some (.int .i64 p.code) := B0.out.cell 9
  have c10 : W0.cell? ⟨w.heap.size, 10, none⟩ = some (.slice l.G l.gn l.gc) := B0.out.cell 10
  go_wp2_with fail
  refine (pvalid_b _ p l true P0.out HVL.out).mono ?_
  rintro e w1 ⟨rfl, hk1⟩
  have K1 := Lib.hid hk1
  clear hk1 c0 c1 c2 c3 c4 c5 c6 c7 c8 c9 c10
  go_wp2_with fail
  refine (wnew_any _).mono ?_
  rintro e w2 ⟨g, rfl, hg, hw, hk⟩
  have W2 : Hid (WS w w2 g none [] TP (pcs p l)) := ⟨(K0.out.chain0 (Nat.le_refl _) K1.out).chain0 (Nat.le_refl _) hk, hw, Nat.lt_of_lt_of_le (Nat.lt_of_lt_of_le B0.out.lt K1.out.size) hg, by simp [blks], (B0.out.keepS K1.out (by simp)).keepS hk (by simp)⟩
  have P2 := Lib.hid ((P0.out.keep0 K1.out).keep0 hk)
  clear hg hw hk
  have e0 := u64_in p.kind (by omega) (by omega)
  have e1 := u64_in p.src (by omega) (by omega)
  have e2 := u64_in p.num (by omega) (by omega)
  have c0 : w2.cell? ⟨w.heap.size, 0, none⟩ = some (.int .i64 p.kind) := W2.out.box.cell 0
  have c1 : w2.cell? ⟨w.heap.size, 1, none⟩ = some (.int .i64 p.src) := W2.out.box.cell 1
  have c2 : w2.cell? ⟨w.heap.size, 2, none⟩ = some (.int .i64 p.num) := W2.out.box.cell 2
  go_wp2_with fail
  go_region_held3 (fun w' => w'.cell? ⟨w.heap.size, 0, none⟩ = some (.int .i64 p.kind) ∧ w'.cell? ⟨w.heap.size, 1, none⟩ = some (.int .i64 p.src) ∧ w'.cell? ⟨w.heap.size, 2, none⟩ = some (.int .i64 p.num))
      (first | exact ⟨W2.out.box.cell 0, W2.out.box.cell 1, W2.out.box.cell 2⟩ | exact ⟨W3.out.box.cell 0, W3.out.box.cell 1, W3.out.box.cell 2⟩ | exact ⟨W4.out.box.cell 0, W4.out.box.cell 1, W4.out.box.cell 2⟩ | exact ⟨W5.out.box.cell 0, W5.out.box.cell 1, W5.out.box.cell 2⟩)
      (first
        | (go_at_call_of 20 (Value.int IntKind.u64 p.num)
           refine (wu_p W4.out p.num 2 2 rfl (by omega) (by omega) (by omega) (by omega) (by (try simp only [List.length_append, List.length_nil, be_length]); omega)).mono ?_
           rintro e w5 ⟨rfl, A5, hw, hk, hb⟩
           have W5 := Lib.hid hw
           clear hw hk hb)
        | (go_at_call_of 20 (Value.int IntKind.u64 p.src)
           refine (wu_p W3.out p.src 1 1 rfl (by omega) (by omega) (by omega) (by omega) (by (try simp only [List.length_append, List.length_nil, be_length]); omega)).mono ?_
           rintro e w4 ⟨rfl, A4, hw, hk, hb⟩
           have W4 := Lib.hid hw
           clear hw hk hb)
        | (go_at_call_of 20 (Value.int IntKind.u64 p.kind)
           refine (wu_p W2.out.drew p.kind 1 1 rfl (by omega) (by omega) (by omega) (by omega) (by (try simp only [List.length_append, List.length_nil, be_length]); omega)).mono ?_
           rintro e w3 ⟨rfl, A3, hw, hk, hb⟩
           have W3 := Lib.hid hw
           clear hw hk hb))
  have H5 : ([] ++ be p.kind 1 ++ be p.src 1 ++ be p.num 2) = headE p := by simp [headE]
  rw [H5] at W5
  have hl5 : (headE p).length = 4 := by simp [headE, be_length]
  clear H5 c0 c1 c2 e0 e1 e2 W3 W4
  rename_i hHd
  clear hHd
  have c0 : w5.cell? ⟨w.heap.size, 0, none⟩ = some (.int .i64 2) := by rw [← HKK.out]; exact W5.out.box.cell 0
  have hv6 := vI_len (n := p.off) (by omega) (by omega)
  have c6 : w5.cell? ⟨w.heap.size, 6, none⟩ = some (.int .i64 p.off) := W5.out.box.cell 6
  have c7 : w5.cell? ⟨w.heap.size, 7, none⟩ = some (.slice l.D l.dn l.dc) := W5.out.box.cell 7
  go_wp2_with fail
  go_region_held3 (fun w' => w'.cell? ⟨w.heap.size, 6, none⟩ = some (.int .i64 p.off) ∧ w'.cell? ⟨w.heap.size, 7, none⟩ = some (.slice l.D l.dn l.dc))
      (first | exact ⟨W5.out.box.cell 6, W5.out.box.cell 7⟩ | exact ⟨W6.out.box.cell 6, W6.out.box.cell 7⟩ | exact ⟨W7.out.box.cell 6, W7.out.box.cell 7⟩)
      (first
        | (go_at_call 22
           refine (wb_p W6.out l.D l.dn l.dc p.data (by omega) (by (try simp only [List.length_append, List.length_nil, be_length]); omega) (PW.out.vd.keep0 W6.out.keep) (W6.out.apart DO.out)).mono ?_
           rintro e w7 ⟨rfl, A7, hw, hk, hb⟩
           have W7 := Lib.hid hw
           clear hw hk hb)
        | (go_at_call 21
           refine (wi_p W5.out.drew p.off (by omega) (by omega) (by (try simp only [List.length_append, List.length_nil, be_length]); omega)).mono ?_
           rintro e w6 ⟨rfl, A6, hw, hk, hb⟩
           have W6 := Lib.hid hw
           clear hw hk hb))
  have hb7 : (vB p.data).length ≤ 600 := by have := vI_len (n := (p.data.length : Int)) (by omega) (by omega); unfold vB; simp only [List.length_append]; omega
  clear c0 c6 c7
  go_wp2_with fail
  refine (wbytes_any _ g _ _ W7.out.wr (by simp only [List.length_append, be_length]; omega)).mono ?_
  rintro e w9 ⟨A9, n9, c9, rfl, hn, hs, hk, hb⟩
  have Z : Hid (AV w w9 A9 n9 c9 (_)) := ⟨hs, W7.out.keep.chain0 (Nat.le_refl _) hk, fun x hx => Nat.le_trans W7.out.keep.size (hb x hx)⟩
  clear hn hs hk hb
  go_wp2_with fail
  go_ret2
  refine ⟨_, _, _, rfl, ?_⟩
  have z := Z.out
  unfold encP bodyE
  have hkk := HKK.out
  simp only [hkk, if_true]
  rw [if_neg (by decide)]
  exact (by simpa only [List.append_assoc] using z)
set_option maxRecDepth 100000 in
set_option maxHeartbeats 16000000 in
theorem penc_3 (w : World) (p : Pd) (l : Lc) (hp : PIn w p l) (hkk : p.kind = 3) (hv : validP p = true) : Calls Try.prog 10 #[.agg (pcs p l)] w (EncPost w (encP p) 0) := by
  have BD := Lib.hid (body3 hv hkk)
  obtain ⟨bc, bs, bn⟩ := BD.out
  have sm := hp.sm
  have HKK := Lib.hid hkk
  clear hkk
  have k1 : Keep w.heap.size [] w (w.alloc (.cells (pcs p l) TP)) := (Keep.refl _ _ w).alloc (Nat.le_refl _) _
  have hb := Blk.new w TP (pcs p l)
  have P0 := Lib.hid (hp.keep0 k1)
  have DO := Lib.hid (hp.vd.old (by omega))
  have HVL := Lib.hid hv
  have HEAD := Lib.hid (valid_head hv)
  obtain ⟨a0, a1, a2⟩ := HEAD.out
  clear hp hv
  obtain ⟨W0, hW0⟩ : ∃ W0, W0 = w.alloc (.cells (pcs p l) TP) := ⟨_, rfl⟩
  have B0 : Hid (Blk W0 w.heap.size TP (pcs p l)) := Lib.hid (by rw [hW0]; exact hb)
  rw [← hW0] at P0 k1
  have K0 := Lib.hid k1
  clear hb k1
  go_enter Try.func10, Try.ntmps10
  go_upto_region 1 with fail
  change Code.wp _ _ _ _ (w.alloc (.cells (pcs p l) TP))
  rw [← hW0]
  clear hW0
  have c0 : W0.cell? ⟨w.heap.size, 0, none⟩ = some (.int .i64 p.kind) := B0.out.cell 0
  have c1 : W0.cell? ⟨w.heap.size, 1, none⟩ = some (.int .i64 p.src) := B0.out.cell 1
  have c2 : W0.cell? ⟨w.heap.size, 2, none⟩ = some (.int .i64 p.num) := B0.out.cell 2
  have c3 : W0.cell? ⟨w.heap.size, 3, none⟩ = some (.int .i64 p.cls) := B0.out.cell 3
  have c4 : W0.cell? ⟨w.heap.size, 4, none⟩ = some (.string (strOfNums p.name)) := B0.out.cell 4
  have c5 : W0.cell? ⟨w.heap.size, 5, none⟩ = some (.int .i64 p.size) := B0.out.cell 5
  have c6 : W0.cell? ⟨w.heap.size, 6, none⟩ = some (.int .i64 p.off) := B0.out.cell 6
  have c7 : W0.cell? ⟨w.heap.size, 7, none⟩ = some (.slice l.D l.dn l.dc) := B0.out.cell 7
  have c8 : W0.cell? ⟨w.heap.size, 8, none⟩ = some (.int .u32 p.sum) := B0.out.cell 8
  have c9 : W0.cell? ⟨w.heap.size, 9, none⟩ = some (.int .i64 p.code) := B0.out.cell 9
  have c10 : W0.cell? ⟨w.heap.size, 10, none⟩ = some (.slice l.G l.gn l.gc) := B0.out.cell 10
  go_wp2_with fail
  refine (pvalid_b _ p l true P0.out HVL.out).mono ?_
  rintro e w1 ⟨rfl, hk1⟩
  have K1 := Lib.hid hk1
  clear hk1 c0 c1 c2 c3 c4 c5 c6 c7 c8 c9 c10
  go_wp2_with fail
  refine (wnew_any _).mono ?_
  rintro e w2 ⟨g, rfl, hg, hw, hk⟩
  have W2 : Hid (WS w w2 g none [] TP (pcs p l)) := ⟨(K0.out.chain0 (Nat.le_refl _) K1.out).chain0 (Nat.le_refl _) hk, hw, Nat.lt_of_lt_of_le (Nat.lt_of_lt_of_le B0.out.lt K1.out.size) hg, by simp [blks], (B0.out.keepS K1.out (by simp)).keepS hk (by simp)⟩
  have P2 := Lib.hid ((P0.out.keep0 K1.out).keep0 hk)
  clear hg hw hk
  have e0 := u64_in p.kind (by omega) (by omega)
  have e1 := u64_in p.src (by omega) (by omega)
  have e2 := u64_in p.num (by omega) (by omega)
  have c0 : w2.cell? ⟨w.heap.size, 0, none⟩ = some (.int .i64 p.kind) := W2.out.box.cell 0
  have c1 : w2.cell? ⟨w.heap.size, 1, none⟩ = some (.int .i64 p.src) := W2.out.box.cell 1
  have c2 : w2.cell? ⟨w.heap.size, 2, none⟩ = some (.int .i64 p.num) := W2.out.box.cell 2
  go_wp2_with fail
  go_region_held3 (fun w' => w'.cell? ⟨w.heap.size, 0, none⟩ = some (.int .i64 p.kind) ∧ w'.cell? ⟨w.heap.size, 1, none⟩ = some (.int .i64 p.src) ∧ w'.cell? ⟨w.heap.size, 2, none⟩ = some (.int .i64 p.num))
      (first | exact ⟨W2.out.box.cell 0, W2.out.box.cell 1, W2.out.box.cell 2⟩ | exact ⟨W3.out.box.cell 0, W3.out.box.cell 1, W3.out.box.cell 2⟩ | exact ⟨W4.out.box.cell 0, W4.out.box.cell 1, W4.out.box.cell 2⟩ | exact ⟨W5.out.box.cell 0, W5.out.box.cell 1, W5.out.box.cell 2⟩)
      (first
        | (go_at_call_of 20 (Value.int IntKind.u64 p.num)
           refine (wu_p W4.out p.num 2 2 rfl (by omega) (by omega) (by omega) (by omega) (by (try simp only [List.length_append, List.length_nil, be_length]); omega)).mono ?_
           rintro e w5 ⟨rfl, A5, hw, hk, hb⟩
           have W5 := Lib.hid hw
           clear hw hk hb)
        | (go_at_call_of 20 (Value.int IntKind.u64 p.src)
           refine (wu_p W3.out p.src 1 1 rfl (by omega) (by omega) (by omega) (by omega) (by (try simp only [List.length_append, List.length_nil, be_length]); omega)).mono ?_
           rintro e w4 ⟨rfl, A4, hw, hk, hb⟩
           have W4 := Lib.hid hw
           clear hw hk hb)
        | (go_at_call_of 20 (Value.int IntKind.u64 p.kind)
           refine (wu_p W2.out.drew p.kind 1 1 rfl (by omega) (by omega) (by omega) (by omega) (by (try simp only [List.length_append, List.length_nil, be_length]); omega)).mono ?_
           rintro e w3 ⟨rfl, A3, hw, hk, hb⟩
           have W3 := Lib.hid hw
           clear hw hk hb))
  have H5 : ([] ++ be p.kind 1 ++ be p.src 1 ++ be p.num 2) = headE p := by simp [headE]
  rw [H5] at W5
  have hl5 : (headE p).length = 4 := by simp [headE, be_length]
  clear H5 c0 c1 c2 e0 e1 e2 W3 W4
  rename_i hHd
  clear hHd
  have c0 : w5.cell? ⟨w.heap.size, 0, none⟩ = some (.int .i64 3) := by rw [← HKK.out]; exact W5.out.box.cell 0
  have hv6 := vI_len (n := p.size) (by omega) (by omega)
  have e3 := u64_in p.cls (by omega) (by omega)
  have e4 := u64_in p.sum sm.1 (by omega)
  have e5 := u64_in p.code (by omega) (by omega)
  have c3 : w5.cell? ⟨w.heap.size, 3, none⟩ = some (.int .i64 p.cls) := W5.out.box.cell 3
  have c5 : w5.cell? ⟨w.heap.size, 5, none⟩ = some (.int .i64 p.size) := W5.out.box.cell 5
  have c8 : w5.cell? ⟨w.heap.size, 8, none⟩ = some (.int .u32 p.sum) := W5.out.box.cell 8
  have c9 : w5.cell? ⟨w.heap.size, 9, none⟩ = some (.int .i64 p.code) := W5.out.box.cell 9
  go_wp2_with fail
  go_region_held3 (fun w' => w'.cell? ⟨w.heap.size, 3, none⟩ = some (.int .i64 p.cls) ∧ w'.cell? ⟨w.heap.size, 5, none⟩ = some (.int .i64 p.size) ∧ w'.cell? ⟨w.heap.size, 8, none⟩ = some (.int .u32 p.sum) ∧ w'.cell? ⟨w.heap.size, 9, none⟩ = some (.int .i64 p.code))
      (first | exact ⟨W5.out.box.cell 3, W5.out.box.cell 5, W5.out.box.cell 8, W5.out.box.cell 9⟩ | exact ⟨W6.out.box.cell 3, W6.out.box.cell 5, W6.out.box.cell 8, W6.out.box.cell 9⟩ | exact ⟨W7.out.box.cell 3, W7.out.box.cell 5, W7.out.box.cell 8, W7.out.box.cell 9⟩ | exact ⟨W8.out.box.cell 3, W8.out.box.cell 5, W8.out.box.cell 8, W8.out.box.cell 9⟩ | exact ⟨W9.out.box.cell 3, W9.out.box.cell 5, W9.out.box.cell 8, W9.out.box.cell 9⟩)
      (first
        | (go_at_call_of 20 (Value.int IntKind.u64 p.code)
           refine (wu_p W8.out p.code 1 1 rfl (by omega) (by omega) (by omega) (by omega) (by (try simp only [List.length_append, List.length_nil, be_length]); omega)).mono ?_
           rintro e w9 ⟨rfl, A9, hw, hk, hb⟩
           have W9 := Lib.hid hw
           clear hw hk hb)
        | (go_at_call_of 20 (Value.int IntKind.u64 p.sum)
           refine (wu_p W7.out p.sum 4 4 rfl (by omega) (by omega) (by omega) (by omega) (by (try simp only [List.length_append, List.length_nil, be_length]); omega)).mono ?_
           rintro e w8 ⟨rfl, A8, hw, hk, hb⟩
           have W8 := Lib.hid hw
           clear hw hk hb)
        | (go_at_call 21
           refine (wi_p W6.out p.size (by omega) (by omega) (by (try simp only [List.length_append, List.length_nil, be_length]); omega)).mono ?_
           rintro e w7 ⟨rfl, A7, hw, hk, hb⟩
           have W7 := Lib.hid hw
           clear hw hk hb)
        | (go_at_call_of 20 (Value.int IntKind.u64 p.cls)
           refine (wu_p W5.out.drew p.cls 1 1 rfl (by omega) (by omega) (by omega) (by omega) (by (try simp only [List.length_append, List.length_nil, be_length]); omega)).mono ?_
           rintro e w6 ⟨rfl, A6, hw, hk, hb⟩
           have W6 := Lib.hid hw
           clear hw hk hb))
  clear c0 c3 c5 c8 c9 e3 e4 e5
  go_wp2_with fail
  refine (wbytes_any _ g _ _ W9.out.wr (by simp only [List.length_append, be_length]; omega)).mono ?_
  rintro e w10 ⟨A10, n10, c10, rfl, hn, hs, hk, hb⟩
  have Z : Hid (AV w w10 A10 n10 c10 (_)) := ⟨hs, W9.out.keep.chain0 (Nat.le_refl _) hk, fun x hx => Nat.le_trans W9.out.keep.size (hb x hx)⟩
  clear hn hs hk hb
  go_wp2_with fail
  go_ret2
  refine ⟨_, _, _, rfl, ?_⟩
  have z := Z.out
  unfold encP bodyE
  have hkk := HKK.out
  simp only [hkk, if_true]
  rw [if_neg (by decide)]
  rw [if_neg (by decide)]
  exact (by simpa only [List.append_assoc] using z)
theorem gapsE_takeP {L : List Gp} {k : Nat} {y : Gp} (hy : L[k]? = some y) : gapsE (L.take (k + 1)) = gapsE (L.take k) ++ (vI y.f ++ vI y.t) := by
  rw [List.take_add_one, hy]
  simp [gapsE]
set_option maxRecDepth 100000 in
set_option maxHeartbeats 16000000 in
theorem penc_4 (w : World) (p : Pd) (l : Lc) (hp : PIn w p l) (hkk : p.kind = 4) (hv : validP p = true) : Calls Try.prog 10 #[.agg (pcs p l)] w (EncPost w (encP p) 0) := by
  have BD := Lib.hid (body4 hv hkk)
  have PW := Lib.hid hp
  have VG := Lib.hid hp.vg
  obtain ⟨bb, o, hGE⟩ : ∃ bb o, l.G = some ⟨bb, o, none⟩ := by obtain ⟨b, o, h, _⟩ := hp.vg.2 (by have h1 := BD.out.1; have h2 := hp.glen; omega); exact ⟨b, o, h⟩
  have HGE := Lib.hid hGE
  clear hGE
  have bgl : l.gn ≤ 16 := by have h1 := BD.out.1; have h2 := hp.glen; omega
  have cgI : (l.gn : Int) ≤ (l.gc : Int) := by have := hp.cg.1; omega
  have cgM : (l.gc : Int) ≤ 9223372036854775807 := by have := hp.cg.2; unfold maxLen at this; omega
  have HKK := Lib.hid hkk
  clear hkk
  have k1 : Keep w.heap.size [] w (w.alloc (.cells (pcs p l) TP)) := (Keep.refl _ _ w).alloc (Nat.le_refl _) _
  have hb := Blk.new w TP (pcs p l)
  have P0 := Lib.hid (hp.keep0 k1)
  have DO := Lib.hid (hp.vd.old (by omega))
  have HVL := Lib.hid hv
  have HEAD := Lib.hid (valid_head hv)
  obtain ⟨a0, a1, a2⟩ := HEAD.out
  clear hp hv
  obtain ⟨W0, hW0⟩ : ∃ W0, W0 = w.alloc (.cells (pcs p l) TP) := ⟨_, rfl⟩
  have B0 : Hid (Blk W0 w.heap.size TP (pcs p l)) := Lib.hid (by rw [hW0]; exact hb)
  rw [← hW0] at P0 k1
  have K0 := Lib.hid k1
  clear hb k1
  go_enter Try.func10, Try.ntmps10
  go_upto_region 1 with fail
  change Code.wp _ _ _ _ (w.alloc (.cells (pcs p l) TP))
  rw [← hW0]
  clear hW0
  have c0 : W0.cell? ⟨w.heap.size, 0, none⟩ = some (.int .i64 p.kind) := B0.out.cell 0
  have c1 : W0.cell? ⟨w.heap.size, 1, none⟩ = some (.int .i64 p.src) := B0.out.cell 1
  have c2 : W0.cell? ⟨w.heap.size, 2, none⟩ = some (.int .i64 p.num) := B0.out.cell 2
  have c3 : W0.cell? ⟨w.heap.size, 3, none⟩ = some (.int .i64 p.cls) := B0.out.cell 3
  have c4 : W0.cell? ⟨w.heap.size, 4, none⟩ = some (.string (strOfNums p.name)) := B0.out.cell 4
  have c5 : W0.cell? ⟨w.heap.size, 5, none⟩ = some (.int .i64 p.size) := B0.out.cell 5
  have c6 : W0.cell? ⟨w.heap.size, 6, none⟩ = some (.int .i64 p.off) := B0.out.cell 6
  have c7 : W0.cell? ⟨w.heap.size, 7, none⟩ = some (.slice l.D l.dn l.dc) := B0.out.cell 7
  have c8 : W0.cell? ⟨w.heap.size, 8, none⟩ = some (.int .u32 p.sum) := B0.out.cell 8
  have c9 : W0.cell? ⟨w.heap.size, 9, none⟩ = some (.int .i64 p.code) := B0.out.cell 9
  have c10 : W0.cell? ⟨w.heap.size, 10, none⟩ = some (.slice l.G l.gn l.gc) := B0.out.cell 10
  go_wp2_with fail
  refine (pvalid_b _ p l true P0.out HVL.out).mono ?_
  rintro e w1 ⟨rfl, hk1⟩
  have K1 := Lib.hid hk1
  clear hk1 c0 c1 c2 c3 c4 c5 c6 c7 c8 c9 c10
  go_wp2_with fail
  refine (wnew_any _).mono ?_
  rintro e w2 ⟨g, rfl, hg, hw, hk⟩
  have W2 : Hid (WS w w2 g none [] TP (pcs p l)) := ⟨(K0.out.chain0 (Nat.le_refl _) K1.out).chain0 (Nat.le_refl _) hk, hw, Nat.lt_of_lt_of_le (Nat.lt_of_lt_of_le B0.out.lt K1.out.size) hg, by simp [blks], (B0.out.keepS K1.out (by simp)).keepS hk (by simp)⟩
  have P2 := Lib.hid ((P0.out.keep0 K1.out).keep0 hk)
  clear hg hw hk
  have e0 := u64_in p.kind (by omega) (by omega)
  have e1 := u64_in p.src (by omega) (by omega)
  have e2 := u64_in p.num (by omega) (by omega)
  have c0 : w2.cell? ⟨w.heap.size, 0, none⟩ = some (.int .i64 p.kind) := W2.out.box.cell 0
  have c1 : w2.cell? ⟨w.heap.size, 1, none⟩ = some (.int .i64 p.src) := W2.out.box.cell 1
  have c2 : w2.cell? ⟨w.heap.size, 2, none⟩ = some (.int .i64 p.num) := W2.out.box.cell 2
  go_wp2_with fail
  go_region_held3 (fun w' => w'.cell? ⟨w.heap.size, 0, none⟩ = some (.int .i64 p.kind) ∧ w'.cell? ⟨w.heap.size, 1, none⟩ = some (.int .i64 p.src) ∧ w'.cell? ⟨w.heap.size, 2, none⟩ = some (.int .i64 p.num))
      (first | exact ⟨W2.out.box.cell 0, W2.out.box.cell 1, W2.out.box.cell 2⟩ | exact ⟨W3.out.box.cell 0, W3.out.box.cell 1, W3.out.box.cell 2⟩ | exact ⟨W4.out.box.cell 0, W4.out.box.cell 1, W4.out.box.cell 2⟩ | exact ⟨W5.out.box.cell 0, W5.out.box.cell 1, W5.out.box.cell 2⟩)
      (first
        | (go_at_call_of 20 (Value.int IntKind.u64 p.num)
           refine (wu_p W4.out p.num 2 2 rfl (by omega) (by omega) (by omega) (by omega) (by (try simp only [List.length_append, List.length_nil, be_length]); omega)).mono ?_
           rintro e w5 ⟨rfl, A5, hw, hk, hb⟩
           have W5 := Lib.hid hw
           clear hw hk hb)
        | (go_at_call_of 20 (Value.int IntKind.u64 p.src)
           refine (wu_p W3.out p.src 1 1 rfl (by omega) (by omega) (by omega) (by omega) (by (try simp only [List.length_append, List.length_nil, be_length]); omega)).mono ?_
           rintro e w4 ⟨rfl, A4, hw, hk, hb⟩
           have W4 := Lib.hid hw
           clear hw hk hb)
        | (go_at_call_of 20 (Value.int IntKind.u64 p.kind)
           refine (wu_p W2.out.drew p.kind 1 1 rfl (by omega) (by omega) (by omega) (by omega) (by (try simp only [List.length_append, List.length_nil, be_length]); omega)).mono ?_
           rintro e w3 ⟨rfl, A3, hw, hk, hb⟩
           have W3 := Lib.hid hw
           clear hw hk hb))
  have H5 : ([] ++ be p.kind 1 ++ be p.src 1 ++ be p.num 2) = headE p := by simp [headE]
  rw [H5] at W5
  have hl5 : (headE p).length = 4 := by simp [headE, be_length]
  clear H5 c0 c1 c2 e0 e1 e2 W3 W4
  rename_i hHd
  clear hHd
  have c0 : w5.cell? ⟨w.heap.size, 0, none⟩ = some (.int .i64 4) := by rw [← HKK.out]; exact W5.out.box.cell 0
  have hv6 := vI_len (n := (l.gn : Int)) (by omega) (by omega)
  have c10 : w5.cell? ⟨w.heap.size, 10, none⟩ = some (.slice (some ⟨bb, o, none⟩) l.gn l.gc) := by rw [← HGE.out]; exact W5.out.box.cell 10
  go_wp2_with fail
  refine (wi_p W5.out (l.gn : Int) (by omega) (by omega) (by (try simp only [List.length_append, List.length_nil, be_length]); omega)).mono ?_
  rintro e w6 ⟨rfl, A6, hw, hk, hb⟩
  have W6 := Lib.hid hw
  clear hw hk hb
  clear c0 c10
  have c10 : w6.cell? ⟨w.heap.size, 10, none⟩ = some (.slice (some ⟨bb, o, none⟩) l.gn l.gc) := by rw [← HGE.out]; exact W6.out.box.cell 10
  go_wp2_with fail
  clear c10
  have hgh : (headE p ++ vI (l.gn : Int)).length ≤ 14 := by simp only [List.length_append]; omega
  go_loopw [79] (fun j wr => ∃ (k : Nat) (A : Option Addr), k ≤ l.gn ∧ j = .int .i64 k ∧ (gapsE (p.gaps.take k)).length ≤ k * 20 ∧ WS w wr g A (headE p ++ vI (l.gn : Int) ++ gapsE (p.gaps.take k)) TP (pcs p l)) (fun j _ => l.gn - (intOf j).toNat)
  case atStart => exact ⟨0, _, Nat.zero_le _, rfl, by simp [gapsE], by have := W6.out; simpa [gapsE] using this⟩
  case round =>
    obtain ⟨k, A, hk, rfl, hlen, hws⟩ := hrel
    have WW := Lib.hid hws
    clear hws
    by_cases hlt : k < l.gn
    · have hkx : (k : Int) < (l.gn : Int) := by omega
      obtain ⟨b2, o2, y, hG, hy, d0, d1⟩ := gap_at (VG.out.keep0 WW.out.keep) hlt
      rw [HGE.out] at hG
      cases hG
      obtain ⟨⟨y0, y1⟩, y2, y3⟩ := BD.out.2 y (List.mem_of_getElem? hy)
      have HY := Lib.hid hy
      have hv7 := vI_len (n := y.f) (by omega) (by omega)
      have hv8 := vI_len (n := y.t) (by omega) (by omega)
      clear hy
      go_upto_region 17 with fail
      obtain ⟨v7, hv7w⟩ : ∃ W, W = wr.alloc (.cells #[.int .i64 y.f, .int .i64 y.t] 41) := ⟨_, rfl⟩
      obtain ⟨q, hq⟩ : ∃ q, q = wr.heap.size := ⟨_, rfl⟩
      have W7 : Hid (WS w v7 g A (headE p ++ vI (l.gn : Int) ++ gapsE (p.gaps.take k)) TP (pcs p l)) := Lib.hid (by rw [hv7w]; exact WW.out.other ((Keep.refl _ _ _).alloc (Nat.le_refl _) _))
      have Y7 : Hid (Blk v7 q 41 #[.int .i64 y.f, .int .i64 y.t]) := Lib.hid (by rw [hv7w, hq]; exact Blk.new _ _ _)
      have NX7 : Hid (q ∉ g :: blks A) := Lib.hid (by rw [hq]; exact WW.out.new (Nat.le_refl _))
      have LX7 : Hid (q < v7.heap.size) := Lib.hid Y7.out.lt
      rw [← hv7w, ← hq]
      clear hv7w hq d0 d1
      have e0 : v7.cell? ⟨q, 0, none⟩ = some (.int .i64 y.f) := Y7.out.cell 0
      have e1 : v7.cell? ⟨q, 1, none⟩ = some (.int .i64 y.t) := Y7.out.cell 1
      go_wp2_with fail
      go_region_held3 (fun w' => w'.cell? ⟨q, 0, none⟩ = some (.int .i64 y.f) ∧ w'.cell? ⟨q, 1, none⟩ = some (.int .i64 y.t))
        (first | exact ⟨Y7.out.cell 0, Y7.out.cell 1⟩ | exact ⟨Y8.out.cell 0, Y8.out.cell 1⟩ | exact ⟨Y9.out.cell 0, Y9.out.cell 1⟩)
        (first
          | (go_at_call_of 21 (Value.int IntKind.i64 y.t)
             refine (wi_p W8.out y.t (by omega) (by omega) (by (try simp only [List.length_append, List.length_nil, be_length]); omega)).mono ?_
             rintro e w9 ⟨rfl, A9, hw, hk, hb⟩
             have W9 := Lib.hid hw
             have Y9 := Lib.hid (Y8.out.keepS hk NX8.out)
             have NX9 := Lib.hid (apart_next NX8.out LX8.out hb)
             have LX9 := Lib.hid (Nat.lt_of_lt_of_le LX8.out hk.size)
             clear hw hk hb)
          | (go_at_call_of 21 (Value.int IntKind.i64 y.f)
             refine (wi_p W7.out.drew y.f (by omega) (by omega) (by (try simp only [List.length_append, List.length_nil, be_length]); omega)).mono ?_
             rintro e w8 ⟨rfl, A8, hw, hk, hb⟩
             have W8 := Lib.hid hw
             have Y8 := Lib.hid (Y7.out.drew.keepS hk NX7.out)
             have NX8 := Lib.hid (apart_next NX7.out LX7.out hb)
             have LX8 := Lib.hid (Nat.lt_of_lt_of_le LX7.out hk.size)
             clear hw hk hb))
      rename_i hHd
      clear hHd
      clear e0 e1
      go_wp2_with fail
      go_roundw
      case rel =>
        refine ⟨k + 1, A9, by omega, by go_num, ?_, ?_⟩
        · rw [gapsE_takeP HY.out]; simp only [List.length_append]; omega
        · rw [gapsE_takeP HY.out]
          exact (by simpa only [List.append_assoc] using W9.out)
      case measure => simp [intOf] <;> omega
    · obtain rfl : k = l.gn := by omega
      go_wp2_with fail
      have hgl : (gapsE (p.gaps.take l.gn)).length ≤ 400 := by omega
      refine (wbytes_any _ g _ _ WW.out.wr (by (try simp only [List.length_append]); omega)).mono ?_
      rintro e w20 ⟨A20, n20, c20, rfl, hn, hs, hk, hb⟩
      have Z : Hid (AV w w20 A20 n20 c20 (_)) := ⟨hs, WW.out.keep.chain0 (Nat.le_refl _) hk, fun x hx => Nat.le_trans WW.out.keep.size (hb x hx)⟩
      clear hn hs hk hb
      go_wp2_with fail
      go_ret2
      refine ⟨_, _, _, rfl, ?_⟩
      have z := Z.out
      unfold encP bodyE
      have hkk := HKK.out
      simp only [hkk, if_true]
      rw [if_neg (by decide)]
      rw [if_neg (by decide)]
      rw [if_neg (by decide)]
      rw [PW.out.glen, List.take_length] at z
      exact (by simpa only [List.append_assoc] using z)
set_option maxRecDepth 100000 in
set_option maxHeartbeats 16000000 in
theorem penc_5 (w : World) (p : Pd) (l : Lc) (hp : PIn w p l) (hkk : p.kind = 5) (hv : validP p = true) : Calls Try.prog 10 #[.agg (pcs p l)] w (EncPost w (encP p) 0) := by
  have BD := Lib.hid (body5 hv hkk)
  have bc := BD.out
  have HKK := Lib.hid hkk
  clear hkk
  have k1 : Keep w.heap.size [] w (w.alloc (.cells (pcs p l) TP)) := (Keep.refl _ _ w).alloc (Nat.le_refl _) _
  have hb := Blk.new w TP (pcs p l)
  have P0 := Lib.hid (hp.keep0 k1)
  have DO := Lib.hid (hp.vd.old (by omega))
  have HVL := Lib.hid hv
  have HEAD := Lib.hid (valid_head hv)
  obtain ⟨a0, a1, a2⟩ := HEAD.out
  clear hp hv
  obtain ⟨W0, hW0⟩ : ∃ W0, W0 = w.alloc (.cells (pcs p l) TP) := ⟨_, rfl⟩
  have B0 : Hid (Blk W0 w.heap.size TP (pcs p l)) := Lib.hid (by rw [hW0]; exact hb)
  rw [← hW0] at P0 k1
  have K0 := Lib.hid k1
  clear hb k1
  go_enter Try.func10, Try.ntmps10
  go_upto_region 1 with fail
  change Code.wp _ _ _ _ (w.alloc (.cells (pcs p l) TP))
  rw [← hW0]
  clear hW0
  have c0 : W0.cell? ⟨w.heap.size, 0, none⟩ = some (.int .i64 p.kind) := B0.out.cell 0
  have c1 : W0.cell? ⟨w.heap.size, 1, none⟩ = some (.int .i64 p.src) := B0.out.cell 1
  have c2 : W0.cell? ⟨w.heap.size, 2, none⟩ = some (.int .i64 p.num) := B0.out.cell 2
  have c3 : W0.cell? ⟨w.heap.size, 3, none⟩ = some (.int .i64 p.cls) := B0.out.cell 3
  have c4 : W0.cell? ⟨w.heap.size, 4, none⟩ = some (.string (strOfNums p.name)) := B0.out.cell 4
  have c5 : W0.cell? ⟨w.heap.size, 5, none⟩ = some (.int .i64 p.size) := B0.out.cell 5
  have c6 : W0.cell? ⟨w.heap.size, 6, none⟩ = some (.int .i64 p.off) := B0.out.cell 6
  have c7 : W0.cell? ⟨w.heap.size, 7, none⟩ = some (.slice l.D l.dn l.dc) := B0.out.cell 7
  have c8 : W0.cell? ⟨w.heap.size, 8, none⟩ = some (.int .u32 p.sum) := B0.out.cell 8
  have c9 : W0.cell? ⟨w.heap.size, 9, none⟩ = some (.int .i64 p.code) := B0.out.cell 9
  have c10 : W0.cell? ⟨w.heap.size, 10, none⟩ = some (.slice l.G l.gn l.gc) := B0.out.cell 10
  go_wp2_with fail
  refine (pvalid_b _ p l true P0.out HVL.out).mono ?_
  rintro e w1 ⟨rfl, hk1⟩
  have K1 := Lib.hid hk1
  clear hk1 c0 c1 c2 c3 c4 c5 c6 c7 c8 c9 c10
  go_wp2_with fail
  refine (wnew_any _).mono ?_
  rintro e w2 ⟨g, rfl, hg, hw, hk⟩
  have W2 : Hid (WS w w2 g none [] TP (pcs p l)) := ⟨(K0.out.chain0 (Nat.le_refl _) K1.out).chain0 (Nat.le_refl _) hk, hw, Nat.lt_of_lt_of_le (Nat.lt_of_lt_of_le B0.out.lt K1.out.size) hg, by simp [blks], (B0.out.keepS K1.out (by simp)).keepS hk (by simp)⟩
  have P2 := Lib.hid ((P0.out.keep0 K1.out).keep0 hk)
  clear hg hw hk
  have e0 := u64_in p.kind (by omega) (by omega)
  have e1 := u64_in p.src (by omega) (by omega)
  have e2 := u64_in p.num (by omega) (by omega)
  have c0 : w2.cell? ⟨w.heap.size, 0, none⟩ = some (.int .i64 p.kind) := W2.out.box.cell 0
  have c1 : w2.cell? ⟨w.heap.size, 1, none⟩ = some (.int .i64 p.src) := W2.out.box.cell 1
  have c2 : w2.cell? ⟨w.heap.size, 2, none⟩ = some (.int .i64 p.num) := W2.out.box.cell 2
  go_wp2_with fail
  go_region_held3 (fun w' => w'.cell? ⟨w.heap.size, 0, none⟩ = some (.int .i64 p.kind) ∧ w'.cell? ⟨w.heap.size, 1, none⟩ = some (.int .i64 p.src) ∧ w'.cell? ⟨w.heap.size, 2, none⟩ = some (.int .i64 p.num))
      (first | exact ⟨W2.out.box.cell 0, W2.out.box.cell 1, W2.out.box.cell 2⟩ | exact ⟨W3.out.box.cell 0, W3.out.box.cell 1, W3.out.box.cell 2⟩ | exact ⟨W4.out.box.cell 0, W4.out.box.cell 1, W4.out.box.cell 2⟩ | exact ⟨W5.out.box.cell 0, W5.out.box.cell 1, W5.out.box.cell 2⟩)
      (first
        | (go_at_call_of 20 (Value.int IntKind.u64 p.num)
           refine (wu_p W4.out p.num 2 2 rfl (by omega) (by omega) (by omega) (by omega) (by (try simp only [List.length_append, List.length_nil, be_length]); omega)).mono ?_
           rintro e w5 ⟨rfl, A5, hw, hk, hb⟩
           have W5 := Lib.hid hw
           clear hw hk hb)
        | (go_at_call_of 20 (Value.int IntKind.u64 p.src)
           refine (wu_p W3.out p.src 1 1 rfl (by omega) (by omega) (by omega) (by omega) (by (try simp only [List.length_append, List.length_nil, be_length]); omega)).mono ?_
           rintro e w4 ⟨rfl, A4, hw, hk, hb⟩
           have W4 := Lib.hid hw
           clear hw hk hb)
        | (go_at_call_of 20 (Value.int IntKind.u64 p.kind)
           refine (wu_p W2.out.drew p.kind 1 1 rfl (by omega) (by omega) (by omega) (by omega) (by (try simp only [List.length_append, List.length_nil, be_length]); omega)).mono ?_
           rintro e w3 ⟨rfl, A3, hw, hk, hb⟩
           have W3 := Lib.hid hw
           clear hw hk hb))
  have H5 : ([] ++ be p.kind 1 ++ be p.src 1 ++ be p.num 2) = headE p := by simp [headE]
  rw [H5] at W5
  have hl5 : (headE p).length = 4 := by simp [headE, be_length]
  clear H5 c0 c1 c2 e0 e1 e2 W3 W4
  rename_i hHd
  clear hHd
  have c0 : w5.cell? ⟨w.heap.size, 0, none⟩ = some (.int .i64 5) := by rw [← HKK.out]; exact W5.out.box.cell 0
  have e3 := u64_in p.code (by omega) (by omega)
  have c9 : w5.cell? ⟨w.heap.size, 9, none⟩ = some (.int .i64 p.code) := W5.out.box.cell 9
  go_wp2_with fail
  refine (wu_p W5.out p.code 1 1 rfl (by omega) (by omega) (by omega) (by omega) (by (try simp only [List.length_append, List.length_nil, be_length]); omega)).mono ?_
  rintro e w6 ⟨rfl, A6, hw, hk, hb⟩
  have W6 := Lib.hid hw
  clear hw hk hb
  clear c0 c9 e3
  go_wp2_with fail
  refine (wbytes_any _ g _ _ W6.out.wr (by simp only [List.length_append, be_length]; omega)).mono ?_
  rintro e w9 ⟨A9, n9, c9, rfl, hn, hs, hk, hb⟩
  have Z : Hid (AV w w9 A9 n9 c9 (_)) := ⟨hs, W6.out.keep.chain0 (Nat.le_refl _) hk, fun x hx => Nat.le_trans W6.out.keep.size (hb x hx)⟩
  clear hn hs hk hb
  go_wp2_with fail
  go_ret2
  refine ⟨_, _, _, rfl, ?_⟩
  have z := Z.out
  unfold encP bodyE
  have hkk := HKK.out
  simp only [hkk, if_true]
  rw [if_neg (by decide)]
  rw [if_neg (by decide)]
  rw [if_neg (by decide)]
  rw [if_neg (by decide)]
  exact (by simpa only [List.append_assoc] using z)
end Go.Proofs.Ytijionfhnoffcaa
