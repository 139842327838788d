/- pdu.Forward; ranges.Add. -/
import Derived.Test.YtfkbcflgbjncdaaTxR
import Derived.Test.YtfkbcflgbjncdaaTxN
namespace Go.Proofs.Ytfkbcflgbjncdaa
set_option linter.unusedVariables false
set_option linter.unusedSimpArgs false
open Go.RowKit
def fwdB (k : Int) : Bool := inB k 1 3 || decide (k = 7)
theorem pfwd_b (w : World) (k : Int) (v : Bool) (hv : fwdB k = v) : Calls Try.prog 89 #[.int .i64 k] w fun e w' => e = .returned (.bool v) ∧ w = w' := by
  have HV := Lib.hid hv
  clear hv
  obtain ⟨b, hb⟩ : ∃ b, inB k 1 3 = b := ⟨_, rfl⟩
  have HB := Lib.hid hb
  clear hb
  go_enter Try.func89, Try.ntmps89
  go_wp2_with fail
  refine (within_b _ _ _ _ b HB.out).mono ?_
  rintro e w' ⟨rfl, rfl⟩
  cases b
  all_goals go_wp2_with fail
  all_goals go_ret
  all_goals
    refine ⟨?_, rfl⟩
    rw [← HV.out]
    unfold fwdB
    rw [HB.out]
    simp
  all_goals try (by_cases h7 : k = 7 <;> simp [h7])
/-- a list in normal form comes out, with these members -/
def RnPost (w : World) (p : Int → Prop) (b : Nat) (e : Ending) (w' : World) : Prop :=
  ∃ A c N, e = .returned (.slice A N.length c) ∧ Sl w' TG 2 A N.length c (gcs N) ∧ Nrm N ∧ (∀ z, mem N z ↔ p z) ∧ N.length ≤ b ∧ Keep w.heap.size [] w w' ∧ ∀ y, y ∈ blks A → w.heap.size ≤ y
theorem normal_r (w : World) (X : Option Addr) (m c : Nat) (L : List Gp) (hm : m ≤ 100000) (hv : Vw w X m 2 (gcs L)) : Calls Try.prog 138 #[.slice X m c] w (RnPost w (mem L) L.length) := normal_w w X m c L hm hv
theorem add_len {L : List Gp} {g : Gp} : (L ++ [g]).length = L.length + 1 := by simp
set_option maxRecDepth 100000 in
set_option maxHeartbeats 2000000 in
theorem add_w (w : World) (X : Option Addr) (m c : Nat) (L : List Gp) (g : Gp) (hm : m ≤ 90000) (hv : Vw w X m 2 (gcs L)) : Calls Try.prog 136 #[.slice X m c, .agg #[.int .i64 g.f, .int .i64 g.t]] w (RnPost w (fun z => mem L z ∨ (g.f ≤ z ∧ z < g.t)) (L.length + 1)) := by
  have hml : m = L.length := by have := hv.1; rw [gcells_len] at this; omega
  have HV := Lib.hid hv
  have HML := Lib.hid hml
  clear hv hml
  obtain ⟨i0, hi0, hz0, hz1, hz2⟩ := info_parts infoRg
  go_enter Try.func136, Try.ntmps136
  go_wp2_with fail
  have hb := Blk.new w TG #[.int .i64 g.f, .int .i64 g.t]
  obtain ⟨W, hW⟩ : ∃ W, W = w.alloc (.cells #[.int .i64 g.f, .int .i64 g.t] TG) := ⟨_, rfl⟩
  have hk : Keep w.heap.size [] w W := by rw [hW]; exact (Keep.refl _ _ _).alloc (Nat.le_refl _) _
  have hvw : Vw W X m 2 (gcs L) := HV.out.keep0 hk
  rw [← hW] at hb ⊢
  obtain ⟨b, hbe⟩ : ∃ b, b = w.heap.size := ⟨_, rfl⟩
  rw [← hbe] at hb ⊢
  have HB := Lib.hid hb
  have HK := Lib.hid hk
  have HW := Lib.hid hvw
  have HBE := Lib.hid hbe
  clear hW hb hk hvw hbe
  have y0 : W.drew.cell? ⟨b, 0, none⟩ = some (.int .i64 g.f) ∧ W.drew.cell? ⟨b, 1, none⟩ = some (.int .i64 g.t) := ⟨HB.out.cell 0, HB.out.cell 1⟩
  refine wp_region_held_drew (S := (fun w' => w'.cell? ⟨b, 0, none⟩ = some (.int .i64 g.f) ∧ w'.cell? ⟨b, 1, none⟩ = some (.int .i64 g.t))) (by kernel_rfl) (by exact y0) (fun hHeld => ?_)
  refine tkH (i := 0) (oi := { dst := some 5, op := Op.move (Operand.tmp 0), type := 83, pos := _, after := _, guard := none }) rfl (by assumption) ?_
  (try simp only [Act.put, List.setIfInBounds_toArray, List.set_cons_zero, List.set_cons_succ])
  refine tkH (i := 2) (oi := { dst := some 7, op := Op.load 158 (Operand.tmp 3), type := 158, pos := _, after := _, guard := none }) rfl (by assumption) ?_
  (try simp only [Act.put, List.setIfInBounds_toArray, List.set_cons_zero, List.set_cons_succ])
  refine wpAnyH_ready (rs := [1, 3]) (by kernel_rfl) (by simp) ?_
  refine (AllReadyH.cons (o := { dst := some 6, op := Op.call { callee := Callee.value (Operand.func 154), args := #[Operand.tmp 5], argTypes := #[83] }, type := 83, pos := _, after := _, guard := none }) rfl (fun K hK => ?_) (AllReadyH.cons (o := { dst := some 8, op := Op.buildSlice 83 1 #[(0, Operand.tmp 7)], type := 83, pos := _, after := _, guard := none }) rfl (fun K hK => ?_) AllReadyH.nil))
  · go_simp
    refine (rclone_any _ X m c L (by omega) (by exact HW.out.drew)).mono ?_
    rintro e W1 ⟨A1, c1, rfl, hs1, hk1, hb1⟩
    have S1 := Lib.hid hs1
    have B1 := Lib.hid (HB.out.drew.keepS hk1 (by simp))
    have K1 := Lib.hid (HK.out.drew.chain0 (by first | exact HK.out.size | exact Nat.le_refl _) hk1)
    have F1 : Hid (∀ y, y ∈ blks A1 → W.heap.size ≤ y) := Lib.hid hb1
    clear hs1 hk1 hb1
    refine hK.out _ _ ⟨by exact B1.out.cell 0, by exact B1.out.cell 1⟩ (fun hHeld => ?_)
    clear hK K
    (try simp only [Act.put, List.setIfInBounds_toArray, List.set_cons_zero, List.set_cons_succ])
    refine wpAnyH_ready (rs := [3]) (by kernel_rfl) (by simp) ?_
    refine (AllReadyH.cons (o := { dst := some 8, op := Op.buildSlice 83 1 #[(0, Operand.tmp 7)], type := 83, pos := _, after := _, guard := none }) rfl (fun K hK => ?_) AllReadyH.nil)
    go_simp
    have HS3 := Lib.hid (S1.out.alloc (.cells #[.int .i64 g.f, .int .i64 g.t] 158))
    have hq := Blk.new W1 158 #[.int .i64 g.f, .int .i64 g.t]
    have hb3 := B1.out.alloc (.cells #[.int .i64 g.f, .int .i64 g.t] 158)
    have hk3 := K1.out.alloc (K1.out.size) (.cells #[.int .i64 g.f, .int .i64 g.t] 158)
    obtain ⟨W3, hW3⟩ : ∃ V, V = W1.alloc (.cells #[.int .i64 g.f, .int .i64 g.t] 158) := ⟨_, rfl⟩
    obtain ⟨q, hqe⟩ : ∃ q, q = W1.heap.size := ⟨_, rfl⟩
    rw [← hqe, ← hW3] at hq
    rw [← hW3] at hb3 hk3 HS3
    rw [← hqe, ← hW3]
    have S3 := Lib.hid HS3.out
    have B3 := Lib.hid hb3
    have Q3 := Lib.hid hq
    have K3 := Lib.hid hk3
    have F3 := F1
    clear hW3 hqe hq hb3 hk3 HS3 S1 B1 K1
    refine hK.out _ _ ⟨by exact B3.out.cell 0, by exact B3.out.cell 1⟩ (fun hHeld => ?_)
    clear hK K
    (try simp only [Act.put, List.setIfInBounds_toArray, List.set_cons_zero, List.set_cons_succ])
    refine wpAnyH_ready (rs := [4]) (by kernel_rfl) (by simp) ?_
    refine (AllReadyH.cons (o := { dst := some 9, op := Op.call { callee := Callee.builtin Builtin.append, args := #[Operand.tmp 6, Operand.tmp 8], argTypes := #[83, 83] }, type := 83, pos := _, after := _, guard := none }) rfl (fun K hK => ?_) AllReadyH.nil)
    refine step_app1 _ (by rfl) (.tmp 6) (.tmp 8) 83 (by rfl) 158 i0 _ 2 16 Try.underlying83 hi0 hz0 hz1 hz2 rfl (by omega) A1 m c1 (gcs L) (by rfl) (by exact S3.out) _ _ _ (by rfl) (by exact Q3.out) rfl rfl (by omega) (by omega) ?_
    intro A4 c4 W4 hs4 hk4 hb4
    have e4 : gcs L ++ (#[Value.int .i64 g.f, .int .i64 g.t]).toList = gcs (L ++ [g]) := by simp [gcs, gcells]
    rw [e4] at hs4
    have S4 := Lib.hid hs4
    have K4 : Hid (Keep w.heap.size [] w W4) := Lib.hid (K3.out.chain (Nat.le_refl _) hk4 (fun y hy => Nat.le_trans HK.out.size (F3.out y hy)))
    have B4 : Hid (Blk W4 b TG #[.int .i64 g.f, .int .i64 g.t]) := Lib.hid (B3.out.keepS hk4 (fun hm => absurd (F3.out b hm) (by have := HB.out.lt; omega)))
    clear hs4 hk4 hb4 e4
    refine hK.out _ _ ⟨by exact B4.out.cell 0, by exact B4.out.cell 1⟩ (fun hHeld => ?_)
    clear hK K
    (try simp only [Act.put, List.setIfInBounds_toArray, List.set_cons_zero, List.set_cons_succ])
    refine wpAnyH_ready (rs := [5]) (by kernel_rfl) (by simp) ?_
    refine (AllReadyH.cons (o := { dst := some 10, op := Op.call { callee := Callee.value (Operand.func 138), args := #[Operand.tmp 9], argTypes := #[83] }, type := 83, pos := _, after := _, guard := none }) rfl (fun K hK => ?_) AllReadyH.nil)
    go_simp
    refine (normal_w _ A4 (m + 1) c4 (L ++ [g]) (by omega) (by exact S4.out.vw (by omega))).mono ?_
    rintro e W5 ⟨A5, c5, N5, rfl, hs5, hn5, hm5, hl5, hk5, hb5⟩
    have S5 := Lib.hid hs5
    have N5H := Lib.hid hn5
    have M5 := Lib.hid hm5
    have L5 := Lib.hid hl5
    have B5 := Lib.hid (B4.out.keepS hk5 (by simp))
    have K5 := Lib.hid (K4.out.chain0 (Nat.le_refl _) hk5)
    have F5 := Lib.hid (fun y hy => Nat.le_trans K4.out.size (hb5 y hy))
    clear hs5 hn5 hm5 hl5 hk5 hb5
    refine hK.out _ _ ⟨by exact B5.out.cell 0, by exact B5.out.cell 1⟩ (fun hHeld => ?_)
    clear hK K
    (try simp only [Act.put, List.setIfInBounds_toArray, List.set_cons_zero, List.set_cons_succ])
    refine tkH (i := 6) (oi := { dst := some 4, op := Op.assign (Operand.tmp 10), type := 83, pos := _, after := _, guard := none }) rfl (by assumption) ?_
    (try simp only [Act.put, List.setIfInBounds_toArray, List.set_cons_zero, List.set_cons_succ])
    refine wpAnyH_done (by kernel_rfl) ?_ _
    go_wp2_with fail
    go_ret
    exact ⟨A5, c5, N5, rfl, S5.out, N5H.out, fun z => by rw [M5.out, mem_app, mem_one], by have := L5.out; rw [add_len] at this; exact this, K5.out, F5.out⟩
  · go_simp
    have hq := (Blk.new W 158 #[.int .i64 g.f, .int .i64 g.t]).drew
    have hb2 := (HB.out.alloc (.cells #[.int .i64 g.f, .int .i64 g.t] 158)).drew
    have hk2 := (HK.out.alloc (HK.out.size) (.cells #[.int .i64 g.f, .int .i64 g.t] 158)).drew
    have hv2 := (HW.out.alloc (.cells #[.int .i64 g.f, .int .i64 g.t] 158)).drew
    have hg2 : W.heap.size ≤ (W.alloc (.cells #[.int .i64 g.f, .int .i64 g.t] 158)).drew.heap.size := (((Keep.refl W.heap.size [] W).alloc (Nat.le_refl _) _).drew).size
    obtain ⟨W2, hW2⟩ : ∃ V, V = (W.alloc (.cells #[.int .i64 g.f, .int .i64 g.t] 158)).drew := ⟨_, rfl⟩
    obtain ⟨q, hqe⟩ : ∃ q, q = W.heap.size := ⟨_, rfl⟩
    rw [← hqe, ← hW2] at hq
    rw [← hW2] at hb2 hk2 hv2 hg2
    rw [← hqe, ← hW2]
    have B2 := Lib.hid hb2
    have Q2 := Lib.hid hq
    have K2 := Lib.hid hk2
    have HW2 := Lib.hid hv2
    have GW2 := Lib.hid hg2
    clear hW2 hqe hq hb2 hk2 hv2 hg2
    refine hK.out _ _ ⟨by exact B2.out.cell 0, by exact B2.out.cell 1⟩ (fun hHeld => ?_)
    clear hK K
    (try simp only [Act.put, List.setIfInBounds_toArray, List.set_cons_zero, List.set_cons_succ])
    refine wpAnyH_ready (rs := [1]) (by kernel_rfl) (by simp) ?_
    refine (AllReadyH.cons (o := { dst := some 6, op := Op.call { callee := Callee.value (Operand.func 154), args := #[Operand.tmp 5], argTypes := #[83] }, type := 83, pos := _, after := _, guard := none }) rfl (fun K hK => ?_) AllReadyH.nil)
    go_simp
    refine (rclone_any _ X m c L (by omega) (by exact HW2.out)).mono ?_
    rintro e W3 ⟨A1, c1, rfl, hs1, hk1, hb1⟩
    have S3 := Lib.hid hs1
    have B3 := Lib.hid (B2.out.keepS hk1 (by simp))
    have Q3 := Lib.hid (Q2.out.keepS hk1 (by simp))
    have K3 := Lib.hid (K2.out.chain0 (Nat.le_refl _) hk1)
    have F3 : Hid (∀ y, y ∈ blks A1 → W.heap.size ≤ y) := Lib.hid (fun y hy => Nat.le_trans GW2.out (hb1 y hy))
    clear hs1 hk1 hb1
    refine hK.out _ _ ⟨by exact B3.out.cell 0, by exact B3.out.cell 1⟩ (fun hHeld => ?_)
    clear hK K
    (try simp only [Act.put, List.setIfInBounds_toArray, List.set_cons_zero, List.set_cons_succ])
    refine wpAnyH_ready (rs := [4]) (by kernel_rfl) (by simp) ?_
    refine (AllReadyH.cons (o := { dst := some 9, op := Op.call { callee := Callee.builtin Builtin.append, args := #[Operand.tmp 6, Operand.tmp 8], argTypes := #[83, 83] }, type := 83, pos := _, after := _, guard := none }) rfl (fun K hK => ?_) AllReadyH.nil)
    refine step_app1 _ (by rfl) (.tmp 6) (.tmp 8) 83 (by rfl) 158 i0 _ 2 16 Try.underlying83 hi0 hz0 hz1 hz2 rfl (by omega) A1 m c1 (gcs L) (by rfl) (by exact S3.out) _ _ _ (by rfl) (by exact Q3.out) rfl rfl (by omega) (by omega) ?_
    intro A4 c4 W4 hs4 hk4 hb4
    have e4 : gcs L ++ (#[Value.int .i64 g.f, .int .i64 g.t]).toList = gcs (L ++ [g]) := by simp [gcs, gcells]
    rw [e4] at hs4
    have S4 := Lib.hid hs4
    have K4 : Hid (Keep w.heap.size [] w W4) := Lib.hid (K3.out.chain (Nat.le_refl _) hk4 (fun y hy => Nat.le_trans HK.out.size (F3.out y hy)))
    have B4 : Hid (Blk W4 b TG #[.int .i64 g.f, .int .i64 g.t]) := Lib.hid (B3.out.keepS hk4 (fun hm => absurd (F3.out b hm) (by have := HB.out.lt; omega)))
    clear hs4 hk4 hb4 e4
    refine hK.out _ _ ⟨by exact B4.out.cell 0, by exact B4.out.cell 1⟩ (fun hHeld => ?_)
    clear hK K
    (try simp only [Act.put, List.setIfInBounds_toArray, List.set_cons_zero, List.set_cons_succ])
    refine wpAnyH_ready (rs := [5]) (by kernel_rfl) (by simp) ?_
    refine (AllReadyH.cons (o := { dst := some 10, op := Op.call { callee := Callee.value (Operand.func 138), args := #[Operand.tmp 9], argTypes := #[83] }, type := 83, pos := _, after := _, guard := none }) rfl (fun K hK => ?_) AllReadyH.nil)
    go_simp
    refine (normal_w _ A4 (m + 1) c4 (L ++ [g]) (by omega) (by exact S4.out.vw (by omega))).mono ?_
    rintro e W5 ⟨A5, c5, N5, rfl, hs5, hn5, hm5, hl5, hk5, hb5⟩
    have S5 := Lib.hid hs5
    have N5H := Lib.hid hn5
    have M5 := Lib.hid hm5
    have L5 := Lib.hid hl5
    have B5 := Lib.hid (B4.out.keepS hk5 (by simp))
    have K5 := Lib.hid (K4.out.chain0 (Nat.le_refl _) hk5)
    have F5 := Lib.hid (fun y hy => Nat.le_trans K4.out.size (hb5 y hy))
    clear hs5 hn5 hm5 hl5 hk5 hb5
    refine hK.out _ _ ⟨by exact B5.out.cell 0, by exact B5.out.cell 1⟩ (fun hHeld => ?_)
    clear hK K
    (try simp only [Act.put, List.setIfInBounds_toArray, List.set_cons_zero, List.set_cons_succ])
    refine tkH (i := 6) (oi := { dst := some 4, op := Op.assign (Operand.tmp 10), type := 83, pos := _, after := _, guard := none }) rfl (by assumption) ?_
    (try simp only [Act.put, List.setIfInBounds_toArray, List.set_cons_zero, List.set_cons_succ])
    refine wpAnyH_done (by kernel_rfl) ?_ _
    go_wp2_with fail
    go_ret
    exact ⟨A5, c5, N5, rfl, S5.out, N5H.out, fun z => by rw [M5.out, mem_app, mem_one], by have := L5.out; rw [add_len] at this; exact this, K5.out, F5.out⟩
end Go.Proofs.Ytfkbcflgbjncdaa
