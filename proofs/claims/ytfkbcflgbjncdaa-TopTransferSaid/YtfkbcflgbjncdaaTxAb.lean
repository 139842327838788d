/- The sending end: New. -/
import Derived.Test.YtfkbcflgbjncdaaTxR
import Derived.Test.YtfkbcflgbjncdaaTxAa
namespace Go.Proofs.Ytfkbcflgbjncdaa
set_option linter.unusedVariables false
set_option linter.unusedSimpArgs false
open Go.RowKit
theorem swithin_b (w : World) (n a b : Int) (v : Bool) (hv : inB n a b = v) : Calls Try.prog 76 #[.int .i64 n, .int .i64 a, .int .i64 b] w fun e w' => e = .returned (.bool v) ∧ w = w' := by
  by_cases h1 : a ≤ n
  · have ev : v = decide (n ≤ b) := by rw [← hv]; unfold inB; rw [decide_eq_true h1]; rfl
    subst ev
    clear hv
    go_enter Try.func76, Try.ntmps76
    go_wp2_with fail
    go_ret
    exact ⟨rfl, rfl⟩
  · have ev : v = false := by rw [← hv]; unfold inB; rw [decide_eq_false h1]; rfl
    subst ev
    clear hv
    have h1' : n < a := by omega
    go_enter Try.func76, Try.ntmps76
    go_wp2_with fail
    go_ret
    exact ⟨rfl, rfl⟩
theorem kwithin_b (w : World) (n a b : Int) (v : Bool) (hv : inB n a b = v) : Calls Try.prog 78 #[.int .i64 n, .int .i64 a, .int .i64 b] w fun e w' => e = .returned (.bool v) ∧ w = w' := by
  by_cases h1 : a ≤ n
  · have ev : v = decide (n ≤ b) := by rw [← hv]; unfold inB; rw [decide_eq_true h1]; rfl
    subst ev
    clear hv
    go_enter Try.func78, Try.ntmps78
    go_wp2_with fail
    go_ret
    exact ⟨rfl, rfl⟩
  · have ev : v = false := by rw [← hv]; unfold inB; rw [decide_eq_false h1]; rfl
    subst ev
    clear hv
    have h1' : n < a := by omega
    go_enter Try.func78, Try.ntmps78
    go_wp2_with fail
    go_ret
    exact ⟨rfl, rfl⟩
def SnPost (w : World) (F : List Int) (c : Nat) (e : Ending) (w' : World) : Prop :=
  ∃ p l, e = .returned (.tuple #[ptr p, .int .i64 0]) ∧ SrAt w' p F c l sr0 ∧ Keep w.heap.size [] w w' ∧ ∀ y, y ∈ sbl p l → w.heap.size ≤ y
set_option maxRecDepth 100000 in
set_option maxHeartbeats 4000000 in
theorem snew_w (w : World) (F : List Int) (c : Nat) (X : Option Addr) (xc : Nat) (hc : 8 ≤ c) (hc2 : c ≤ 512) (hn : F.length ≤ 300) (ho : Oct F) (hx : Vw w X F.length 1 (octs F)) (hxc : F.length ≤ xc ∧ xc ≤ maxLen) : Calls Try.prog 28 #[.agg #[.int .i64 1, .int .i64 7], .int .i64 2, .string (strOfNums plan), .slice X F.length xc, .agg #[.int .i64 c, .int .i64 10, .int .i64 50]] w (SnPost w F c) := by
  have HX := Lib.hid hx
  have HO := Lib.hid ho
  have hxcI : (F.length : Int) ≤ (xc : Int) := by omega
  clear hx ho
  go_enter Try.func28, Try.ntmps28
  go_upto_region 2 with fail
  obtain ⟨W, hW⟩ : ∃ W, W = ((w.alloc (.cells #[.int .i64 1, .int .i64 7] 75)).alloc (.cells #[.int .i64 c, .int .i64 10, .int .i64 50] 73)).alloc (.cells (pcs (upd F .md) zL) TP) := ⟨_, rfl⟩
  obtain ⟨q1, hq1⟩ : ∃ q, q = w.heap.size := ⟨_, rfl⟩
  obtain ⟨q2, hq2⟩ : ∃ q, q = w.heap.size + 1 := ⟨_, rfl⟩
  obtain ⟨q3, hq3⟩ : ∃ q, q = w.heap.size + 1 + 1 := ⟨_, rfl⟩
  change Code.wp _ _ _ _ (((w.alloc (.cells #[.int .i64 1, .int .i64 7] 75)).alloc (.cells #[.int .i64 c, .int .i64 10, .int .i64 50] 73)).alloc (.cells (pcs (upd F .md) zL) TP))
  have b1 : Blk W q1 75 #[.int .i64 1, .int .i64 7] := by rw [hW, hq1]; exact ((Blk.new w _ _).alloc _).alloc _
  have b2 : Blk W q2 73 #[.int .i64 c, .int .i64 10, .int .i64 50] := by
    rw [hW, hq2]
    have h := (Blk.new (w.alloc (.cells #[.int .i64 1, .int .i64 7] 75)) 73 #[.int .i64 c, .int .i64 10, .int .i64 50]).alloc (.cells (pcs (upd F .md) zL) TP)
    simpa using h
  have b3 : Blk W q3 TP (pcs (upd F .md) zL) := by
    rw [hW, hq3]
    have h := Blk.new ((w.alloc (.cells #[.int .i64 1, .int .i64 7] 75)).alloc (.cells #[.int .i64 c, .int .i64 10, .int .i64 50] 73)) TP (pcs (upd F .md) zL)
    simpa using h
  have ka : Keep w.heap.size [] w W := by
    rw [hW]
    exact (((Keep.refl _ _ w).alloc (Nat.le_refl _) _).alloc (by simp) _).alloc (by simp; omega) _
  rw [← hW, ← hq3, ← hq2, ← hq1]
  have B1 := Lib.hid b1
  have B2 := Lib.hid b2
  have B3 := Lib.hid b3
  have KA := Lib.hid ka
  clear hW hq1 hq2 hq3 b1 b2 b3 ka
  go_wp2_with (refine wpList_load_mid rfl TP (.tmp 12) rfl q3 0 rfl (pcs (upd F .md) zL).toList _ B3.out.range Try.underlying85 rfl (by rw [infoPd]; rfl) ?_)
  refine (pvalid_b _ (upd F .md) zL true (pin_z _ F .md ⟨rfl, rfl⟩) (valid_md hn)).mono ?_
  rintro e W2 ⟨rfl, hk2⟩
  have b1 := B1.out.keepS hk2 (by simp)
  have b2 := B2.out.keepS hk2 (by simp)
  have K2 := Lib.hid (KA.out.chain0 (Nat.le_refl _) hk2)
  have z0 : W2.cell? ⟨q2, 0, none⟩ = some (.int .i64 c) := b2.cell 0
  have z1 : W2.cell? ⟨q2, 1, none⟩ = some (.int .i64 10) := b2.cell 1
  have z2 : W2.cell? ⟨q2, 2, none⟩ = some (.int .i64 50) := b2.cell 2
  have C1 := Lib.hid b1
  have C2 := Lib.hid b2
  have VX := Lib.hid (HX.out.keep0 K2.out)
  clear hk2 b1 b2
  go_wp2_with fail
  refine (swithin_b _ c 1 512 true (inB_iff.2 (by omega))).mono ?_
  rintro e W3 ⟨rfl, rfl⟩
  go_wp2_with fail
  refine (swithin_b _ 10 1 1048576 true (by rfl)).mono ?_
  rintro e W3 ⟨rfl, rfl⟩
  go_wp2_with fail
  refine (swithin_b _ 50 0 255 true (by rfl)).mono ?_
  rintro e W3 ⟨rfl, rfl⟩
  go_upto_region 4 with fail
  have y0 : (fun w' => w'.cell? ⟨q1, 0, none⟩ = some (.int .i64 1) ∧ w'.cell? ⟨q1, 1, none⟩ = some (.int .i64 7) ∧ w'.cell? ⟨q2, 0, none⟩ = some (.int .i64 c) ∧ w'.cell? ⟨q2, 1, none⟩ = some (.int .i64 10) ∧ w'.cell? ⟨q2, 2, none⟩ = some (.int .i64 50)) W2.drew := ⟨C1.out.cell 0, C1.out.cell 1, C2.out.cell 0, C2.out.cell 1, C2.out.cell 2⟩
  refine wp_region_held_drew (S := (fun w' => w'.cell? ⟨q1, 0, none⟩ = some (.int .i64 1) ∧ w'.cell? ⟨q1, 1, none⟩ = some (.int .i64 7) ∧ w'.cell? ⟨q2, 0, none⟩ = some (.int .i64 c) ∧ w'.cell? ⟨q2, 1, none⟩ = some (.int .i64 10) ∧ w'.cell? ⟨q2, 2, none⟩ = some (.int .i64 50))) (by kernel_rfl) (by exact y0) (fun hHeld => ?_)
  refine tkH (i := 0) (oi := { dst := some 40, op := Op.load 75 (Operand.tmp 5), type := 75, pos := _, after := _, guard := none }) rfl (by assumption) ?_
  (try simp only [Act.put, List.setIfInBounds_toArray, List.set_cons_zero, List.set_cons_succ])
  refine tkH (i := 1) (oi := { dst := some 41, op := Op.move (Operand.tmp 1), type := 3, pos := _, after := _, guard := none }) rfl (by assumption) ?_
  (try simp only [Act.put, List.setIfInBounds_toArray, List.set_cons_zero, List.set_cons_succ])
  refine tkH (i := 2) (oi := { dst := some 42, op := Op.move (Operand.tmp 2), type := 9, pos := _, after := _, guard := none }) rfl (by assumption) ?_
  (try simp only [Act.put, List.setIfInBounds_toArray, List.set_cons_zero, List.set_cons_succ])
  refine tkH (i := 3) (oi := { dst := some 43, op := Op.move (Operand.tmp 3), type := 35, pos := _, after := _, guard := none }) rfl (by assumption) ?_
  (try simp only [Act.put, List.setIfInBounds_toArray, List.set_cons_zero, List.set_cons_succ])
  refine tkH (i := 5) (oi := { dst := some 45, op := Op.load 73 (Operand.tmp 9), type := 73, pos := _, after := _, guard := none }) rfl (by assumption) ?_
  (try simp only [Act.put, List.setIfInBounds_toArray, List.set_cons_zero, List.set_cons_succ])
  refine wpAnyH_ready (rs := [4]) (by kernel_rfl) (by simp) ?_
  refine (AllReadyH.cons (o := { dst := some 44, op := Op.call { callee := Callee.value (Operand.func 77), args := #[Operand.tmp 43], argTypes := #[35] }, type := 35, pos := _, after := _, guard := none }) rfl (fun K hK => ?_) AllReadyH.nil)
  go_simp
  refine (bclone_any _ X F.length xc F (by omega) (by exact VX.out.drew)).mono ?_
  rintro e W4 ⟨D, dc, rfl, hs4, hk4, hf4⟩
  have b1 := C1.out.drew.keepS hk4 (by simp)
  have b2 := C2.out.drew.keepS hk4 (by simp)
  have S4 := Lib.hid hs4
  have K4 := Lib.hid (K2.out.drew.chain0 (Nat.le_refl _) hk4)
  have F4 : Hid (∀ y, y ∈ blks D → W2.heap.size ≤ y) := Lib.hid hf4
  have y1 : (fun w' => w'.cell? ⟨q1, 0, none⟩ = some (.int .i64 1) ∧ w'.cell? ⟨q1, 1, none⟩ = some (.int .i64 7) ∧ w'.cell? ⟨q2, 0, none⟩ = some (.int .i64 c) ∧ w'.cell? ⟨q2, 1, none⟩ = some (.int .i64 10) ∧ w'.cell? ⟨q2, 2, none⟩ = some (.int .i64 50)) W4 := ⟨b1.cell 0, b1.cell 1, b2.cell 0, b2.cell 1, b2.cell 2⟩
  have E1 := Lib.hid b1
  have E2 := Lib.hid b2
  clear hs4 hk4 hf4 b1 b2 y0 z0 z1 z2
  refine hK.out _ _ (by exact y1) (fun hHeld => ?_)
  clear hK K
  (try simp only [Act.put, List.setIfInBounds_toArray, List.set_cons_zero, List.set_cons_succ])
  refine tkH (i := 6) (oi := { dst := some 46, op := Op.build 148 #[(0, Operand.const (Value.bool true)), (1, Operand.tmp 40), (2, Operand.tmp 41), (3, Operand.tmp 42), (4, Operand.tmp 44), (5, Operand.tmp 45)], type := 148, pos := _, after := _, guard := none }) rfl (by assumption) ?_
  (try simp only [Act.put, List.setIfInBounds_toArray, List.set_cons_zero, List.set_cons_succ])
  refine wpAnyH_ready (rs := [7]) (by kernel_rfl) (by simp) ?_
  refine (AllReadyH.cons (o := { dst := some 47, op := Op.box 148 (Operand.tmp 46), type := 76, pos := _, after := _, guard := none }) rfl (fun K hK => ?_) AllReadyH.nil)
  go_simp
  have y2 : (fun w' => w'.cell? ⟨q1, 0, none⟩ = some (.int .i64 1) ∧ w'.cell? ⟨q1, 1, none⟩ = some (.int .i64 7) ∧ w'.cell? ⟨q2, 0, none⟩ = some (.int .i64 c) ∧ w'.cell? ⟨q2, 1, none⟩ = some (.int .i64 10) ∧ w'.cell? ⟨q2, 2, none⟩ = some (.int .i64 50)) (W4.alloc (.cells (scs F c ⟨D, dc, none, 0⟩ sr0) TS)) := ⟨(E1.out.alloc _).cell 0, (E1.out.alloc _).cell 1, (E2.out.alloc _).cell 0, (E2.out.alloc _).cell 1, (E2.out.alloc _).cell 2⟩
  refine hK.out _ _ (by exact y2) (fun hHeld => ?_)
  clear hK K
  (try simp only [Act.put, List.setIfInBounds_toArray, List.set_cons_zero, List.set_cons_succ])
  refine tkH (i := 8) (oi := { dst := some 10, op := Op.assign (Operand.tmp 47), type := 76, pos := _, after := _, guard := none }) rfl (by assumption) ?_
  (try simp only [Act.put, List.setIfInBounds_toArray, List.set_cons_zero, List.set_cons_succ])
  refine tkH (i := 9) (oi := { dst := some 11, op := Op.assign (Operand.const (Value.int IntKind.i64 0)), type := 27, pos := _, after := _, guard := none }) rfl (by assumption) ?_
  (try simp only [Act.put, List.setIfInBounds_toArray, List.set_cons_zero, List.set_cons_succ])
  refine wpAnyH_done (by kernel_rfl) ?_ _
  go_wp2_with fail
  go_ret2
  have ka : Keep w.heap.size [] w (W4.alloc (.cells (scs F c ⟨D, dc, none, 0⟩ sr0) TS)) := K4.out.alloc K4.out.size _
  have hz := K4.out.size
  have hz2 := K2.out.size
  have hlt : ∀ y, y ∈ blks D → y < W4.heap.size := fun y hy => S4.out.blk hy
  refine ⟨W4.heap.size, ⟨D, dc, none, 0⟩, rfl, ⟨Blk.new _ _ _, (S4.out.alloc _).vw (by omega), S4.out.cap, fun hm => by have := hlt _ hm; omega, Vw.nil _ _, ⟨Nat.le_refl _, Nat.zero_le _⟩, by simp [blks]⟩, ka, fun y hy => ?_⟩
  simp only [sbl, List.mem_cons, List.mem_append, blks, List.not_mem_nil, or_false] at hy
  rcases hy with h | h
  · omega
  · have := F4.out y h; omega
end Go.Proofs.Ytfkbcflgbjncdaa
