/- The receiving end: metadata, finish, check. -/
import Derived.Test.YtfkbcflgbjncdaaTxR
import Derived.Test.YtfkbcflgbjncdaaTxAd
namespace Go.Proofs.Ytfkbcflgbjncdaa
set_option linter.unusedVariables false
set_option linter.unusedSimpArgs false
open Go.RowKit
set_option maxRecDepth 100000 in
set_option maxHeartbeats 4000000 in
theorem kmd_tt (w : World) (p : Nat) (F : List Int) (c : Nat) (l : Ly) (K : Sk) (lu : Lc) (hgl : K.got.length ≤ 1000) (hgv : Vw w l.W K.got.length 2 (gcs K.got)) (hgc : K.got.length ≤ l.wc) (hlast : lastT K.got ≤ F.length) (hnm : K.named = true) (hfi : K.fin = true) (hb : Blk w p TK (kcs F c l K)) : Calls Try.prog 131 #[ptr p, .agg (pcs (upd F .md) lu)] w fun e w' => e = .returned (.int .i64 0) ∧ Blk w' p TK (kcs F c l K) ∧ Keep w.heap.size [p] w w' := by
  have HB := Lib.hid hb
  have HG := Lib.hid hgv
  have hlI : decide ((F.length : Int) < lastT K.got) = false := by simp; omega
  clear hb hgv
  go_enter Try.func131, Try.ntmps131
  go_upto_region 1 with fail
  obtain ⟨W, hW⟩ : ∃ W, W = w.alloc (.cells (pcs (upd F .md) lu) TP) := ⟨_, rfl⟩
  obtain ⟨q, hq⟩ : ∃ q, q = w.heap.size := ⟨_, rfl⟩
  have bq : Blk W q TP (pcs (upd F .md) lu) := by rw [hW, hq]; exact Blk.new _ _ _
  have ka : Keep w.heap.size [] w W := by rw [hW]; exact (Keep.refl _ _ _).alloc (Nat.le_refl _) _
  have hpq : p ≠ q := by have := HB.out.lt; omega
  have hqp : q ≠ p := hpq.symm
  change Code.wp _ _ _ _ (w.alloc (.cells (pcs (upd F .md) lu) TP))
  rw [← hW, ← hq]
  have bp := HB.out.keepS ka (by simp)
  clear hW hq
  have c11 : W.cell? ⟨p, 11, none⟩ = some (.bool true) := by
    have h := bp.cell 11
    rw [h]
    show some (Value.bool K.named) = _
    rw [hnm]
    try rfl
  have c12 : W.cell? ⟨p, 12, none⟩ = some (.string (strOfNums plan)) := by
    have h := bp.cell 12
    rw [h]
    show some (Value.string (nmV K.named)) = _
    rw [hnm]
    try rfl
  have c13 : W.cell? ⟨p, 13, none⟩ = some (.int .i64 F.length) := by
    have h := bp.cell 13
    rw [h]
    show some (Value.int .i64 (szV F K.named)) = _
    rw [hnm]
    try rfl
  have c14 : W.cell? ⟨p, 14, none⟩ = some (.bool true) := by
    have h := bp.cell 14
    rw [h]
    show some (Value.bool K.fin) = _
    rw [hfi]
    try rfl
  have c15 : W.cell? ⟨p, 15, none⟩ = some (.int .i64 F.length) := by
    have h := bp.cell 15
    rw [h]
    show some (Value.int .i64 (szV F K.fin)) = _
    rw [hfi]
    try rfl
  have z4 : W.cell? ⟨q, 4, none⟩ = some (.string (strOfNums plan)) := bq.cell 4
  have z5 : W.cell? ⟨q, 5, none⟩ = some (.int .i64 F.length) := bq.cell 5
  have VG := Lib.hid (HG.out.keep0 ka)
  have BP := Lib.hid bp
  have BQ := Lib.hid bq
  have KA := Lib.hid ka
  clear bp bq ka
  refine wp_region_held_drew (S := (fun w' => w'.cell? ⟨p, 11, none⟩ = some (.bool true) ∧ w'.cell? ⟨p, 12, none⟩ = some (.string (strOfNums plan)) ∧ w'.cell? ⟨p, 13, none⟩ = some (.int .i64 F.length) ∧ w'.cell? ⟨p, 14, none⟩ = some (.bool true) ∧ w'.cell? ⟨p, 15, none⟩ = some (.int .i64 F.length) ∧ w'.cell? ⟨q, 4, none⟩ = some (.string (strOfNums plan)) ∧ w'.cell? ⟨q, 5, none⟩ = some (.int .i64 F.length))) (by kernel_rfl) (by exact ⟨c11, c12, c13, c14, c15, z4, z5⟩) (fun hHeld => ?_)
  refine tkH (i := 0) (oi := { dst := some 5, op := Op.move (Operand.tmp 0), type := 79, pos := _, after := _, guard := none }) rfl (by assumption) ?_
  (try simp only [Act.put, List.setIfInBounds_toArray, List.set_cons_zero, List.set_cons_succ])
  refine tkH (i := 1) (oi := { dst := some 6, op := Op.nilCheck (Operand.tmp 5), type := 0, pos := _, after := _, guard := none }) rfl (by assumption) ?_
  (try simp only [Act.put, List.setIfInBounds_toArray, List.set_cons_zero, List.set_cons_succ])
  refine tkH (i := 2) (oi := { dst := some 7, op := Op.fieldAddr 150 (Operand.tmp 6) 8, type := 0, pos := _, after := _, guard := none }) rfl (by assumption) ?_
  (try simp only [Act.put, List.setIfInBounds_toArray, List.set_cons_zero, List.set_cons_succ])
  refine tkH (i := 3) (oi := { dst := some 8, op := Op.load 4 (Operand.tmp 7), type := 4, pos := _, after := _, guard := none }) rfl (by assumption) ?_
  (try simp only [Act.put, List.setIfInBounds_toArray, List.set_cons_zero, List.set_cons_succ])
  refine tkH (i := 4) (oi := { dst := some 9, op := Op.move (Operand.tmp 8), type := 4, pos := _, after := _, guard := none }) rfl (by assumption) ?_
  (try simp only [Act.put, List.setIfInBounds_toArray, List.set_cons_zero, List.set_cons_succ])
  refine tkH (i := 5) (oi := { dst := some 10, op := Op.move (Operand.tmp 0), type := 79, pos := _, after := _, guard := some (4, true) }) rfl (by assumption) ?_
  (try simp only [Act.put, List.setIfInBounds_toArray, List.set_cons_zero, List.set_cons_succ])
  refine tkH (i := 6) (oi := { dst := some 11, op := Op.nilCheck (Operand.tmp 10), type := 0, pos := _, after := _, guard := some (4, true) }) rfl (by assumption) ?_
  (try simp only [Act.put, List.setIfInBounds_toArray, List.set_cons_zero, List.set_cons_succ])
  refine tkH (i := 7) (oi := { dst := some 12, op := Op.fieldAddr 150 (Operand.tmp 11) 9, type := 0, pos := _, after := _, guard := some (4, true) }) rfl (by assumption) ?_
  (try simp only [Act.put, List.setIfInBounds_toArray, List.set_cons_zero, List.set_cons_succ])
  refine tkH (i := 8) (oi := { dst := some 13, op := Op.load 9 (Operand.tmp 12), type := 9, pos := _, after := _, guard := some (4, true) }) rfl (by assumption) ?_
  (try simp only [Act.put, List.setIfInBounds_toArray, List.set_cons_zero, List.set_cons_succ])
  refine tkH (i := 9) (oi := { dst := some 14, op := Op.fieldAddr 85 (Operand.tmp 3) 3, type := 0, pos := _, after := _, guard := some (4, true) }) rfl (by assumption) ?_
  (try simp only [Act.put, List.setIfInBounds_toArray, List.set_cons_zero, List.set_cons_succ])
  refine tkH (i := 10) (oi := { dst := some 15, op := Op.load 9 (Operand.tmp 14), type := 9, pos := _, after := _, guard := some (4, true) }) rfl (by assumption) ?_
  (try simp only [Act.put, List.setIfInBounds_toArray, List.set_cons_zero, List.set_cons_succ])
  refine tkH (i := 11) (oi := { dst := some 16, op := Op.binOp BinOp.neq 9 (Operand.tmp 13) (Operand.tmp 15) 9, type := 4, pos := _, after := _, guard := some (4, true) }) rfl (by assumption) ?_
  (try simp only [Act.put, List.setIfInBounds_toArray, List.set_cons_zero, List.set_cons_succ])
  refine tkH (i := 12) (oi := { dst := some 17, op := Op.move (Operand.tmp 16), type := 4, pos := _, after := _, guard := some (4, true) }) rfl (by assumption) ?_
  (try simp only [Act.put, List.setIfInBounds_toArray, List.set_cons_zero, List.set_cons_succ])
  refine tkH (i := 13) (oi := { dst := some 18, op := Op.move (Operand.tmp 0), type := 79, pos := _, after := _, guard := some (12, false) }) rfl (by assumption) ?_
  (try simp only [Act.put, List.setIfInBounds_toArray, List.set_cons_zero, List.set_cons_succ])
  refine tkH (i := 14) (oi := { dst := some 19, op := Op.nilCheck (Operand.tmp 18), type := 0, pos := _, after := _, guard := some (12, false) }) rfl (by assumption) ?_
  (try simp only [Act.put, List.setIfInBounds_toArray, List.set_cons_zero, List.set_cons_succ])
  refine tkH (i := 15) (oi := { dst := some 20, op := Op.fieldAddr 150 (Operand.tmp 19) 10, type := 0, pos := _, after := _, guard := some (12, false) }) rfl (by assumption) ?_
  (try simp only [Act.put, List.setIfInBounds_toArray, List.set_cons_zero, List.set_cons_succ])
  refine tkH (i := 16) (oi := { dst := some 21, op := Op.load 3 (Operand.tmp 20), type := 3, pos := _, after := _, guard := some (12, false) }) rfl (by assumption) ?_
  (try simp only [Act.put, List.setIfInBounds_toArray, List.set_cons_zero, List.set_cons_succ])
  refine tkH (i := 17) (oi := { dst := some 22, op := Op.fieldAddr 85 (Operand.tmp 3) 4, type := 0, pos := _, after := _, guard := some (12, false) }) rfl (by assumption) ?_
  (try simp only [Act.put, List.setIfInBounds_toArray, List.set_cons_zero, List.set_cons_succ])
  refine tkH (i := 18) (oi := { dst := some 23, op := Op.load 3 (Operand.tmp 22), type := 3, pos := _, after := _, guard := some (12, false) }) rfl (by assumption) ?_
  (try simp only [Act.put, List.setIfInBounds_toArray, List.set_cons_zero, List.set_cons_succ])
  refine tkH (i := 19) (oi := { dst := some 24, op := Op.binOp BinOp.neq 3 (Operand.tmp 21) (Operand.tmp 23) 3, type := 4, pos := _, after := _, guard := some (12, false) }) rfl (by assumption) ?_
  (try simp only [Act.put, List.setIfInBounds_toArray, List.set_cons_zero, List.set_cons_succ])
  refine tkH (i := 20) (oi := { dst := some 25, op := Op.pick (Operand.tmp 17) (Operand.const (Value.bool true)) (Operand.tmp 24), type := 4, pos := _, after := _, guard := some (4, true) }) rfl (by assumption) ?_
  (try simp only [Act.put, List.setIfInBounds_toArray, List.set_cons_zero, List.set_cons_succ])
  refine tkH (i := 21) (oi := { dst := some 26, op := Op.pick (Operand.tmp 9) (Operand.tmp 25) (Operand.const (Value.bool false)), type := 4, pos := _, after := _, guard := none }) rfl (by assumption) ?_
  (try simp only [Act.put, List.setIfInBounds_toArray, List.set_cons_zero, List.set_cons_succ])
  refine tkH (i := 22) (oi := { dst := some 27, op := Op.move (Operand.tmp 26), type := 4, pos := _, after := _, guard := none }) rfl (by assumption) ?_
  (try simp only [Act.put, List.setIfInBounds_toArray, List.set_cons_zero, List.set_cons_succ])
  refine tkH (i := 23) (oi := { dst := some 28, op := Op.move (Operand.tmp 0), type := 79, pos := _, after := _, guard := some (22, false) }) rfl (by assumption) ?_
  (try simp only [Act.put, List.setIfInBounds_toArray, List.set_cons_zero, List.set_cons_succ])
  refine tkH (i := 24) (oi := { dst := some 29, op := Op.nilCheck (Operand.tmp 28), type := 0, pos := _, after := _, guard := some (22, false) }) rfl (by assumption) ?_
  (try simp only [Act.put, List.setIfInBounds_toArray, List.set_cons_zero, List.set_cons_succ])
  refine tkH (i := 25) (oi := { dst := some 30, op := Op.fieldAddr 150 (Operand.tmp 29) 11, type := 0, pos := _, after := _, guard := some (22, false) }) rfl (by assumption) ?_
  (try simp only [Act.put, List.setIfInBounds_toArray, List.set_cons_zero, List.set_cons_succ])
  refine tkH (i := 26) (oi := { dst := some 31, op := Op.load 4 (Operand.tmp 30), type := 4, pos := _, after := _, guard := some (22, false) }) rfl (by assumption) ?_
  (try simp only [Act.put, List.setIfInBounds_toArray, List.set_cons_zero, List.set_cons_succ])
  refine tkH (i := 27) (oi := { dst := some 32, op := Op.move (Operand.tmp 31), type := 4, pos := _, after := _, guard := some (22, false) }) rfl (by assumption) ?_
  (try simp only [Act.put, List.setIfInBounds_toArray, List.set_cons_zero, List.set_cons_succ])
  refine tkH (i := 28) (oi := { dst := some 33, op := Op.move (Operand.tmp 0), type := 79, pos := _, after := _, guard := some (27, true) }) rfl (by assumption) ?_
  (try simp only [Act.put, List.setIfInBounds_toArray, List.set_cons_zero, List.set_cons_succ])
  refine tkH (i := 29) (oi := { dst := some 34, op := Op.nilCheck (Operand.tmp 33), type := 0, pos := _, after := _, guard := some (27, true) }) rfl (by assumption) ?_
  (try simp only [Act.put, List.setIfInBounds_toArray, List.set_cons_zero, List.set_cons_succ])
  refine tkH (i := 30) (oi := { dst := some 35, op := Op.fieldAddr 150 (Operand.tmp 34) 12, type := 0, pos := _, after := _, guard := some (27, true) }) rfl (by assumption) ?_
  (try simp only [Act.put, List.setIfInBounds_toArray, List.set_cons_zero, List.set_cons_succ])
  refine tkH (i := 31) (oi := { dst := some 36, op := Op.load 3 (Operand.tmp 35), type := 3, pos := _, after := _, guard := some (27, true) }) rfl (by assumption) ?_
  (try simp only [Act.put, List.setIfInBounds_toArray, List.set_cons_zero, List.set_cons_succ])
  refine tkH (i := 32) (oi := { dst := some 37, op := Op.fieldAddr 85 (Operand.tmp 3) 4, type := 0, pos := _, after := _, guard := some (27, true) }) rfl (by assumption) ?_
  (try simp only [Act.put, List.setIfInBounds_toArray, List.set_cons_zero, List.set_cons_succ])
  refine tkH (i := 33) (oi := { dst := some 38, op := Op.load 3 (Operand.tmp 37), type := 3, pos := _, after := _, guard := some (27, true) }) rfl (by assumption) ?_
  (try simp only [Act.put, List.setIfInBounds_toArray, List.set_cons_zero, List.set_cons_succ])
  refine tkH (i := 34) (oi := { dst := some 39, op := Op.binOp BinOp.neq 3 (Operand.tmp 36) (Operand.tmp 38) 3, type := 4, pos := _, after := _, guard := some (27, true) }) rfl (by assumption) ?_
  (try simp only [Act.put, List.setIfInBounds_toArray, List.set_cons_zero, List.set_cons_succ])
  refine tkH (i := 35) (oi := { dst := some 40, op := Op.pick (Operand.tmp 32) (Operand.tmp 39) (Operand.const (Value.bool false)), type := 4, pos := _, after := _, guard := some (22, false) }) rfl (by assumption) ?_
  (try simp only [Act.put, List.setIfInBounds_toArray, List.set_cons_zero, List.set_cons_succ])
  refine tkH (i := 36) (oi := { dst := some 41, op := Op.pick (Operand.tmp 27) (Operand.const (Value.bool true)) (Operand.tmp 40), type := 4, pos := _, after := _, guard := none }) rfl (by assumption) ?_
  (try simp only [Act.put, List.setIfInBounds_toArray, List.set_cons_zero, List.set_cons_succ])
  refine tkH (i := 37) (oi := { dst := some 42, op := Op.move (Operand.tmp 41), type := 4, pos := _, after := _, guard := none }) rfl (by assumption) ?_
  (try simp only [Act.put, List.setIfInBounds_toArray, List.set_cons_zero, List.set_cons_succ])
  refine tkH (i := 38) (oi := { dst := some 43, op := Op.move (Operand.tmp 0), type := 79, pos := _, after := _, guard := some (37, false) }) rfl (by assumption) ?_
  (try simp only [Act.put, List.setIfInBounds_toArray, List.set_cons_zero, List.set_cons_succ])
  refine tkH (i := 40) (oi := { dst := some 45, op := Op.fieldAddr 85 (Operand.tmp 3) 4, type := 0, pos := _, after := _, guard := some (37, false) }) rfl (by assumption) ?_
  (try simp only [Act.put, List.setIfInBounds_toArray, List.set_cons_zero, List.set_cons_succ])
  refine tkH (i := 41) (oi := { dst := some 46, op := Op.load 3 (Operand.tmp 45), type := 3, pos := _, after := _, guard := some (37, false) }) rfl (by assumption) ?_
  (try simp only [Act.put, List.setIfInBounds_toArray, List.set_cons_zero, List.set_cons_succ])
  refine wpAnyH_ready (rs := [39]) (by kernel_rfl) (by simp) ?_
  refine (AllReadyH.cons (o := { dst := some 44, op := Op.call { callee := Callee.value (Operand.func 101), args := #[Operand.tmp 43], argTypes := #[79] }, type := 3, pos := _, after := _, guard := some (37, false) }) rfl (fun KQ hK => ?_) AllReadyH.nil)
  go_simp
  refine (klast_w _ p F c l _ hgl (by exact VG.out.drew) hgc (by exact BP.out.drew)).mono ?_
  rintro e W1 ⟨rfl, hk1⟩
  have b1 := BP.out.drew.keepS hk1 (by simp)
  have bq1 := BQ.out.drew.keepS hk1 (by simp)
  have K1 : Hid (Keep w.heap.size [p] w W1) := Lib.hid ((KA.out.drew.mono (S' := [p]) (Nat.le_refl _) (by simp)).trans (hk1.mono KA.out.size (by simp)))
  have y11 : W1.cell? ⟨p, 11, none⟩ = some (.bool true) := by
    have h := b1.cell 11
    rw [h]
    show some (Value.bool K.named) = _
    rw [hnm]
    try rfl
  have y12 : W1.cell? ⟨p, 12, none⟩ = some (.string (strOfNums plan)) := by
    have h := b1.cell 12
    rw [h]
    show some (Value.string (nmV K.named)) = _
    rw [hnm]
    try rfl
  have y13 : W1.cell? ⟨p, 13, none⟩ = some (.int .i64 F.length) := by
    have h := b1.cell 13
    rw [h]
    show some (Value.int .i64 (szV F K.named)) = _
    rw [hnm]
    try rfl
  have y14 : W1.cell? ⟨p, 14, none⟩ = some (.bool true) := by
    have h := b1.cell 14
    rw [h]
    show some (Value.bool K.fin) = _
    rw [hfi]
    try rfl
  have y15 : W1.cell? ⟨p, 15, none⟩ = some (.int .i64 F.length) := by
    have h := b1.cell 15
    rw [h]
    show some (Value.int .i64 (szV F K.fin)) = _
    rw [hfi]
    try rfl
  have B1 := Lib.hid b1
  have BQ1 := Lib.hid bq1
  have yy : (fun w' => w'.cell? ⟨p, 11, none⟩ = some (.bool true) ∧ w'.cell? ⟨p, 12, none⟩ = some (.string (strOfNums plan)) ∧ w'.cell? ⟨p, 13, none⟩ = some (.int .i64 F.length) ∧ w'.cell? ⟨p, 14, none⟩ = some (.bool true) ∧ w'.cell? ⟨p, 15, none⟩ = some (.int .i64 F.length) ∧ w'.cell? ⟨q, 4, none⟩ = some (.string (strOfNums plan)) ∧ w'.cell? ⟨q, 5, none⟩ = some (.int .i64 F.length)) W1 := ⟨y11, y12, y13, y14, y15, BQ1.out.cell 4, BQ1.out.cell 5⟩
  clear hk1 b1 bq1 c11 c12 c13 c14 c15 z4 z5
  refine hK.out _ _ (by exact yy) (fun hHeld => ?_)
  clear hK KQ
  (try simp only [Act.put, List.setIfInBounds_toArray, List.set_cons_zero, List.set_cons_succ])
  refine tkH (i := 42) (oi := { dst := some 47, op := Op.binOp BinOp.gtr 3 (Operand.tmp 44) (Operand.tmp 46) 3, type := 4, pos := _, after := _, guard := some (37, false) }) rfl (by assumption) ?_
  (try simp only [Act.put, List.setIfInBounds_toArray, List.set_cons_zero, List.set_cons_succ])
  refine tkH (i := 43) (oi := { dst := some 48, op := Op.pick (Operand.tmp 42) (Operand.const (Value.bool true)) (Operand.tmp 47), type := 4, pos := _, after := _, guard := none }) rfl (by assumption) ?_
  (try simp only [Act.put, List.setIfInBounds_toArray, List.set_cons_zero, List.set_cons_succ])
  refine wpAnyH_done (by kernel_rfl) ?_ _
  go_wp2_with fail
  go_ret
  exact ⟨rfl, B1.out, K1.out⟩
set_option maxRecDepth 100000 in
set_option maxHeartbeats 4000000 in
theorem kmd_tf (w : World) (p : Nat) (F : List Int) (c : Nat) (l : Ly) (K : Sk) (lu : Lc) (hgl : K.got.length ≤ 1000) (hgv : Vw w l.W K.got.length 2 (gcs K.got)) (hgc : K.got.length ≤ l.wc) (hlast : lastT K.got ≤ F.length) (hnm : K.named = true) (hfi : K.fin = false) (hb : Blk w p TK (kcs F c l K)) : Calls Try.prog 131 #[ptr p, .agg (pcs (upd F .md) lu)] w fun e w' => e = .returned (.int .i64 0) ∧ Blk w' p TK (kcs F c l K) ∧ Keep w.heap.size [p] w w' := by
  have HB := Lib.hid hb
  have HG := Lib.hid hgv
  have hlI : decide ((F.length : Int) < lastT K.got) = false := by simp; omega
  clear hb hgv
  go_enter Try.func131, Try.ntmps131
  go_upto_region 1 with fail
  obtain ⟨W, hW⟩ : ∃ W, W = w.alloc (.cells (pcs (upd F .md) lu) TP) := ⟨_, rfl⟩
  obtain ⟨q, hq⟩ : ∃ q, q = w.heap.size := ⟨_, rfl⟩
  have bq : Blk W q TP (pcs (upd F .md) lu) := by rw [hW, hq]; exact Blk.new _ _ _
  have ka : Keep w.heap.size [] w W := by rw [hW]; exact (Keep.refl _ _ _).alloc (Nat.le_refl _) _
  have hpq : p ≠ q := by have := HB.out.lt; omega
  have hqp : q ≠ p := hpq.symm
  change Code.wp _ _ _ _ (w.alloc (.cells (pcs (upd F .md) lu) TP))
  rw [← hW, ← hq]
  have bp := HB.out.keepS ka (by simp)
  clear hW hq
  have c11 : W.cell? ⟨p, 11, none⟩ = some (.bool true) := by
    have h := bp.cell 11
    rw [h]
    show some (Value.bool K.named) = _
    rw [hnm]
    try rfl
  have c12 : W.cell? ⟨p, 12, none⟩ = some (.string (strOfNums plan)) := by
    have h := bp.cell 12
    rw [h]
    show some (Value.string (nmV K.named)) = _
    rw [hnm]
    try rfl
  have c13 : W.cell? ⟨p, 13, none⟩ = some (.int .i64 F.length) := by
    have h := bp.cell 13
    rw [h]
    show some (Value.int .i64 (szV F K.named)) = _
    rw [hnm]
    try rfl
  have c14 : W.cell? ⟨p, 14, none⟩ = some (.bool false) := by
    have h := bp.cell 14
    rw [h]
    show some (Value.bool K.fin) = _
    rw [hfi]
    try rfl
  have z4 : W.cell? ⟨q, 4, none⟩ = some (.string (strOfNums plan)) := bq.cell 4
  have z5 : W.cell? ⟨q, 5, none⟩ = some (.int .i64 F.length) := bq.cell 5
  have VG := Lib.hid (HG.out.keep0 ka)
  have BP := Lib.hid bp
  have BQ := Lib.hid bq
  have KA := Lib.hid ka
  clear bp bq ka
  refine wp_region_held_drew (S := (fun w' => w'.cell? ⟨p, 11, none⟩ = some (.bool true) ∧ w'.cell? ⟨p, 12, none⟩ = some (.string (strOfNums plan)) ∧ w'.cell? ⟨p, 13, none⟩ = some (.int .i64 F.length) ∧ w'.cell? ⟨p, 14, none⟩ = some (.bool false) ∧ w'.cell? ⟨q, 4, none⟩ = some (.string (strOfNums plan)) ∧ w'.cell? ⟨q, 5, none⟩ = some (.int .i64 F.length))) (by kernel_rfl) (by exact ⟨c11, c12, c13, c14, z4, z5⟩) (fun hHeld => ?_)
  refine tkH (i := 0) (oi := { dst := some 5, op := Op.move (Operand.tmp 0), type := 79, pos := _, after := _, guard := none }) rfl (by assumption) ?_
  (try simp only [Act.put, List.setIfInBounds_toArray, List.set_cons_zero, List.set_cons_succ])
  refine tkH (i := 1) (oi := { dst := some 6, op := Op.nilCheck (Operand.tmp 5), type := 0, pos := _, after := _, guard := none }) rfl (by assumption) ?_
  (try simp only [Act.put, List.setIfInBounds_toArray, List.set_cons_zero, List.set_cons_succ])
  refine tkH (i := 2) (oi := { dst := some 7, op := Op.fieldAddr 150 (Operand.tmp 6) 8, type := 0, pos := _, after := _, guard := none }) rfl (by assumption) ?_
  (try simp only [Act.put, List.setIfInBounds_toArray, List.set_cons_zero, List.set_cons_succ])
  refine tkH (i := 3) (oi := { dst := some 8, op := Op.load 4 (Operand.tmp 7), type := 4, pos := _, after := _, guard := none }) rfl (by assumption) ?_
  (try simp only [Act.put, List.setIfInBounds_toArray, List.set_cons_zero, List.set_cons_succ])
  refine tkH (i := 4) (oi := { dst := some 9, op := Op.move (Operand.tmp 8), type := 4, pos := _, after := _, guard := none }) rfl (by assumption) ?_
  (try simp only [Act.put, List.setIfInBounds_toArray, List.set_cons_zero, List.set_cons_succ])
  refine tkH (i := 5) (oi := { dst := some 10, op := Op.move (Operand.tmp 0), type := 79, pos := _, after := _, guard := some (4, true) }) rfl (by assumption) ?_
  (try simp only [Act.put, List.setIfInBounds_toArray, List.set_cons_zero, List.set_cons_succ])
  refine tkH (i := 6) (oi := { dst := some 11, op := Op.nilCheck (Operand.tmp 10), type := 0, pos := _, after := _, guard := some (4, true) }) rfl (by assumption) ?_
  (try simp only [Act.put, List.setIfInBounds_toArray, List.set_cons_zero, List.set_cons_succ])
  refine tkH (i := 7) (oi := { dst := some 12, op := Op.fieldAddr 150 (Operand.tmp 11) 9, type := 0, pos := _, after := _, guard := some (4, true) }) rfl (by assumption) ?_
  (try simp only [Act.put, List.setIfInBounds_toArray, List.set_cons_zero, List.set_cons_succ])
  refine tkH (i := 8) (oi := { dst := some 13, op := Op.load 9 (Operand.tmp 12), type := 9, pos := _, after := _, guard := some (4, true) }) rfl (by assumption) ?_
  (try simp only [Act.put, List.setIfInBounds_toArray, List.set_cons_zero, List.set_cons_succ])
  refine tkH (i := 9) (oi := { dst := some 14, op := Op.fieldAddr 85 (Operand.tmp 3) 3, type := 0, pos := _, after := _, guard := some (4, true) }) rfl (by assumption) ?_
  (try simp only [Act.put, List.setIfInBounds_toArray, List.set_cons_zero, List.set_cons_succ])
  refine tkH (i := 10) (oi := { dst := some 15, op := Op.load 9 (Operand.tmp 14), type := 9, pos := _, after := _, guard := some (4, true) }) rfl (by assumption) ?_
  (try simp only [Act.put, List.setIfInBounds_toArray, List.set_cons_zero, List.set_cons_succ])
  refine tkH (i := 11) (oi := { dst := some 16, op := Op.binOp BinOp.neq 9 (Operand.tmp 13) (Operand.tmp 15) 9, type := 4, pos := _, after := _, guard := some (4, true) }) rfl (by assumption) ?_
  (try simp only [Act.put, List.setIfInBounds_toArray, List.set_cons_zero, List.set_cons_succ])
  refine tkH (i := 12) (oi := { dst := some 17, op := Op.move (Operand.tmp 16), type := 4, pos := _, after := _, guard := some (4, true) }) rfl (by assumption) ?_
  (try simp only [Act.put, List.setIfInBounds_toArray, List.set_cons_zero, List.set_cons_succ])
  refine tkH (i := 13) (oi := { dst := some 18, op := Op.move (Operand.tmp 0), type := 79, pos := _, after := _, guard := some (12, false) }) rfl (by assumption) ?_
  (try simp only [Act.put, List.setIfInBounds_toArray, List.set_cons_zero, List.set_cons_succ])
  refine tkH (i := 14) (oi := { dst := some 19, op := Op.nilCheck (Operand.tmp 18), type := 0, pos := _, after := _, guard := some (12, false) }) rfl (by assumption) ?_
  (try simp only [Act.put, List.setIfInBounds_toArray, List.set_cons_zero, List.set_cons_succ])
  refine tkH (i := 15) (oi := { dst := some 20, op := Op.fieldAddr 150 (Operand.tmp 19) 10, type := 0, pos := _, after := _, guard := some (12, false) }) rfl (by assumption) ?_
  (try simp only [Act.put, List.setIfInBounds_toArray, List.set_cons_zero, List.set_cons_succ])
  refine tkH (i := 16) (oi := { dst := some 21, op := Op.load 3 (Operand.tmp 20), type := 3, pos := _, after := _, guard := some (12, false) }) rfl (by assumption) ?_
  (try simp only [Act.put, List.setIfInBounds_toArray, List.set_cons_zero, List.set_cons_succ])
  refine tkH (i := 17) (oi := { dst := some 22, op := Op.fieldAddr 85 (Operand.tmp 3) 4, type := 0, pos := _, after := _, guard := some (12, false) }) rfl (by assumption) ?_
  (try simp only [Act.put, List.setIfInBounds_toArray, List.set_cons_zero, List.set_cons_succ])
  refine tkH (i := 18) (oi := { dst := some 23, op := Op.load 3 (Operand.tmp 22), type := 3, pos := _, after := _, guard := some (12, false) }) rfl (by assumption) ?_
  (try simp only [Act.put, List.setIfInBounds_toArray, List.set_cons_zero, List.set_cons_succ])
  refine tkH (i := 19) (oi := { dst := some 24, op := Op.binOp BinOp.neq 3 (Operand.tmp 21) (Operand.tmp 23) 3, type := 4, pos := _, after := _, guard := some (12, false) }) rfl (by assumption) ?_
  (try simp only [Act.put, List.setIfInBounds_toArray, List.set_cons_zero, List.set_cons_succ])
  refine tkH (i := 20) (oi := { dst := some 25, op := Op.pick (Operand.tmp 17) (Operand.const (Value.bool true)) (Operand.tmp 24), type := 4, pos := _, after := _, guard := some (4, true) }) rfl (by assumption) ?_
  (try simp only [Act.put, List.setIfInBounds_toArray, List.set_cons_zero, List.set_cons_succ])
  refine tkH (i := 21) (oi := { dst := some 26, op := Op.pick (Operand.tmp 9) (Operand.tmp 25) (Operand.const (Value.bool false)), type := 4, pos := _, after := _, guard := none }) rfl (by assumption) ?_
  (try simp only [Act.put, List.setIfInBounds_toArray, List.set_cons_zero, List.set_cons_succ])
  refine tkH (i := 22) (oi := { dst := some 27, op := Op.move (Operand.tmp 26), type := 4, pos := _, after := _, guard := none }) rfl (by assumption) ?_
  (try simp only [Act.put, List.setIfInBounds_toArray, List.set_cons_zero, List.set_cons_succ])
  refine tkH (i := 23) (oi := { dst := some 28, op := Op.move (Operand.tmp 0), type := 79, pos := _, after := _, guard := some (22, false) }) rfl (by assumption) ?_
  (try simp only [Act.put, List.setIfInBounds_toArray, List.set_cons_zero, List.set_cons_succ])
  refine tkH (i := 24) (oi := { dst := some 29, op := Op.nilCheck (Operand.tmp 28), type := 0, pos := _, after := _, guard := some (22, false) }) rfl (by assumption) ?_
  (try simp only [Act.put, List.setIfInBounds_toArray, List.set_cons_zero, List.set_cons_succ])
  refine tkH (i := 25) (oi := { dst := some 30, op := Op.fieldAddr 150 (Operand.tmp 29) 11, type := 0, pos := _, after := _, guard := some (22, false) }) rfl (by assumption) ?_
  (try simp only [Act.put, List.setIfInBounds_toArray, List.set_cons_zero, List.set_cons_succ])
  refine tkH (i := 26) (oi := { dst := some 31, op := Op.load 4 (Operand.tmp 30), type := 4, pos := _, after := _, guard := some (22, false) }) rfl (by assumption) ?_
  (try simp only [Act.put, List.setIfInBounds_toArray, List.set_cons_zero, List.set_cons_succ])
  refine tkH (i := 27) (oi := { dst := some 32, op := Op.move (Operand.tmp 31), type := 4, pos := _, after := _, guard := some (22, false) }) rfl (by assumption) ?_
  (try simp only [Act.put, List.setIfInBounds_toArray, List.set_cons_zero, List.set_cons_succ])
  refine skH (i := 28) (oi := { dst := some 33, op := Op.move (Operand.tmp 0), type := 79, pos := _, after := _, guard := some (27, true) }) rfl (by assumption) ?_
  (try simp only [Act.put, List.setIfInBounds_toArray, List.set_cons_zero, List.set_cons_succ])
  refine skH (i := 29) (oi := { dst := some 34, op := Op.nilCheck (Operand.tmp 33), type := 0, pos := _, after := _, guard := some (27, true) }) rfl (by assumption) ?_
  (try simp only [Act.put, List.setIfInBounds_toArray, List.set_cons_zero, List.set_cons_succ])
  refine skH (i := 30) (oi := { dst := some 35, op := Op.fieldAddr 150 (Operand.tmp 34) 12, type := 0, pos := _, after := _, guard := some (27, true) }) rfl (by assumption) ?_
  (try simp only [Act.put, List.setIfInBounds_toArray, List.set_cons_zero, List.set_cons_succ])
  refine skH (i := 31) (oi := { dst := some 36, op := Op.load 3 (Operand.tmp 35), type := 3, pos := _, after := _, guard := some (27, true) }) rfl (by assumption) ?_
  (try simp only [Act.put, List.setIfInBounds_toArray, List.set_cons_zero, List.set_cons_succ])
  refine skH (i := 32) (oi := { dst := some 37, op := Op.fieldAddr 85 (Operand.tmp 3) 4, type := 0, pos := _, after := _, guard := some (27, true) }) rfl (by assumption) ?_
  (try simp only [Act.put, List.setIfInBounds_toArray, List.set_cons_zero, List.set_cons_succ])
  refine skH (i := 33) (oi := { dst := some 38, op := Op.load 3 (Operand.tmp 37), type := 3, pos := _, after := _, guard := some (27, true) }) rfl (by assumption) ?_
  (try simp only [Act.put, List.setIfInBounds_toArray, List.set_cons_zero, List.set_cons_succ])
  refine skH (i := 34) (oi := { dst := some 39, op := Op.binOp BinOp.neq 3 (Operand.tmp 36) (Operand.tmp 38) 3, type := 4, pos := _, after := _, guard := some (27, true) }) rfl (by assumption) ?_
  (try simp only [Act.put, List.setIfInBounds_toArray, List.set_cons_zero, List.set_cons_succ])
  refine tkH (i := 35) (oi := { dst := some 40, op := Op.pick (Operand.tmp 32) (Operand.tmp 39) (Operand.const (Value.bool false)), type := 4, pos := _, after := _, guard := some (22, false) }) rfl (by assumption) ?_
  (try simp only [Act.put, List.setIfInBounds_toArray, List.set_cons_zero, List.set_cons_succ])
  refine tkH (i := 36) (oi := { dst := some 41, op := Op.pick (Operand.tmp 27) (Operand.const (Value.bool true)) (Operand.tmp 40), type := 4, pos := _, after := _, guard := none }) rfl (by assumption) ?_
  (try simp only [Act.put, List.setIfInBounds_toArray, List.set_cons_zero, List.set_cons_succ])
  refine tkH (i := 37) (oi := { dst := some 42, op := Op.move (Operand.tmp 41), type := 4, pos := _, after := _, guard := none }) rfl (by assumption) ?_
  (try simp only [Act.put, List.setIfInBounds_toArray, List.set_cons_zero, List.set_cons_succ])
  refine tkH (i := 38) (oi := { dst := some 43, op := Op.move (Operand.tmp 0), type := 79, pos := _, after := _, guard := some (37, false) }) rfl (by assumption) ?_
  (try simp only [Act.put, List.setIfInBounds_toArray, List.set_cons_zero, List.set_cons_succ])
  refine tkH (i := 40) (oi := { dst := some 45, op := Op.fieldAddr 85 (Operand.tmp 3) 4, type := 0, pos := _, after := _, guard := some (37, false) }) rfl (by assumption) ?_
  (try simp only [Act.put, List.setIfInBounds_toArray, List.set_cons_zero, List.set_cons_succ])
  refine tkH (i := 41) (oi := { dst := some 46, op := Op.load 3 (Operand.tmp 45), type := 3, pos := _, after := _, guard := some (37, false) }) rfl (by assumption) ?_
  (try simp only [Act.put, List.setIfInBounds_toArray, List.set_cons_zero, List.set_cons_succ])
  refine wpAnyH_ready (rs := [39]) (by kernel_rfl) (by simp) ?_
  refine (AllReadyH.cons (o := { dst := some 44, op := Op.call { callee := Callee.value (Operand.func 101), args := #[Operand.tmp 43], argTypes := #[79] }, type := 3, pos := _, after := _, guard := some (37, false) }) rfl (fun KQ hK => ?_) AllReadyH.nil)
  go_simp
  refine (klast_w _ p F c l _ hgl (by exact VG.out.drew) hgc (by exact BP.out.drew)).mono ?_
  rintro e W1 ⟨rfl, hk1⟩
  have b1 := BP.out.drew.keepS hk1 (by simp)
  have bq1 := BQ.out.drew.keepS hk1 (by simp)
  have K1 : Hid (Keep w.heap.size [p] w W1) := Lib.hid ((KA.out.drew.mono (S' := [p]) (Nat.le_refl _) (by simp)).trans (hk1.mono KA.out.size (by simp)))
  have y11 : W1.cell? ⟨p, 11, none⟩ = some (.bool true) := by
    have h := b1.cell 11
    rw [h]
    show some (Value.bool K.named) = _
    rw [hnm]
    try rfl
  have y12 : W1.cell? ⟨p, 12, none⟩ = some (.string (strOfNums plan)) := by
    have h := b1.cell 12
    rw [h]
    show some (Value.string (nmV K.named)) = _
    rw [hnm]
    try rfl
  have y13 : W1.cell? ⟨p, 13, none⟩ = some (.int .i64 F.length) := by
    have h := b1.cell 13
    rw [h]
    show some (Value.int .i64 (szV F K.named)) = _
    rw [hnm]
    try rfl
  have y14 : W1.cell? ⟨p, 14, none⟩ = some (.bool false) := by
    have h := b1.cell 14
    rw [h]
    show some (Value.bool K.fin) = _
    rw [hfi]
    try rfl
  have B1 := Lib.hid b1
  have BQ1 := Lib.hid bq1
  have yy : (fun w' => w'.cell? ⟨p, 11, none⟩ = some (.bool true) ∧ w'.cell? ⟨p, 12, none⟩ = some (.string (strOfNums plan)) ∧ w'.cell? ⟨p, 13, none⟩ = some (.int .i64 F.length) ∧ w'.cell? ⟨p, 14, none⟩ = some (.bool false) ∧ w'.cell? ⟨q, 4, none⟩ = some (.string (strOfNums plan)) ∧ w'.cell? ⟨q, 5, none⟩ = some (.int .i64 F.length)) W1 := ⟨y11, y12, y13, y14, BQ1.out.cell 4, BQ1.out.cell 5⟩
  clear hk1 b1 bq1 c11 c12 c13 c14 z4 z5
  refine hK.out _ _ (by exact yy) (fun hHeld => ?_)
  clear hK KQ
  (try simp only [Act.put, List.setIfInBounds_toArray, List.set_cons_zero, List.set_cons_succ])
  refine tkH (i := 42) (oi := { dst := some 47, op := Op.binOp BinOp.gtr 3 (Operand.tmp 44) (Operand.tmp 46) 3, type := 4, pos := _, after := _, guard := some (37, false) }) rfl (by assumption) ?_
  (try simp only [Act.put, List.setIfInBounds_toArray, List.set_cons_zero, List.set_cons_succ])
  refine tkH (i := 43) (oi := { dst := some 48, op := Op.pick (Operand.tmp 42) (Operand.const (Value.bool true)) (Operand.tmp 47), type := 4, pos := _, after := _, guard := none }) rfl (by assumption) ?_
  (try simp only [Act.put, List.setIfInBounds_toArray, List.set_cons_zero, List.set_cons_succ])
  refine wpAnyH_done (by kernel_rfl) ?_ _
  go_wp2_with fail
  go_ret
  exact ⟨rfl, B1.out, K1.out⟩
set_option maxRecDepth 100000 in
set_option maxHeartbeats 4000000 in
theorem kmd_ft (w : World) (p : Nat) (F : List Int) (c : Nat) (l : Ly) (K : Sk) (lu : Lc) (hgl : K.got.length ≤ 1000) (hgv : Vw w l.W K.got.length 2 (gcs K.got)) (hgc : K.got.length ≤ l.wc) (hlast : lastT K.got ≤ F.length) (hnm : K.named = false) (hfi : K.fin = true) (hb : Blk w p TK (kcs F c l K)) : Calls Try.prog 131 #[ptr p, .agg (pcs (upd F .md) lu)] w fun e w' => e = .returned (.int .i64 0) ∧ Blk w' p TK (kcs F c l { K with named := true, tm := K.now, tr := 0 }) ∧ Keep w.heap.size [p] w w' := by
  have HB := Lib.hid hb
  have HG := Lib.hid hgv
  have hlI : decide ((F.length : Int) < lastT K.got) = false := by simp; omega
  clear hb hgv
  go_enter Try.func131, Try.ntmps131
  go_upto_region 1 with fail
  obtain ⟨W, hW⟩ : ∃ W, W = w.alloc (.cells (pcs (upd F .md) lu) TP) := ⟨_, rfl⟩
  obtain ⟨q, hq⟩ : ∃ q, q = w.heap.size := ⟨_, rfl⟩
  have bq : Blk W q TP (pcs (upd F .md) lu) := by rw [hW, hq]; exact Blk.new _ _ _
  have ka : Keep w.heap.size [] w W := by rw [hW]; exact (Keep.refl _ _ _).alloc (Nat.le_refl _) _
  have hpq : p ≠ q := by have := HB.out.lt; omega
  have hqp : q ≠ p := hpq.symm
  change Code.wp _ _ _ _ (w.alloc (.cells (pcs (upd F .md) lu) TP))
  rw [← hW, ← hq]
  have bp := HB.out.keepS ka (by simp)
  clear hW hq
  have c11 : W.cell? ⟨p, 11, none⟩ = some (.bool false) := by
    have h := bp.cell 11
    rw [h]
    show some (Value.bool K.named) = _
    rw [hnm]
    try rfl
  have c14 : W.cell? ⟨p, 14, none⟩ = some (.bool true) := by
    have h := bp.cell 14
    rw [h]
    show some (Value.bool K.fin) = _
    rw [hfi]
    try rfl
  have c15 : W.cell? ⟨p, 15, none⟩ = some (.int .i64 F.length) := by
    have h := bp.cell 15
    rw [h]
    show some (Value.int .i64 (szV F K.fin)) = _
    rw [hfi]
    try rfl
  have z4 : W.cell? ⟨q, 4, none⟩ = some (.string (strOfNums plan)) := bq.cell 4
  have z5 : W.cell? ⟨q, 5, none⟩ = some (.int .i64 F.length) := bq.cell 5
  have VG := Lib.hid (HG.out.keep0 ka)
  have BP := Lib.hid bp
  have BQ := Lib.hid bq
  have KA := Lib.hid ka
  clear bp bq ka
  refine wp_region_held_drew (S := (fun w' => w'.cell? ⟨p, 11, none⟩ = some (.bool false) ∧ w'.cell? ⟨p, 14, none⟩ = some (.bool true) ∧ w'.cell? ⟨p, 15, none⟩ = some (.int .i64 F.length) ∧ w'.cell? ⟨q, 4, none⟩ = some (.string (strOfNums plan)) ∧ w'.cell? ⟨q, 5, none⟩ = some (.int .i64 F.length))) (by kernel_rfl) (by exact ⟨c11, c14, c15, z4, z5⟩) (fun hHeld => ?_)
  refine tkH (i := 0) (oi := { dst := some 5, op := Op.move (Operand.tmp 0), type := 79, pos := _, after := _, guard := none }) rfl (by assumption) ?_
  (try simp only [Act.put, List.setIfInBounds_toArray, List.set_cons_zero, List.set_cons_succ])
  refine tkH (i := 1) (oi := { dst := some 6, op := Op.nilCheck (Operand.tmp 5), type := 0, pos := _, after := _, guard := none }) rfl (by assumption) ?_
  (try simp only [Act.put, List.setIfInBounds_toArray, List.set_cons_zero, List.set_cons_succ])
  refine tkH (i := 2) (oi := { dst := some 7, op := Op.fieldAddr 150 (Operand.tmp 6) 8, type := 0, pos := _, after := _, guard := none }) rfl (by assumption) ?_
  (try simp only [Act.put, List.setIfInBounds_toArray, List.set_cons_zero, List.set_cons_succ])
  refine tkH (i := 3) (oi := { dst := some 8, op := Op.load 4 (Operand.tmp 7), type := 4, pos := _, after := _, guard := none }) rfl (by assumption) ?_
  (try simp only [Act.put, List.setIfInBounds_toArray, List.set_cons_zero, List.set_cons_succ])
  refine tkH (i := 4) (oi := { dst := some 9, op := Op.move (Operand.tmp 8), type := 4, pos := _, after := _, guard := none }) rfl (by assumption) ?_
  (try simp only [Act.put, List.setIfInBounds_toArray, List.set_cons_zero, List.set_cons_succ])
  refine skH (i := 5) (oi := { dst := some 10, op := Op.move (Operand.tmp 0), type := 79, pos := _, after := _, guard := some (4, true) }) rfl (by assumption) ?_
  (try simp only [Act.put, List.setIfInBounds_toArray, List.set_cons_zero, List.set_cons_succ])
  refine skH (i := 6) (oi := { dst := some 11, op := Op.nilCheck (Operand.tmp 10), type := 0, pos := _, after := _, guard := some (4, true) }) rfl (by assumption) ?_
  (try simp only [Act.put, List.setIfInBounds_toArray, List.set_cons_zero, List.set_cons_succ])
  refine skH (i := 7) (oi := { dst := some 12, op := Op.fieldAddr 150 (Operand.tmp 11) 9, type := 0, pos := _, after := _, guard := some (4, true) }) rfl (by assumption) ?_
  (try simp only [Act.put, List.setIfInBounds_toArray, List.set_cons_zero, List.set_cons_succ])
  refine skH (i := 8) (oi := { dst := some 13, op := Op.load 9 (Operand.tmp 12), type := 9, pos := _, after := _, guard := some (4, true) }) rfl (by assumption) ?_
  (try simp only [Act.put, List.setIfInBounds_toArray, List.set_cons_zero, List.set_cons_succ])
  refine skH (i := 9) (oi := { dst := some 14, op := Op.fieldAddr 85 (Operand.tmp 3) 3, type := 0, pos := _, after := _, guard := some (4, true) }) rfl (by assumption) ?_
  (try simp only [Act.put, List.setIfInBounds_toArray, List.set_cons_zero, List.set_cons_succ])
  refine skH (i := 10) (oi := { dst := some 15, op := Op.load 9 (Operand.tmp 14), type := 9, pos := _, after := _, guard := some (4, true) }) rfl (by assumption) ?_
  (try simp only [Act.put, List.setIfInBounds_toArray, List.set_cons_zero, List.set_cons_succ])
  refine skH (i := 11) (oi := { dst := some 16, op := Op.binOp BinOp.neq 9 (Operand.tmp 13) (Operand.tmp 15) 9, type := 4, pos := _, after := _, guard := some (4, true) }) rfl (by assumption) ?_
  (try simp only [Act.put, List.setIfInBounds_toArray, List.set_cons_zero, List.set_cons_succ])
  refine skH (i := 12) (oi := { dst := some 17, op := Op.move (Operand.tmp 16), type := 4, pos := _, after := _, guard := some (4, true) }) rfl (by assumption) ?_
  (try simp only [Act.put, List.setIfInBounds_toArray, List.set_cons_zero, List.set_cons_succ])
  refine skH (i := 13) (oi := { dst := some 18, op := Op.move (Operand.tmp 0), type := 79, pos := _, after := _, guard := some (12, false) }) rfl (by assumption) ?_
  (try simp only [Act.put, List.setIfInBounds_toArray, List.set_cons_zero, List.set_cons_succ])
  refine skH (i := 14) (oi := { dst := some 19, op := Op.nilCheck (Operand.tmp 18), type := 0, pos := _, after := _, guard := some (12, false) }) rfl (by assumption) ?_
  (try simp only [Act.put, List.setIfInBounds_toArray, List.set_cons_zero, List.set_cons_succ])
  refine skH (i := 15) (oi := { dst := some 20, op := Op.fieldAddr 150 (Operand.tmp 19) 10, type := 0, pos := _, after := _, guard := some (12, false) }) rfl (by assumption) ?_
  (try simp only [Act.put, List.setIfInBounds_toArray, List.set_cons_zero, List.set_cons_succ])
  refine skH (i := 16) (oi := { dst := some 21, op := Op.load 3 (Operand.tmp 20), type := 3, pos := _, after := _, guard := some (12, false) }) rfl (by assumption) ?_
  (try simp only [Act.put, List.setIfInBounds_toArray, List.set_cons_zero, List.set_cons_succ])
  refine skH (i := 17) (oi := { dst := some 22, op := Op.fieldAddr 85 (Operand.tmp 3) 4, type := 0, pos := _, after := _, guard := some (12, false) }) rfl (by assumption) ?_
  (try simp only [Act.put, List.setIfInBounds_toArray, List.set_cons_zero, List.set_cons_succ])
  refine skH (i := 18) (oi := { dst := some 23, op := Op.load 3 (Operand.tmp 22), type := 3, pos := _, after := _, guard := some (12, false) }) rfl (by assumption) ?_
  (try simp only [Act.put, List.setIfInBounds_toArray, List.set_cons_zero, List.set_cons_succ])
  refine skH (i := 19) (oi := { dst := some 24, op := Op.binOp BinOp.neq 3 (Operand.tmp 21) (Operand.tmp 23) 3, type := 4, pos := _, after := _, guard := some (12, false) }) rfl (by assumption) ?_
  (try simp only [Act.put, List.setIfInBounds_toArray, List.set_cons_zero, List.set_cons_succ])
  refine skH (i := 20) (oi := { dst := some 25, op := Op.pick (Operand.tmp 17) (Operand.const (Value.bool true)) (Operand.tmp 24), type := 4, pos := _, after := _, guard := some (4, true) }) rfl (by assumption) ?_
  (try simp only [Act.put, List.setIfInBounds_toArray, List.set_cons_zero, List.set_cons_succ])
  refine tkH (i := 21) (oi := { dst := some 26, op := Op.pick (Operand.tmp 9) (Operand.tmp 25) (Operand.const (Value.bool false)), type := 4, pos := _, after := _, guard := none }) rfl (by assumption) ?_
  (try simp only [Act.put, List.setIfInBounds_toArray, List.set_cons_zero, List.set_cons_succ])
  refine tkH (i := 22) (oi := { dst := some 27, op := Op.move (Operand.tmp 26), type := 4, pos := _, after := _, guard := none }) rfl (by assumption) ?_
  (try simp only [Act.put, List.setIfInBounds_toArray, List.set_cons_zero, List.set_cons_succ])
  refine tkH (i := 23) (oi := { dst := some 28, op := Op.move (Operand.tmp 0), type := 79, pos := _, after := _, guard := some (22, false) }) rfl (by assumption) ?_
  (try simp only [Act.put, List.setIfInBounds_toArray, List.set_cons_zero, List.set_cons_succ])
  refine tkH (i := 24) (oi := { dst := some 29, op := Op.nilCheck (Operand.tmp 28), type := 0, pos := _, after := _, guard := some (22, false) }) rfl (by assumption) ?_
  (try simp only [Act.put, List.setIfInBounds_toArray, List.set_cons_zero, List.set_cons_succ])
  refine tkH (i := 25) (oi := { dst := some 30, op := Op.fieldAddr 150 (Operand.tmp 29) 11, type := 0, pos := _, after := _, guard := some (22, false) }) rfl (by assumption) ?_
  (try simp only [Act.put, List.setIfInBounds_toArray, List.set_cons_zero, List.set_cons_succ])
  refine tkH (i := 26) (oi := { dst := some 31, op := Op.load 4 (Operand.tmp 30), type := 4, pos := _, after := _, guard := some (22, false) }) rfl (by assumption) ?_
  (try simp only [Act.put, List.setIfInBounds_toArray, List.set_cons_zero, List.set_cons_succ])
  refine tkH (i := 27) (oi := { dst := some 32, op := Op.move (Operand.tmp 31), type := 4, pos := _, after := _, guard := some (22, false) }) rfl (by assumption) ?_
  (try simp only [Act.put, List.setIfInBounds_toArray, List.set_cons_zero, List.set_cons_succ])
  refine tkH (i := 28) (oi := { dst := some 33, op := Op.move (Operand.tmp 0), type := 79, pos := _, after := _, guard := some (27, true) }) rfl (by assumption) ?_
  (try simp only [Act.put, List.setIfInBounds_toArray, List.set_cons_zero, List.set_cons_succ])
  refine tkH (i := 29) (oi := { dst := some 34, op := Op.nilCheck (Operand.tmp 33), type := 0, pos := _, after := _, guard := some (27, true) }) rfl (by assumption) ?_
  (try simp only [Act.put, List.setIfInBounds_toArray, List.set_cons_zero, List.set_cons_succ])
  refine tkH (i := 30) (oi := { dst := some 35, op := Op.fieldAddr 150 (Operand.tmp 34) 12, type := 0, pos := _, after := _, guard := some (27, true) }) rfl (by assumption) ?_
  (try simp only [Act.put, List.setIfInBounds_toArray, List.set_cons_zero, List.set_cons_succ])
  refine tkH (i := 31) (oi := { dst := some 36, op := Op.load 3 (Operand.tmp 35), type := 3, pos := _, after := _, guard := some (27, true) }) rfl (by assumption) ?_
  (try simp only [Act.put, List.setIfInBounds_toArray, List.set_cons_zero, List.set_cons_succ])
  refine tkH (i := 32) (oi := { dst := some 37, op := Op.fieldAddr 85 (Operand.tmp 3) 4, type := 0, pos := _, after := _, guard := some (27, true) }) rfl (by assumption) ?_
  (try simp only [Act.put, List.setIfInBounds_toArray, List.set_cons_zero, List.set_cons_succ])
  refine tkH (i := 33) (oi := { dst := some 38, op := Op.load 3 (Operand.tmp 37), type := 3, pos := _, after := _, guard := some (27, true) }) rfl (by assumption) ?_
  (try simp only [Act.put, List.setIfInBounds_toArray, List.set_cons_zero, List.set_cons_succ])
  refine tkH (i := 34) (oi := { dst := some 39, op := Op.binOp BinOp.neq 3 (Operand.tmp 36) (Operand.tmp 38) 3, type := 4, pos := _, after := _, guard := some (27, true) }) rfl (by assumption) ?_
  (try simp only [Act.put, List.setIfInBounds_toArray, List.set_cons_zero, List.set_cons_succ])
  refine tkH (i := 35) (oi := { dst := some 40, op := Op.pick (Operand.tmp 32) (Operand.tmp 39) (Operand.const (Value.bool false)), type := 4, pos := _, after := _, guard := some (22, false) }) rfl (by assumption) ?_
  (try simp only [Act.put, List.setIfInBounds_toArray, List.set_cons_zero, List.set_cons_succ])
  refine tkH (i := 36) (oi := { dst := some 41, op := Op.pick (Operand.tmp 27) (Operand.const (Value.bool true)) (Operand.tmp 40), type := 4, pos := _, after := _, guard := none }) rfl (by assumption) ?_
  (try simp only [Act.put, List.setIfInBounds_toArray, List.set_cons_zero, List.set_cons_succ])
  refine tkH (i := 37) (oi := { dst := some 42, op := Op.move (Operand.tmp 41), type := 4, pos := _, after := _, guard := none }) rfl (by assumption) ?_
  (try simp only [Act.put, List.setIfInBounds_toArray, List.set_cons_zero, List.set_cons_succ])
  refine tkH (i := 38) (oi := { dst := some 43, op := Op.move (Operand.tmp 0), type := 79, pos := _, after := _, guard := some (37, false) }) rfl (by assumption) ?_
  (try simp only [Act.put, List.setIfInBounds_toArray, List.set_cons_zero, List.set_cons_succ])
  refine tkH (i := 40) (oi := { dst := some 45, op := Op.fieldAddr 85 (Operand.tmp 3) 4, type := 0, pos := _, after := _, guard := some (37, false) }) rfl (by assumption) ?_
  (try simp only [Act.put, List.setIfInBounds_toArray, List.set_cons_zero, List.set_cons_succ])
  refine tkH (i := 41) (oi := { dst := some 46, op := Op.load 3 (Operand.tmp 45), type := 3, pos := _, after := _, guard := some (37, false) }) rfl (by assumption) ?_
  (try simp only [Act.put, List.setIfInBounds_toArray, List.set_cons_zero, List.set_cons_succ])
  refine wpAnyH_ready (rs := [39]) (by kernel_rfl) (by simp) ?_
  refine (AllReadyH.cons (o := { dst := some 44, op := Op.call { callee := Callee.value (Operand.func 101), args := #[Operand.tmp 43], argTypes := #[79] }, type := 3, pos := _, after := _, guard := some (37, false) }) rfl (fun KQ hK => ?_) AllReadyH.nil)
  go_simp
  refine (klast_w _ p F c l _ hgl (by exact VG.out.drew) hgc (by exact BP.out.drew)).mono ?_
  rintro e W1 ⟨rfl, hk1⟩
  have b1 := BP.out.drew.keepS hk1 (by simp)
  have bq1 := BQ.out.drew.keepS hk1 (by simp)
  have K1 : Hid (Keep w.heap.size [p] w W1) := Lib.hid ((KA.out.drew.mono (S' := [p]) (Nat.le_refl _) (by simp)).trans (hk1.mono KA.out.size (by simp)))
  have y11 : W1.cell? ⟨p, 11, none⟩ = some (.bool false) := by
    have h := b1.cell 11
    rw [h]
    show some (Value.bool K.named) = _
    rw [hnm]
    try rfl
  have y14 : W1.cell? ⟨p, 14, none⟩ = some (.bool true) := by
    have h := b1.cell 14
    rw [h]
    show some (Value.bool K.fin) = _
    rw [hfi]
    try rfl
  have y15 : W1.cell? ⟨p, 15, none⟩ = some (.int .i64 F.length) := by
    have h := b1.cell 15
    rw [h]
    show some (Value.int .i64 (szV F K.fin)) = _
    rw [hfi]
    try rfl
  have B1 := Lib.hid b1
  have BQ1 := Lib.hid bq1
  have yy : (fun w' => w'.cell? ⟨p, 11, none⟩ = some (.bool false) ∧ w'.cell? ⟨p, 14, none⟩ = some (.bool true) ∧ w'.cell? ⟨p, 15, none⟩ = some (.int .i64 F.length) ∧ w'.cell? ⟨q, 4, none⟩ = some (.string (strOfNums plan)) ∧ w'.cell? ⟨q, 5, none⟩ = some (.int .i64 F.length)) W1 := ⟨y11, y14, y15, BQ1.out.cell 4, BQ1.out.cell 5⟩
  clear hk1 b1 bq1 c11 c14 c15 z4 z5
  refine hK.out _ _ (by exact yy) (fun hHeld => ?_)
  clear hK KQ
  (try simp only [Act.put, List.setIfInBounds_toArray, List.set_cons_zero, List.set_cons_succ])
  refine tkH (i := 42) (oi := { dst := some 47, op := Op.binOp BinOp.gtr 3 (Operand.tmp 44) (Operand.tmp 46) 3, type := 4, pos := _, after := _, guard := some (37, false) }) rfl (by assumption) ?_
  (try simp only [Act.put, List.setIfInBounds_toArray, List.set_cons_zero, List.set_cons_succ])
  refine tkH (i := 43) (oi := { dst := some 48, op := Op.pick (Operand.tmp 42) (Operand.const (Value.bool true)) (Operand.tmp 47), type := 4, pos := _, after := _, guard := none }) rfl (by assumption) ?_
  (try simp only [Act.put, List.setIfInBounds_toArray, List.set_cons_zero, List.set_cons_succ])
  refine wpAnyH_done (by kernel_rfl) ?_ _
  have y4 : W1.cell? ⟨q, 4, none⟩ = some (.string (strOfNums plan)) := BQ1.out.cell 4
  have y5 : W1.cell? ⟨q, 5, none⟩ = some (.int .i64 F.length) := BQ1.out.cell 5
  have x12 : W1.cell? ⟨p, 12, none⟩ = some (.string (nmV K.named)) := B1.out.cell 12
  have x13 : W1.cell? ⟨p, 13, none⟩ = some (.int .i64 (szV F K.named)) := B1.out.cell 13
  have fx11 := B1.out.frozen 11
  have fx12 := B1.out.frozen 12
  have fx13 := B1.out.frozen 13
  go_wp2_with fail
  have B2 : Hid (Blk (((W1.setCell ⟨p, 11, none⟩ (.bool true)).setCell ⟨p, 12, none⟩ (.string (strOfNums plan))).setCell ⟨p, 13, none⟩ (.int .i64 F.length)) p TK (kcs F c l { K with named := true })) := Lib.hid (((B1.out.set_ 11 _).set_ 12 _).set_ 13 _)
  have K2 : Hid (Keep w.heap.size [p] w (((W1.setCell ⟨p, 11, none⟩ (.bool true)).setCell ⟨p, 12, none⟩ (.string (strOfNums plan))).setCell ⟨p, 13, none⟩ (.int .i64 F.length))) := Lib.hid (((K1.out.set1).set1).set1)
  refine (kprog_w _ p F c l { K with named := true } B2.out).mono ?_
  rintro e W3 ⟨rfl, hb3, hk3⟩
  have B3 := Lib.hid hb3
  have K3 : Hid (Keep w.heap.size [p] w W3) := Lib.hid (K2.out.trans (hk3.mono K2.out.size (by simp)))
  clear hb3 hk3
  go_wp2_with fail
  go_ret
  exact ⟨rfl, B3.out, K3.out⟩
set_option maxRecDepth 100000 in
set_option maxHeartbeats 4000000 in
theorem kmd_ff (w : World) (p : Nat) (F : List Int) (c : Nat) (l : Ly) (K : Sk) (lu : Lc) (hgl : K.got.length ≤ 1000) (hgv : Vw w l.W K.got.length 2 (gcs K.got)) (hgc : K.got.length ≤ l.wc) (hlast : lastT K.got ≤ F.length) (hnm : K.named = false) (hfi : K.fin = false) (hb : Blk w p TK (kcs F c l K)) : Calls Try.prog 131 #[ptr p, .agg (pcs (upd F .md) lu)] w fun e w' => e = .returned (.int .i64 0) ∧ Blk w' p TK (kcs F c l { K with named := true, tm := K.now, tr := 0 }) ∧ Keep w.heap.size [p] w w' := by
  have HB := Lib.hid hb
  have HG := Lib.hid hgv
  have hlI : decide ((F.length : Int) < lastT K.got) = false := by simp; omega
  clear hb hgv
  go_enter Try.func131, Try.ntmps131
  go_upto_region 1 with fail
  obtain ⟨W, hW⟩ : ∃ W, W = w.alloc (.cells (pcs (upd F .md) lu) TP) := ⟨_, rfl⟩
  obtain ⟨q, hq⟩ : ∃ q, q = w.heap.size := ⟨_, rfl⟩
  have bq : Blk W q TP (pcs (upd F .md) lu) := by rw [hW, hq]; exact Blk.new _ _ _
  have ka : Keep w.heap.size [] w W := by rw [hW]; exact (Keep.refl _ _ _).alloc (Nat.le_refl _) _
  have hpq : p ≠ q := by have := HB.out.lt; omega
  have hqp : q ≠ p := hpq.symm
  change Code.wp _ _ _ _ (w.alloc (.cells (pcs (upd F .md) lu) TP))
  rw [← hW, ← hq]
  have bp := HB.out.keepS ka (by simp)
  clear hW hq
  have c11 : W.cell? ⟨p, 11, none⟩ = some (.bool false) := by
    have h := bp.cell 11
    rw [h]
    show some (Value.bool K.named) = _
    rw [hnm]
    try rfl
  have c14 : W.cell? ⟨p, 14, none⟩ = some (.bool false) := by
    have h := bp.cell 14
    rw [h]
    show some (Value.bool K.fin) = _
    rw [hfi]
    try rfl
  have z4 : W.cell? ⟨q, 4, none⟩ = some (.string (strOfNums plan)) := bq.cell 4
  have z5 : W.cell? ⟨q, 5, none⟩ = some (.int .i64 F.length) := bq.cell 5
  have VG := Lib.hid (HG.out.keep0 ka)
  have BP := Lib.hid bp
  have BQ := Lib.hid bq
  have KA := Lib.hid ka
  clear bp bq ka
  refine wp_region_held_drew (S := (fun w' => w'.cell? ⟨p, 11, none⟩ = some (.bool false) ∧ w'.cell? ⟨p, 14, none⟩ = some (.bool false) ∧ w'.cell? ⟨q, 4, none⟩ = some (.string (strOfNums plan)) ∧ w'.cell? ⟨q, 5, none⟩ = some (.int .i64 F.length))) (by kernel_rfl) (by exact ⟨c11, c14, z4, z5⟩) (fun hHeld => ?_)
  refine tkH (i := 0) (oi := { dst := some 5, op := Op.move (Operand.tmp 0), type := 79, pos := _, after := _, guard := none }) rfl (by assumption) ?_
  (try simp only [Act.put, List.setIfInBounds_toArray, List.set_cons_zero, List.set_cons_succ])
  refine tkH (i := 1) (oi := { dst := some 6, op := Op.nilCheck (Operand.tmp 5), type := 0, pos := _, after := _, guard := none }) rfl (by assumption) ?_
  (try simp only [Act.put, List.setIfInBounds_toArray, List.set_cons_zero, List.set_cons_succ])
  refine tkH (i := 2) (oi := { dst := some 7, op := Op.fieldAddr 150 (Operand.tmp 6) 8, type := 0, pos := _, after := _, guard := none }) rfl (by assumption) ?_
  (try simp only [Act.put, List.setIfInBounds_toArray, List.set_cons_zero, List.set_cons_succ])
  refine tkH (i := 3) (oi := { dst := some 8, op := Op.load 4 (Operand.tmp 7), type := 4, pos := _, after := _, guard := none }) rfl (by assumption) ?_
  (try simp only [Act.put, List.setIfInBounds_toArray, List.set_cons_zero, List.set_cons_succ])
  refine tkH (i := 4) (oi := { dst := some 9, op := Op.move (Operand.tmp 8), type := 4, pos := _, after := _, guard := none }) rfl (by assumption) ?_
  (try simp only [Act.put, List.setIfInBounds_toArray, List.set_cons_zero, List.set_cons_succ])
  refine skH (i := 5) (oi := { dst := some 10, op := Op.move (Operand.tmp 0), type := 79, pos := _, after := _, guard := some (4, true) }) rfl (by assumption) ?_
  (try simp only [Act.put, List.setIfInBounds_toArray, List.set_cons_zero, List.set_cons_succ])
  refine skH (i := 6) (oi := { dst := some 11, op := Op.nilCheck (Operand.tmp 10), type := 0, pos := _, after := _, guard := some (4, true) }) rfl (by assumption) ?_
  (try simp only [Act.put, List.setIfInBounds_toArray, List.set_cons_zero, List.set_cons_succ])
  refine skH (i := 7) (oi := { dst := some 12, op := Op.fieldAddr 150 (Operand.tmp 11) 9, type := 0, pos := _, after := _, guard := some (4, true) }) rfl (by assumption) ?_
  (try simp only [Act.put, List.setIfInBounds_toArray, List.set_cons_zero, List.set_cons_succ])
  refine skH (i := 8) (oi := { dst := some 13, op := Op.load 9 (Operand.tmp 12), type := 9, pos := _, after := _, guard := some (4, true) }) rfl (by assumption) ?_
  (try simp only [Act.put, List.setIfInBounds_toArray, List.set_cons_zero, List.set_cons_succ])
  refine skH (i := 9) (oi := { dst := some 14, op := Op.fieldAddr 85 (Operand.tmp 3) 3, type := 0, pos := _, after := _, guard := some (4, true) }) rfl (by assumption) ?_
  (try simp only [Act.put, List.setIfInBounds_toArray, List.set_cons_zero, List.set_cons_succ])
  refine skH (i := 10) (oi := { dst := some 15, op := Op.load 9 (Operand.tmp 14), type := 9, pos := _, after := _, guard := some (4, true) }) rfl (by assumption) ?_
  (try simp only [Act.put, List.setIfInBounds_toArray, List.set_cons_zero, List.set_cons_succ])
  refine skH (i := 11) (oi := { dst := some 16, op := Op.binOp BinOp.neq 9 (Operand.tmp 13) (Operand.tmp 15) 9, type := 4, pos := _, after := _, guard := some (4, true) }) rfl (by assumption) ?_
  (try simp only [Act.put, List.setIfInBounds_toArray, List.set_cons_zero, List.set_cons_succ])
  refine skH (i := 12) (oi := { dst := some 17, op := Op.move (Operand.tmp 16), type := 4, pos := _, after := _, guard := some (4, true) }) rfl (by assumption) ?_
  (try simp only [Act.put, List.setIfInBounds_toArray, List.set_cons_zero, List.set_cons_succ])
  refine skH (i := 13) (oi := { dst := some 18, op := Op.move (Operand.tmp 0), type := 79, pos := _, after := _, guard := some (12, false) }) rfl (by assumption) ?_
  (try simp only [Act.put, List.setIfInBounds_toArray, List.set_cons_zero, List.set_cons_succ])
  refine skH (i := 14) (oi := { dst := some 19, op := Op.nilCheck (Operand.tmp 18), type := 0, pos := _, after := _, guard := some (12, false) }) rfl (by assumption) ?_
  (try simp only [Act.put, List.setIfInBounds_toArray, List.set_cons_zero, List.set_cons_succ])
  refine skH (i := 15) (oi := { dst := some 20, op := Op.fieldAddr 150 (Operand.tmp 19) 10, type := 0, pos := _, after := _, guard := some (12, false) }) rfl (by assumption) ?_
  (try simp only [Act.put, List.setIfInBounds_toArray, List.set_cons_zero, List.set_cons_succ])
  refine skH (i := 16) (oi := { dst := some 21, op := Op.load 3 (Operand.tmp 20), type := 3, pos := _, after := _, guard := some (12, false) }) rfl (by assumption) ?_
  (try simp only [Act.put, List.setIfInBounds_toArray, List.set_cons_zero, List.set_cons_succ])
  refine skH (i := 17) (oi := { dst := some 22, op := Op.fieldAddr 85 (Operand.tmp 3) 4, type := 0, pos := _, after := _, guard := some (12, false) }) rfl (by assumption) ?_
  (try simp only [Act.put, List.setIfInBounds_toArray, List.set_cons_zero, List.set_cons_succ])
  refine skH (i := 18) (oi := { dst := some 23, op := Op.load 3 (Operand.tmp 22), type := 3, pos := _, after := _, guard := some (12, false) }) rfl (by assumption) ?_
  (try simp only [Act.put, List.setIfInBounds_toArray, List.set_cons_zero, List.set_cons_succ])
  refine skH (i := 19) (oi := { dst := some 24, op := Op.binOp BinOp.neq 3 (Operand.tmp 21) (Operand.tmp 23) 3, type := 4, pos := _, after := _, guard := some (12, false) }) rfl (by assumption) ?_
  (try simp only [Act.put, List.setIfInBounds_toArray, List.set_cons_zero, List.set_cons_succ])
  refine skH (i := 20) (oi := { dst := some 25, op := Op.pick (Operand.tmp 17) (Operand.const (Value.bool true)) (Operand.tmp 24), type := 4, pos := _, after := _, guard := some (4, true) }) rfl (by assumption) ?_
  (try simp only [Act.put, List.setIfInBounds_toArray, List.set_cons_zero, List.set_cons_succ])
  refine tkH (i := 21) (oi := { dst := some 26, op := Op.pick (Operand.tmp 9) (Operand.tmp 25) (Operand.const (Value.bool false)), type := 4, pos := _, after := _, guard := none }) rfl (by assumption) ?_
  (try simp only [Act.put, List.setIfInBounds_toArray, List.set_cons_zero, List.set_cons_succ])
  refine tkH (i := 22) (oi := { dst := some 27, op := Op.move (Operand.tmp 26), type := 4, pos := _, after := _, guard := none }) rfl (by assumption) ?_
  (try simp only [Act.put, List.setIfInBounds_toArray, List.set_cons_zero, List.set_cons_succ])
  refine tkH (i := 23) (oi := { dst := some 28, op := Op.move (Operand.tmp 0), type := 79, pos := _, after := _, guard := some (22, false) }) rfl (by assumption) ?_
  (try simp only [Act.put, List.setIfInBounds_toArray, List.set_cons_zero, List.set_cons_succ])
  refine tkH (i := 24) (oi := { dst := some 29, op := Op.nilCheck (Operand.tmp 28), type := 0, pos := _, after := _, guard := some (22, false) }) rfl (by assumption) ?_
  (try simp only [Act.put, List.setIfInBounds_toArray, List.set_cons_zero, List.set_cons_succ])
  refine tkH (i := 25) (oi := { dst := some 30, op := Op.fieldAddr 150 (Operand.tmp 29) 11, type := 0, pos := _, after := _, guard := some (22, false) }) rfl (by assumption) ?_
  (try simp only [Act.put, List.setIfInBounds_toArray, List.set_cons_zero, List.set_cons_succ])
  refine tkH (i := 26) (oi := { dst := some 31, op := Op.load 4 (Operand.tmp 30), type := 4, pos := _, after := _, guard := some (22, false) }) rfl (by assumption) ?_
  (try simp only [Act.put, List.setIfInBounds_toArray, List.set_cons_zero, List.set_cons_succ])
  refine tkH (i := 27) (oi := { dst := some 32, op := Op.move (Operand.tmp 31), type := 4, pos := _, after := _, guard := some (22, false) }) rfl (by assumption) ?_
  (try simp only [Act.put, List.setIfInBounds_toArray, List.set_cons_zero, List.set_cons_succ])
  refine skH (i := 28) (oi := { dst := some 33, op := Op.move (Operand.tmp 0), type := 79, pos := _, after := _, guard := some (27, true) }) rfl (by assumption) ?_
  (try simp only [Act.put, List.setIfInBounds_toArray, List.set_cons_zero, List.set_cons_succ])
  refine skH (i := 29) (oi := { dst := some 34, op := Op.nilCheck (Operand.tmp 33), type := 0, pos := _, after := _, guard := some (27, true) }) rfl (by assumption) ?_
  (try simp only [Act.put, List.setIfInBounds_toArray, List.set_cons_zero, List.set_cons_succ])
  refine skH (i := 30) (oi := { dst := some 35, op := Op.fieldAddr 150 (Operand.tmp 34) 12, type := 0, pos := _, after := _, guard := some (27, true) }) rfl (by assumption) ?_
  (try simp only [Act.put, List.setIfInBounds_toArray, List.set_cons_zero, List.set_cons_succ])
  refine skH (i := 31) (oi := { dst := some 36, op := Op.load 3 (Operand.tmp 35), type := 3, pos := _, after := _, guard := some (27, true) }) rfl (by assumption) ?_
  (try simp only [Act.put, List.setIfInBounds_toArray, List.set_cons_zero, List.set_cons_succ])
  refine skH (i := 32) (oi := { dst := some 37, op := Op.fieldAddr 85 (Operand.tmp 3) 4, type := 0, pos := _, after := _, guard := some (27, true) }) rfl (by assumption) ?_
  (try simp only [Act.put, List.setIfInBounds_toArray, List.set_cons_zero, List.set_cons_succ])
  refine skH (i := 33) (oi := { dst := some 38, op := Op.load 3 (Operand.tmp 37), type := 3, pos := _, after := _, guard := some (27, true) }) rfl (by assumption) ?_
  (try simp only [Act.put, List.setIfInBounds_toArray, List.set_cons_zero, List.set_cons_succ])
  refine skH (i := 34) (oi := { dst := some 39, op := Op.binOp BinOp.neq 3 (Operand.tmp 36) (Operand.tmp 38) 3, type := 4, pos := _, after := _, guard := some (27, true) }) rfl (by assumption) ?_
  (try simp only [Act.put, List.setIfInBounds_toArray, List.set_cons_zero, List.set_cons_succ])
  refine tkH (i := 35) (oi := { dst := some 40, op := Op.pick (Operand.tmp 32) (Operand.tmp 39) (Operand.const (Value.bool false)), type := 4, pos := _, after := _, guard := some (22, false) }) rfl (by assumption) ?_
  (try simp only [Act.put, List.setIfInBounds_toArray, List.set_cons_zero, List.set_cons_succ])
  refine tkH (i := 36) (oi := { dst := some 41, op := Op.pick (Operand.tmp 27) (Operand.const (Value.bool true)) (Operand.tmp 40), type := 4, pos := _, after := _, guard := none }) rfl (by assumption) ?_
  (try simp only [Act.put, List.setIfInBounds_toArray, List.set_cons_zero, List.set_cons_succ])
  refine tkH (i := 37) (oi := { dst := some 42, op := Op.move (Operand.tmp 41), type := 4, pos := _, after := _, guard := none }) rfl (by assumption) ?_
  (try simp only [Act.put, List.setIfInBounds_toArray, List.set_cons_zero, List.set_cons_succ])
  refine tkH (i := 38) (oi := { dst := some 43, op := Op.move (Operand.tmp 0), type := 79, pos := _, after := _, guard := some (37, false) }) rfl (by assumption) ?_
  (try simp only [Act.put, List.setIfInBounds_toArray, List.set_cons_zero, List.set_cons_succ])
  refine tkH (i := 40) (oi := { dst := some 45, op := Op.fieldAddr 85 (Operand.tmp 3) 4, type := 0, pos := _, after := _, guard := some (37, false) }) rfl (by assumption) ?_
  (try simp only [Act.put, List.setIfInBounds_toArray, List.set_cons_zero, List.set_cons_succ])
  refine tkH (i := 41) (oi := { dst := some 46, op := Op.load 3 (Operand.tmp 45), type := 3, pos := _, after := _, guard := some (37, false) }) rfl (by assumption) ?_
  (try simp only [Act.put, List.setIfInBounds_toArray, List.set_cons_zero, List.set_cons_succ])
  refine wpAnyH_ready (rs := [39]) (by kernel_rfl) (by simp) ?_
  refine (AllReadyH.cons (o := { dst := some 44, op := Op.call { callee := Callee.value (Operand.func 101), args := #[Operand.tmp 43], argTypes := #[79] }, type := 3, pos := _, after := _, guard := some (37, false) }) rfl (fun KQ hK => ?_) AllReadyH.nil)
  go_simp
  refine (klast_w _ p F c l _ hgl (by exact VG.out.drew) hgc (by exact BP.out.drew)).mono ?_
  rintro e W1 ⟨rfl, hk1⟩
  have b1 := BP.out.drew.keepS hk1 (by simp)
  have bq1 := BQ.out.drew.keepS hk1 (by simp)
  have K1 : Hid (Keep w.heap.size [p] w W1) := Lib.hid ((KA.out.drew.mono (S' := [p]) (Nat.le_refl _) (by simp)).trans (hk1.mono KA.out.size (by simp)))
  have y11 : W1.cell? ⟨p, 11, none⟩ = some (.bool false) := by
    have h := b1.cell 11
    rw [h]
    show some (Value.bool K.named) = _
    rw [hnm]
    try rfl
  have y14 : W1.cell? ⟨p, 14, none⟩ = some (.bool false) := by
    have h := b1.cell 14
    rw [h]
    show some (Value.bool K.fin) = _
    rw [hfi]
    try rfl
  have B1 := Lib.hid b1
  have BQ1 := Lib.hid bq1
  have yy : (fun w' => w'.cell? ⟨p, 11, none⟩ = some (.bool false) ∧ w'.cell? ⟨p, 14, none⟩ = some (.bool false) ∧ w'.cell? ⟨q, 4, none⟩ = some (.string (strOfNums plan)) ∧ w'.cell? ⟨q, 5, none⟩ = some (.int .i64 F.length)) W1 := ⟨y11, y14, BQ1.out.cell 4, BQ1.out.cell 5⟩
  clear hk1 b1 bq1 c11 c14 z4 z5
  refine hK.out _ _ (by exact yy) (fun hHeld => ?_)
  clear hK KQ
  (try simp only [Act.put, List.setIfInBounds_toArray, List.set_cons_zero, List.set_cons_succ])
  refine tkH (i := 42) (oi := { dst := some 47, op := Op.binOp BinOp.gtr 3 (Operand.tmp 44) (Operand.tmp 46) 3, type := 4, pos := _, after := _, guard := some (37, false) }) rfl (by assumption) ?_
  (try simp only [Act.put, List.setIfInBounds_toArray, List.set_cons_zero, List.set_cons_succ])
  refine tkH (i := 43) (oi := { dst := some 48, op := Op.pick (Operand.tmp 42) (Operand.const (Value.bool true)) (Operand.tmp 47), type := 4, pos := _, after := _, guard := none }) rfl (by assumption) ?_
  (try simp only [Act.put, List.setIfInBounds_toArray, List.set_cons_zero, List.set_cons_succ])
  refine wpAnyH_done (by kernel_rfl) ?_ _
  have y4 : W1.cell? ⟨q, 4, none⟩ = some (.string (strOfNums plan)) := BQ1.out.cell 4
  have y5 : W1.cell? ⟨q, 5, none⟩ = some (.int .i64 F.length) := BQ1.out.cell 5
  have x12 : W1.cell? ⟨p, 12, none⟩ = some (.string (nmV K.named)) := B1.out.cell 12
  have x13 : W1.cell? ⟨p, 13, none⟩ = some (.int .i64 (szV F K.named)) := B1.out.cell 13
  have fx11 := B1.out.frozen 11
  have fx12 := B1.out.frozen 12
  have fx13 := B1.out.frozen 13
  go_wp2_with fail
  have B2 : Hid (Blk (((W1.setCell ⟨p, 11, none⟩ (.bool true)).setCell ⟨p, 12, none⟩ (.string (strOfNums plan))).setCell ⟨p, 13, none⟩ (.int .i64 F.length)) p TK (kcs F c l { K with named := true })) := Lib.hid (((B1.out.set_ 11 _).set_ 12 _).set_ 13 _)
  have K2 : Hid (Keep w.heap.size [p] w (((W1.setCell ⟨p, 11, none⟩ (.bool true)).setCell ⟨p, 12, none⟩ (.string (strOfNums plan))).setCell ⟨p, 13, none⟩ (.int .i64 F.length))) := Lib.hid (((K1.out.set1).set1).set1)
  refine (kprog_w _ p F c l { K with named := true } B2.out).mono ?_
  rintro e W3 ⟨rfl, hb3, hk3⟩
  have B3 := Lib.hid hb3
  have K3 : Hid (Keep w.heap.size [p] w W3) := Lib.hid (K2.out.trans (hk3.mono K2.out.size (by simp)))
  clear hb3 hk3
  go_wp2_with fail
  go_ret
  exact ⟨rfl, B3.out, K3.out⟩
set_option maxRecDepth 100000 in
set_option maxHeartbeats 4000000 in
theorem kef_tt (w : World) (p : Nat) (F : List Int) (c : Nat) (l : Ly) (K : Sk) (lu : Lc) (hgl : K.got.length ≤ 1000) (hgv : Vw w l.W K.got.length 2 (gcs K.got)) (hgc : K.got.length ≤ l.wc) (hlast : lastT K.got ≤ F.length) (hnm : K.named = true) (hfi : K.fin = true) (hb : Blk w p TK (kcs F c l K)) : Calls Try.prog 133 #[ptr p, .agg (pcs (upd F .ef) lu)] w fun e w' => e = .returned (.int .i64 0) ∧ Blk w' p TK (kcs F c l K) ∧ Keep w.heap.size [p] w w' := by
  have HB := Lib.hid hb
  have HG := Lib.hid hgv
  have hlI : decide ((F.length : Int) < lastT K.got) = false := by simp; omega
  clear hb hgv
  go_enter Try.func133, Try.ntmps133
  go_upto_region 1 with fail
  obtain ⟨W, hW⟩ : ∃ W, W = w.alloc (.cells (pcs (upd F .ef) lu) TP) := ⟨_, rfl⟩
  obtain ⟨q, hq⟩ : ∃ q, q = w.heap.size := ⟨_, rfl⟩
  have bq : Blk W q TP (pcs (upd F .ef) lu) := by rw [hW, hq]; exact Blk.new _ _ _
  have ka : Keep w.heap.size [] w W := by rw [hW]; exact (Keep.refl _ _ _).alloc (Nat.le_refl _) _
  have hpq : p ≠ q := by have := HB.out.lt; omega
  have hqp : q ≠ p := hpq.symm
  change Code.wp _ _ _ _ (w.alloc (.cells (pcs (upd F .ef) lu) TP))
  rw [← hW, ← hq]
  have bp := HB.out.keepS ka (by simp)
  clear hW hq
  have c14 : W.cell? ⟨p, 14, none⟩ = some (.bool true) := by
    have h := bp.cell 14
    rw [h]
    show some (Value.bool K.fin) = _
    rw [hfi]
    try rfl
  have c15 : W.cell? ⟨p, 15, none⟩ = some (.int .i64 F.length) := by
    have h := bp.cell 15
    rw [h]
    show some (Value.int .i64 (szV F K.fin)) = _
    rw [hfi]
    try rfl
  have c16 : W.cell? ⟨p, 16, none⟩ = some (.int .u32 (sumO F)) := by
    have h := bp.cell 16
    rw [h]
    show some (Value.int .u32 (smV F K.fin)) = _
    rw [hfi]
    try rfl
  have c11 : W.cell? ⟨p, 11, none⟩ = some (.bool true) := by
    have h := bp.cell 11
    rw [h]
    show some (Value.bool K.named) = _
    rw [hnm]
    try rfl
  have c13 : W.cell? ⟨p, 13, none⟩ = some (.int .i64 F.length) := by
    have h := bp.cell 13
    rw [h]
    show some (Value.int .i64 (szV F K.named)) = _
    rw [hnm]
    try rfl
  have z5 : W.cell? ⟨q, 5, none⟩ = some (.int .i64 F.length) := bq.cell 5
  have z8 : W.cell? ⟨q, 8, none⟩ = some (.int .u32 (sumO F)) := bq.cell 8
  have z9 : W.cell? ⟨q, 9, none⟩ = some (.int .i64 0) := bq.cell 9
  have VG := Lib.hid (HG.out.keep0 ka)
  have BP := Lib.hid bp
  have BQ := Lib.hid bq
  have KA := Lib.hid ka
  clear bp bq ka
  go_upto_region 7 with fail
  refine wp_region_held_drew (S := (fun w' => w'.cell? ⟨p, 14, none⟩ = some (.bool true) ∧ w'.cell? ⟨p, 15, none⟩ = some (.int .i64 F.length) ∧ w'.cell? ⟨p, 16, none⟩ = some (.int .u32 (sumO F)) ∧ w'.cell? ⟨p, 11, none⟩ = some (.bool true) ∧ w'.cell? ⟨p, 13, none⟩ = some (.int .i64 F.length) ∧ w'.cell? ⟨q, 5, none⟩ = some (.int .i64 F.length) ∧ w'.cell? ⟨q, 8, none⟩ = some (.int .u32 (sumO F)))) (by kernel_rfl) (by exact ⟨c14, c15, c16, c11, c13, z5, z8⟩) (fun hHeld => ?_)
  refine tkH (i := 0) (oi := { dst := some 20, op := Op.move (Operand.tmp 0), type := 79, pos := _, after := _, guard := none }) rfl (by assumption) ?_
  (try simp only [Act.put, List.setIfInBounds_toArray, List.set_cons_zero, List.set_cons_succ])
  refine tkH (i := 1) (oi := { dst := some 21, op := Op.nilCheck (Operand.tmp 20), type := 0, pos := _, after := _, guard := none }) rfl (by assumption) ?_
  (try simp only [Act.put, List.setIfInBounds_toArray, List.set_cons_zero, List.set_cons_succ])
  refine tkH (i := 2) (oi := { dst := some 22, op := Op.fieldAddr 150 (Operand.tmp 21) 11, type := 0, pos := _, after := _, guard := none }) rfl (by assumption) ?_
  (try simp only [Act.put, List.setIfInBounds_toArray, List.set_cons_zero, List.set_cons_succ])
  refine tkH (i := 3) (oi := { dst := some 23, op := Op.load 4 (Operand.tmp 22), type := 4, pos := _, after := _, guard := none }) rfl (by assumption) ?_
  (try simp only [Act.put, List.setIfInBounds_toArray, List.set_cons_zero, List.set_cons_succ])
  refine tkH (i := 4) (oi := { dst := some 24, op := Op.move (Operand.tmp 23), type := 4, pos := _, after := _, guard := none }) rfl (by assumption) ?_
  (try simp only [Act.put, List.setIfInBounds_toArray, List.set_cons_zero, List.set_cons_succ])
  refine tkH (i := 5) (oi := { dst := some 25, op := Op.move (Operand.tmp 0), type := 79, pos := _, after := _, guard := some (4, true) }) rfl (by assumption) ?_
  (try simp only [Act.put, List.setIfInBounds_toArray, List.set_cons_zero, List.set_cons_succ])
  refine tkH (i := 6) (oi := { dst := some 26, op := Op.nilCheck (Operand.tmp 25), type := 0, pos := _, after := _, guard := some (4, true) }) rfl (by assumption) ?_
  (try simp only [Act.put, List.setIfInBounds_toArray, List.set_cons_zero, List.set_cons_succ])
  refine tkH (i := 7) (oi := { dst := some 27, op := Op.fieldAddr 150 (Operand.tmp 26) 12, type := 0, pos := _, after := _, guard := some (4, true) }) rfl (by assumption) ?_
  (try simp only [Act.put, List.setIfInBounds_toArray, List.set_cons_zero, List.set_cons_succ])
  refine tkH (i := 8) (oi := { dst := some 28, op := Op.load 3 (Operand.tmp 27), type := 3, pos := _, after := _, guard := some (4, true) }) rfl (by assumption) ?_
  (try simp only [Act.put, List.setIfInBounds_toArray, List.set_cons_zero, List.set_cons_succ])
  refine tkH (i := 9) (oi := { dst := some 29, op := Op.fieldAddr 85 (Operand.tmp 3) 4, type := 0, pos := _, after := _, guard := some (4, true) }) rfl (by assumption) ?_
  (try simp only [Act.put, List.setIfInBounds_toArray, List.set_cons_zero, List.set_cons_succ])
  refine tkH (i := 10) (oi := { dst := some 30, op := Op.load 3 (Operand.tmp 29), type := 3, pos := _, after := _, guard := some (4, true) }) rfl (by assumption) ?_
  (try simp only [Act.put, List.setIfInBounds_toArray, List.set_cons_zero, List.set_cons_succ])
  refine tkH (i := 11) (oi := { dst := some 31, op := Op.binOp BinOp.neq 3 (Operand.tmp 28) (Operand.tmp 30) 3, type := 4, pos := _, after := _, guard := some (4, true) }) rfl (by assumption) ?_
  (try simp only [Act.put, List.setIfInBounds_toArray, List.set_cons_zero, List.set_cons_succ])
  refine tkH (i := 12) (oi := { dst := some 32, op := Op.move (Operand.tmp 31), type := 4, pos := _, after := _, guard := some (4, true) }) rfl (by assumption) ?_
  (try simp only [Act.put, List.setIfInBounds_toArray, List.set_cons_zero, List.set_cons_succ])
  refine tkH (i := 13) (oi := { dst := some 33, op := Op.move (Operand.tmp 0), type := 79, pos := _, after := _, guard := some (12, false) }) rfl (by assumption) ?_
  (try simp only [Act.put, List.setIfInBounds_toArray, List.set_cons_zero, List.set_cons_succ])
  refine tkH (i := 14) (oi := { dst := some 34, op := Op.nilCheck (Operand.tmp 33), type := 0, pos := _, after := _, guard := some (12, false) }) rfl (by assumption) ?_
  (try simp only [Act.put, List.setIfInBounds_toArray, List.set_cons_zero, List.set_cons_succ])
  refine tkH (i := 15) (oi := { dst := some 35, op := Op.fieldAddr 150 (Operand.tmp 34) 13, type := 0, pos := _, after := _, guard := some (12, false) }) rfl (by assumption) ?_
  (try simp only [Act.put, List.setIfInBounds_toArray, List.set_cons_zero, List.set_cons_succ])
  refine tkH (i := 16) (oi := { dst := some 36, op := Op.load 82 (Operand.tmp 35), type := 82, pos := _, after := _, guard := some (12, false) }) rfl (by assumption) ?_
  (try simp only [Act.put, List.setIfInBounds_toArray, List.set_cons_zero, List.set_cons_succ])
  refine tkH (i := 17) (oi := { dst := some 37, op := Op.fieldAddr 85 (Operand.tmp 3) 7, type := 0, pos := _, after := _, guard := some (12, false) }) rfl (by assumption) ?_
  (try simp only [Act.put, List.setIfInBounds_toArray, List.set_cons_zero, List.set_cons_succ])
  refine tkH (i := 18) (oi := { dst := some 38, op := Op.load 82 (Operand.tmp 37), type := 82, pos := _, after := _, guard := some (12, false) }) rfl (by assumption) ?_
  (try simp only [Act.put, List.setIfInBounds_toArray, List.set_cons_zero, List.set_cons_succ])
  refine tkH (i := 19) (oi := { dst := some 39, op := Op.binOp BinOp.neq 82 (Operand.tmp 36) (Operand.tmp 38) 82, type := 4, pos := _, after := _, guard := some (12, false) }) rfl (by assumption) ?_
  (try simp only [Act.put, List.setIfInBounds_toArray, List.set_cons_zero, List.set_cons_succ])
  refine tkH (i := 20) (oi := { dst := some 40, op := Op.pick (Operand.tmp 32) (Operand.const (Value.bool true)) (Operand.tmp 39), type := 4, pos := _, after := _, guard := some (4, true) }) rfl (by assumption) ?_
  (try simp only [Act.put, List.setIfInBounds_toArray, List.set_cons_zero, List.set_cons_succ])
  refine tkH (i := 21) (oi := { dst := some 41, op := Op.pick (Operand.tmp 24) (Operand.tmp 40) (Operand.const (Value.bool false)), type := 4, pos := _, after := _, guard := none }) rfl (by assumption) ?_
  (try simp only [Act.put, List.setIfInBounds_toArray, List.set_cons_zero, List.set_cons_succ])
  refine tkH (i := 22) (oi := { dst := some 42, op := Op.move (Operand.tmp 41), type := 4, pos := _, after := _, guard := none }) rfl (by assumption) ?_
  (try simp only [Act.put, List.setIfInBounds_toArray, List.set_cons_zero, List.set_cons_succ])
  refine tkH (i := 23) (oi := { dst := some 43, op := Op.move (Operand.tmp 0), type := 79, pos := _, after := _, guard := some (22, false) }) rfl (by assumption) ?_
  (try simp only [Act.put, List.setIfInBounds_toArray, List.set_cons_zero, List.set_cons_succ])
  refine tkH (i := 24) (oi := { dst := some 44, op := Op.nilCheck (Operand.tmp 43), type := 0, pos := _, after := _, guard := some (22, false) }) rfl (by assumption) ?_
  (try simp only [Act.put, List.setIfInBounds_toArray, List.set_cons_zero, List.set_cons_succ])
  refine tkH (i := 25) (oi := { dst := some 45, op := Op.fieldAddr 150 (Operand.tmp 44) 8, type := 0, pos := _, after := _, guard := some (22, false) }) rfl (by assumption) ?_
  (try simp only [Act.put, List.setIfInBounds_toArray, List.set_cons_zero, List.set_cons_succ])
  refine tkH (i := 26) (oi := { dst := some 46, op := Op.load 4 (Operand.tmp 45), type := 4, pos := _, after := _, guard := some (22, false) }) rfl (by assumption) ?_
  (try simp only [Act.put, List.setIfInBounds_toArray, List.set_cons_zero, List.set_cons_succ])
  refine tkH (i := 27) (oi := { dst := some 47, op := Op.move (Operand.tmp 46), type := 4, pos := _, after := _, guard := some (22, false) }) rfl (by assumption) ?_
  (try simp only [Act.put, List.setIfInBounds_toArray, List.set_cons_zero, List.set_cons_succ])
  refine tkH (i := 28) (oi := { dst := some 48, op := Op.move (Operand.tmp 0), type := 79, pos := _, after := _, guard := some (27, true) }) rfl (by assumption) ?_
  (try simp only [Act.put, List.setIfInBounds_toArray, List.set_cons_zero, List.set_cons_succ])
  refine tkH (i := 29) (oi := { dst := some 49, op := Op.nilCheck (Operand.tmp 48), type := 0, pos := _, after := _, guard := some (27, true) }) rfl (by assumption) ?_
  (try simp only [Act.put, List.setIfInBounds_toArray, List.set_cons_zero, List.set_cons_succ])
  refine tkH (i := 30) (oi := { dst := some 50, op := Op.fieldAddr 150 (Operand.tmp 49) 10, type := 0, pos := _, after := _, guard := some (27, true) }) rfl (by assumption) ?_
  (try simp only [Act.put, List.setIfInBounds_toArray, List.set_cons_zero, List.set_cons_succ])
  refine tkH (i := 31) (oi := { dst := some 51, op := Op.load 3 (Operand.tmp 50), type := 3, pos := _, after := _, guard := some (27, true) }) rfl (by assumption) ?_
  (try simp only [Act.put, List.setIfInBounds_toArray, List.set_cons_zero, List.set_cons_succ])
  refine tkH (i := 32) (oi := { dst := some 52, op := Op.fieldAddr 85 (Operand.tmp 3) 4, type := 0, pos := _, after := _, guard := some (27, true) }) rfl (by assumption) ?_
  (try simp only [Act.put, List.setIfInBounds_toArray, List.set_cons_zero, List.set_cons_succ])
  refine tkH (i := 33) (oi := { dst := some 53, op := Op.load 3 (Operand.tmp 52), type := 3, pos := _, after := _, guard := some (27, true) }) rfl (by assumption) ?_
  (try simp only [Act.put, List.setIfInBounds_toArray, List.set_cons_zero, List.set_cons_succ])
  refine tkH (i := 34) (oi := { dst := some 54, op := Op.binOp BinOp.neq 3 (Operand.tmp 51) (Operand.tmp 53) 3, type := 4, pos := _, after := _, guard := some (27, true) }) rfl (by assumption) ?_
  (try simp only [Act.put, List.setIfInBounds_toArray, List.set_cons_zero, List.set_cons_succ])
  refine tkH (i := 35) (oi := { dst := some 55, op := Op.pick (Operand.tmp 47) (Operand.tmp 54) (Operand.const (Value.bool false)), type := 4, pos := _, after := _, guard := some (22, false) }) rfl (by assumption) ?_
  (try simp only [Act.put, List.setIfInBounds_toArray, List.set_cons_zero, List.set_cons_succ])
  refine tkH (i := 36) (oi := { dst := some 56, op := Op.pick (Operand.tmp 42) (Operand.const (Value.bool true)) (Operand.tmp 55), type := 4, pos := _, after := _, guard := none }) rfl (by assumption) ?_
  (try simp only [Act.put, List.setIfInBounds_toArray, List.set_cons_zero, List.set_cons_succ])
  refine tkH (i := 37) (oi := { dst := some 57, op := Op.move (Operand.tmp 56), type := 4, pos := _, after := _, guard := none }) rfl (by assumption) ?_
  (try simp only [Act.put, List.setIfInBounds_toArray, List.set_cons_zero, List.set_cons_succ])
  refine tkH (i := 38) (oi := { dst := some 58, op := Op.move (Operand.tmp 0), type := 79, pos := _, after := _, guard := some (37, false) }) rfl (by assumption) ?_
  (try simp only [Act.put, List.setIfInBounds_toArray, List.set_cons_zero, List.set_cons_succ])
  refine tkH (i := 40) (oi := { dst := some 60, op := Op.fieldAddr 85 (Operand.tmp 3) 4, type := 0, pos := _, after := _, guard := some (37, false) }) rfl (by assumption) ?_
  (try simp only [Act.put, List.setIfInBounds_toArray, List.set_cons_zero, List.set_cons_succ])
  refine tkH (i := 41) (oi := { dst := some 61, op := Op.load 3 (Operand.tmp 60), type := 3, pos := _, after := _, guard := some (37, false) }) rfl (by assumption) ?_
  (try simp only [Act.put, List.setIfInBounds_toArray, List.set_cons_zero, List.set_cons_succ])
  refine wpAnyH_ready (rs := [39]) (by kernel_rfl) (by simp) ?_
  refine (AllReadyH.cons (o := { dst := some 59, op := Op.call { callee := Callee.value (Operand.func 101), args := #[Operand.tmp 58], argTypes := #[79] }, type := 3, pos := _, after := _, guard := some (37, false) }) rfl (fun KQ hK => ?_) AllReadyH.nil)
  go_simp
  refine (klast_w _ p F c l _ hgl (by exact VG.out.drew) hgc (by exact BP.out.drew)).mono ?_
  rintro e W1 ⟨rfl, hk1⟩
  have b1 := BP.out.drew.keepS hk1 (by simp)
  have bq1 := BQ.out.drew.keepS hk1 (by simp)
  have K1 : Hid (Keep w.heap.size [p] w W1) := Lib.hid ((KA.out.drew.mono (S' := [p]) (Nat.le_refl _) (by simp)).trans (hk1.mono KA.out.size (by simp)))
  have y14 : W1.cell? ⟨p, 14, none⟩ = some (.bool true) := by
    have h := b1.cell 14
    rw [h]
    show some (Value.bool K.fin) = _
    rw [hfi]
    try rfl
  have y15 : W1.cell? ⟨p, 15, none⟩ = some (.int .i64 F.length) := by
    have h := b1.cell 15
    rw [h]
    show some (Value.int .i64 (szV F K.fin)) = _
    rw [hfi]
    try rfl
  have y16 : W1.cell? ⟨p, 16, none⟩ = some (.int .u32 (sumO F)) := by
    have h := b1.cell 16
    rw [h]
    show some (Value.int .u32 (smV F K.fin)) = _
    rw [hfi]
    try rfl
  have y11 : W1.cell? ⟨p, 11, none⟩ = some (.bool true) := by
    have h := b1.cell 11
    rw [h]
    show some (Value.bool K.named) = _
    rw [hnm]
    try rfl
  have y13 : W1.cell? ⟨p, 13, none⟩ = some (.int .i64 F.length) := by
    have h := b1.cell 13
    rw [h]
    show some (Value.int .i64 (szV F K.named)) = _
    rw [hnm]
    try rfl
  have B1 := Lib.hid b1
  have BQ1 := Lib.hid bq1
  have yy : (fun w' => w'.cell? ⟨p, 14, none⟩ = some (.bool true) ∧ w'.cell? ⟨p, 15, none⟩ = some (.int .i64 F.length) ∧ w'.cell? ⟨p, 16, none⟩ = some (.int .u32 (sumO F)) ∧ w'.cell? ⟨p, 11, none⟩ = some (.bool true) ∧ w'.cell? ⟨p, 13, none⟩ = some (.int .i64 F.length) ∧ w'.cell? ⟨q, 5, none⟩ = some (.int .i64 F.length) ∧ w'.cell? ⟨q, 8, none⟩ = some (.int .u32 (sumO F))) W1 := ⟨y14, y15, y16, y11, y13, BQ1.out.cell 5, BQ1.out.cell 8⟩
  clear hk1 b1 bq1 c14 c15 c16 c11 c13 z5 z8 z9
  refine hK.out _ _ (by exact yy) (fun hHeld => ?_)
  clear hK KQ
  (try simp only [Act.put, List.setIfInBounds_toArray, List.set_cons_zero, List.set_cons_succ])
  refine tkH (i := 42) (oi := { dst := some 62, op := Op.binOp BinOp.gtr 3 (Operand.tmp 59) (Operand.tmp 61) 3, type := 4, pos := _, after := _, guard := some (37, false) }) rfl (by assumption) ?_
  (try simp only [Act.put, List.setIfInBounds_toArray, List.set_cons_zero, List.set_cons_succ])
  refine tkH (i := 43) (oi := { dst := some 63, op := Op.pick (Operand.tmp 57) (Operand.const (Value.bool true)) (Operand.tmp 62), type := 4, pos := _, after := _, guard := none }) rfl (by assumption) ?_
  (try simp only [Act.put, List.setIfInBounds_toArray, List.set_cons_zero, List.set_cons_succ])
  refine wpAnyH_done (by kernel_rfl) ?_ _
  go_wp2_with fail
  go_ret
  exact ⟨rfl, B1.out, K1.out⟩
set_option maxRecDepth 100000 in
set_option maxHeartbeats 4000000 in
theorem kef_ft (w : World) (p : Nat) (F : List Int) (c : Nat) (l : Ly) (K : Sk) (lu : Lc) (hgl : K.got.length ≤ 1000) (hgv : Vw w l.W K.got.length 2 (gcs K.got)) (hgc : K.got.length ≤ l.wc) (hlast : lastT K.got ≤ F.length) (hnm : K.named = false) (hfi : K.fin = true) (hb : Blk w p TK (kcs F c l K)) : Calls Try.prog 133 #[ptr p, .agg (pcs (upd F .ef) lu)] w fun e w' => e = .returned (.int .i64 0) ∧ Blk w' p TK (kcs F c l K) ∧ Keep w.heap.size [p] w w' := by
  have HB := Lib.hid hb
  have HG := Lib.hid hgv
  have hlI : decide ((F.length : Int) < lastT K.got) = false := by simp; omega
  clear hb hgv
  go_enter Try.func133, Try.ntmps133
  go_upto_region 1 with fail
  obtain ⟨W, hW⟩ : ∃ W, W = w.alloc (.cells (pcs (upd F .ef) lu) TP) := ⟨_, rfl⟩
  obtain ⟨q, hq⟩ : ∃ q, q = w.heap.size := ⟨_, rfl⟩
  have bq : Blk W q TP (pcs (upd F .ef) lu) := by rw [hW, hq]; exact Blk.new _ _ _
  have ka : Keep w.heap.size [] w W := by rw [hW]; exact (Keep.refl _ _ _).alloc (Nat.le_refl _) _
  have hpq : p ≠ q := by have := HB.out.lt; omega
  have hqp : q ≠ p := hpq.symm
  change Code.wp _ _ _ _ (w.alloc (.cells (pcs (upd F .ef) lu) TP))
  rw [← hW, ← hq]
  have bp := HB.out.keepS ka (by simp)
  clear hW hq
  have c14 : W.cell? ⟨p, 14, none⟩ = some (.bool true) := by
    have h := bp.cell 14
    rw [h]
    show some (Value.bool K.fin) = _
    rw [hfi]
    try rfl
  have c15 : W.cell? ⟨p, 15, none⟩ = some (.int .i64 F.length) := by
    have h := bp.cell 15
    rw [h]
    show some (Value.int .i64 (szV F K.fin)) = _
    rw [hfi]
    try rfl
  have c16 : W.cell? ⟨p, 16, none⟩ = some (.int .u32 (sumO F)) := by
    have h := bp.cell 16
    rw [h]
    show some (Value.int .u32 (smV F K.fin)) = _
    rw [hfi]
    try rfl
  have c11 : W.cell? ⟨p, 11, none⟩ = some (.bool false) := by
    have h := bp.cell 11
    rw [h]
    show some (Value.bool K.named) = _
    rw [hnm]
    try rfl
  have z5 : W.cell? ⟨q, 5, none⟩ = some (.int .i64 F.length) := bq.cell 5
  have z8 : W.cell? ⟨q, 8, none⟩ = some (.int .u32 (sumO F)) := bq.cell 8
  have z9 : W.cell? ⟨q, 9, none⟩ = some (.int .i64 0) := bq.cell 9
  have VG := Lib.hid (HG.out.keep0 ka)
  have BP := Lib.hid bp
  have BQ := Lib.hid bq
  have KA := Lib.hid ka
  clear bp bq ka
  go_upto_region 7 with fail
  refine wp_region_held_drew (S := (fun w' => w'.cell? ⟨p, 14, none⟩ = some (.bool true) ∧ w'.cell? ⟨p, 15, none⟩ = some (.int .i64 F.length) ∧ w'.cell? ⟨p, 16, none⟩ = some (.int .u32 (sumO F)) ∧ w'.cell? ⟨p, 11, none⟩ = some (.bool false) ∧ w'.cell? ⟨q, 5, none⟩ = some (.int .i64 F.length) ∧ w'.cell? ⟨q, 8, none⟩ = some (.int .u32 (sumO F)))) (by kernel_rfl) (by exact ⟨c14, c15, c16, c11, z5, z8⟩) (fun hHeld => ?_)
  refine tkH (i := 0) (oi := { dst := some 20, op := Op.move (Operand.tmp 0), type := 79, pos := _, after := _, guard := none }) rfl (by assumption) ?_
  (try simp only [Act.put, List.setIfInBounds_toArray, List.set_cons_zero, List.set_cons_succ])
  refine tkH (i := 1) (oi := { dst := some 21, op := Op.nilCheck (Operand.tmp 20), type := 0, pos := _, after := _, guard := none }) rfl (by assumption) ?_
  (try simp only [Act.put, List.setIfInBounds_toArray, List.set_cons_zero, List.set_cons_succ])
  refine tkH (i := 2) (oi := { dst := some 22, op := Op.fieldAddr 150 (Operand.tmp 21) 11, type := 0, pos := _, after := _, guard := none }) rfl (by assumption) ?_
  (try simp only [Act.put, List.setIfInBounds_toArray, List.set_cons_zero, List.set_cons_succ])
  refine tkH (i := 3) (oi := { dst := some 23, op := Op.load 4 (Operand.tmp 22), type := 4, pos := _, after := _, guard := none }) rfl (by assumption) ?_
  (try simp only [Act.put, List.setIfInBounds_toArray, List.set_cons_zero, List.set_cons_succ])
  refine tkH (i := 4) (oi := { dst := some 24, op := Op.move (Operand.tmp 23), type := 4, pos := _, after := _, guard := none }) rfl (by assumption) ?_
  (try simp only [Act.put, List.setIfInBounds_toArray, List.set_cons_zero, List.set_cons_succ])
  refine tkH (i := 5) (oi := { dst := some 25, op := Op.move (Operand.tmp 0), type := 79, pos := _, after := _, guard := some (4, true) }) rfl (by assumption) ?_
  (try simp only [Act.put, List.setIfInBounds_toArray, List.set_cons_zero, List.set_cons_succ])
  refine tkH (i := 6) (oi := { dst := some 26, op := Op.nilCheck (Operand.tmp 25), type := 0, pos := _, after := _, guard := some (4, true) }) rfl (by assumption) ?_
  (try simp only [Act.put, List.setIfInBounds_toArray, List.set_cons_zero, List.set_cons_succ])
  refine tkH (i := 7) (oi := { dst := some 27, op := Op.fieldAddr 150 (Operand.tmp 26) 12, type := 0, pos := _, after := _, guard := some (4, true) }) rfl (by assumption) ?_
  (try simp only [Act.put, List.setIfInBounds_toArray, List.set_cons_zero, List.set_cons_succ])
  refine tkH (i := 8) (oi := { dst := some 28, op := Op.load 3 (Operand.tmp 27), type := 3, pos := _, after := _, guard := some (4, true) }) rfl (by assumption) ?_
  (try simp only [Act.put, List.setIfInBounds_toArray, List.set_cons_zero, List.set_cons_succ])
  refine tkH (i := 9) (oi := { dst := some 29, op := Op.fieldAddr 85 (Operand.tmp 3) 4, type := 0, pos := _, after := _, guard := some (4, true) }) rfl (by assumption) ?_
  (try simp only [Act.put, List.setIfInBounds_toArray, List.set_cons_zero, List.set_cons_succ])
  refine tkH (i := 10) (oi := { dst := some 30, op := Op.load 3 (Operand.tmp 29), type := 3, pos := _, after := _, guard := some (4, true) }) rfl (by assumption) ?_
  (try simp only [Act.put, List.setIfInBounds_toArray, List.set_cons_zero, List.set_cons_succ])
  refine tkH (i := 11) (oi := { dst := some 31, op := Op.binOp BinOp.neq 3 (Operand.tmp 28) (Operand.tmp 30) 3, type := 4, pos := _, after := _, guard := some (4, true) }) rfl (by assumption) ?_
  (try simp only [Act.put, List.setIfInBounds_toArray, List.set_cons_zero, List.set_cons_succ])
  refine tkH (i := 12) (oi := { dst := some 32, op := Op.move (Operand.tmp 31), type := 4, pos := _, after := _, guard := some (4, true) }) rfl (by assumption) ?_
  (try simp only [Act.put, List.setIfInBounds_toArray, List.set_cons_zero, List.set_cons_succ])
  refine tkH (i := 13) (oi := { dst := some 33, op := Op.move (Operand.tmp 0), type := 79, pos := _, after := _, guard := some (12, false) }) rfl (by assumption) ?_
  (try simp only [Act.put, List.setIfInBounds_toArray, List.set_cons_zero, List.set_cons_succ])
  refine tkH (i := 14) (oi := { dst := some 34, op := Op.nilCheck (Operand.tmp 33), type := 0, pos := _, after := _, guard := some (12, false) }) rfl (by assumption) ?_
  (try simp only [Act.put, List.setIfInBounds_toArray, List.set_cons_zero, List.set_cons_succ])
  refine tkH (i := 15) (oi := { dst := some 35, op := Op.fieldAddr 150 (Operand.tmp 34) 13, type := 0, pos := _, after := _, guard := some (12, false) }) rfl (by assumption) ?_
  (try simp only [Act.put, List.setIfInBounds_toArray, List.set_cons_zero, List.set_cons_succ])
  refine tkH (i := 16) (oi := { dst := some 36, op := Op.load 82 (Operand.tmp 35), type := 82, pos := _, after := _, guard := some (12, false) }) rfl (by assumption) ?_
  (try simp only [Act.put, List.setIfInBounds_toArray, List.set_cons_zero, List.set_cons_succ])
  refine tkH (i := 17) (oi := { dst := some 37, op := Op.fieldAddr 85 (Operand.tmp 3) 7, type := 0, pos := _, after := _, guard := some (12, false) }) rfl (by assumption) ?_
  (try simp only [Act.put, List.setIfInBounds_toArray, List.set_cons_zero, List.set_cons_succ])
  refine tkH (i := 18) (oi := { dst := some 38, op := Op.load 82 (Operand.tmp 37), type := 82, pos := _, after := _, guard := some (12, false) }) rfl (by assumption) ?_
  (try simp only [Act.put, List.setIfInBounds_toArray, List.set_cons_zero, List.set_cons_succ])
  refine tkH (i := 19) (oi := { dst := some 39, op := Op.binOp BinOp.neq 82 (Operand.tmp 36) (Operand.tmp 38) 82, type := 4, pos := _, after := _, guard := some (12, false) }) rfl (by assumption) ?_
  (try simp only [Act.put, List.setIfInBounds_toArray, List.set_cons_zero, List.set_cons_succ])
  refine tkH (i := 20) (oi := { dst := some 40, op := Op.pick (Operand.tmp 32) (Operand.const (Value.bool true)) (Operand.tmp 39), type := 4, pos := _, after := _, guard := some (4, true) }) rfl (by assumption) ?_
  (try simp only [Act.put, List.setIfInBounds_toArray, List.set_cons_zero, List.set_cons_succ])
  refine tkH (i := 21) (oi := { dst := some 41, op := Op.pick (Operand.tmp 24) (Operand.tmp 40) (Operand.const (Value.bool false)), type := 4, pos := _, after := _, guard := none }) rfl (by assumption) ?_
  (try simp only [Act.put, List.setIfInBounds_toArray, List.set_cons_zero, List.set_cons_succ])
  refine tkH (i := 22) (oi := { dst := some 42, op := Op.move (Operand.tmp 41), type := 4, pos := _, after := _, guard := none }) rfl (by assumption) ?_
  (try simp only [Act.put, List.setIfInBounds_toArray, List.set_cons_zero, List.set_cons_succ])
  refine tkH (i := 23) (oi := { dst := some 43, op := Op.move (Operand.tmp 0), type := 79, pos := _, after := _, guard := some (22, false) }) rfl (by assumption) ?_
  (try simp only [Act.put, List.setIfInBounds_toArray, List.set_cons_zero, List.set_cons_succ])
  refine tkH (i := 24) (oi := { dst := some 44, op := Op.nilCheck (Operand.tmp 43), type := 0, pos := _, after := _, guard := some (22, false) }) rfl (by assumption) ?_
  (try simp only [Act.put, List.setIfInBounds_toArray, List.set_cons_zero, List.set_cons_succ])
  refine tkH (i := 25) (oi := { dst := some 45, op := Op.fieldAddr 150 (Operand.tmp 44) 8, type := 0, pos := _, after := _, guard := some (22, false) }) rfl (by assumption) ?_
  (try simp only [Act.put, List.setIfInBounds_toArray, List.set_cons_zero, List.set_cons_succ])
  refine tkH (i := 26) (oi := { dst := some 46, op := Op.load 4 (Operand.tmp 45), type := 4, pos := _, after := _, guard := some (22, false) }) rfl (by assumption) ?_
  (try simp only [Act.put, List.setIfInBounds_toArray, List.set_cons_zero, List.set_cons_succ])
  refine tkH (i := 27) (oi := { dst := some 47, op := Op.move (Operand.tmp 46), type := 4, pos := _, after := _, guard := some (22, false) }) rfl (by assumption) ?_
  (try simp only [Act.put, List.setIfInBounds_toArray, List.set_cons_zero, List.set_cons_succ])
  refine skH (i := 28) (oi := { dst := some 48, op := Op.move (Operand.tmp 0), type := 79, pos := _, after := _, guard := some (27, true) }) rfl (by assumption) ?_
  (try simp only [Act.put, List.setIfInBounds_toArray, List.set_cons_zero, List.set_cons_succ])
  refine skH (i := 29) (oi := { dst := some 49, op := Op.nilCheck (Operand.tmp 48), type := 0, pos := _, after := _, guard := some (27, true) }) rfl (by assumption) ?_
  (try simp only [Act.put, List.setIfInBounds_toArray, List.set_cons_zero, List.set_cons_succ])
  refine skH (i := 30) (oi := { dst := some 50, op := Op.fieldAddr 150 (Operand.tmp 49) 10, type := 0, pos := _, after := _, guard := some (27, true) }) rfl (by assumption) ?_
  (try simp only [Act.put, List.setIfInBounds_toArray, List.set_cons_zero, List.set_cons_succ])
  refine skH (i := 31) (oi := { dst := some 51, op := Op.load 3 (Operand.tmp 50), type := 3, pos := _, after := _, guard := some (27, true) }) rfl (by assumption) ?_
  (try simp only [Act.put, List.setIfInBounds_toArray, List.set_cons_zero, List.set_cons_succ])
  refine skH (i := 32) (oi := { dst := some 52, op := Op.fieldAddr 85 (Operand.tmp 3) 4, type := 0, pos := _, after := _, guard := some (27, true) }) rfl (by assumption) ?_
  (try simp only [Act.put, List.setIfInBounds_toArray, List.set_cons_zero, List.set_cons_succ])
  refine skH (i := 33) (oi := { dst := some 53, op := Op.load 3 (Operand.tmp 52), type := 3, pos := _, after := _, guard := some (27, true) }) rfl (by assumption) ?_
  (try simp only [Act.put, List.setIfInBounds_toArray, List.set_cons_zero, List.set_cons_succ])
  refine skH (i := 34) (oi := { dst := some 54, op := Op.binOp BinOp.neq 3 (Operand.tmp 51) (Operand.tmp 53) 3, type := 4, pos := _, after := _, guard := some (27, true) }) rfl (by assumption) ?_
  (try simp only [Act.put, List.setIfInBounds_toArray, List.set_cons_zero, List.set_cons_succ])
  refine tkH (i := 35) (oi := { dst := some 55, op := Op.pick (Operand.tmp 47) (Operand.tmp 54) (Operand.const (Value.bool false)), type := 4, pos := _, after := _, guard := some (22, false) }) rfl (by assumption) ?_
  (try simp only [Act.put, List.setIfInBounds_toArray, List.set_cons_zero, List.set_cons_succ])
  refine tkH (i := 36) (oi := { dst := some 56, op := Op.pick (Operand.tmp 42) (Operand.const (Value.bool true)) (Operand.tmp 55), type := 4, pos := _, after := _, guard := none }) rfl (by assumption) ?_
  (try simp only [Act.put, List.setIfInBounds_toArray, List.set_cons_zero, List.set_cons_succ])
  refine tkH (i := 37) (oi := { dst := some 57, op := Op.move (Operand.tmp 56), type := 4, pos := _, after := _, guard := none }) rfl (by assumption) ?_
  (try simp only [Act.put, List.setIfInBounds_toArray, List.set_cons_zero, List.set_cons_succ])
  refine tkH (i := 38) (oi := { dst := some 58, op := Op.move (Operand.tmp 0), type := 79, pos := _, after := _, guard := some (37, false) }) rfl (by assumption) ?_
  (try simp only [Act.put, List.setIfInBounds_toArray, List.set_cons_zero, List.set_cons_succ])
  refine tkH (i := 40) (oi := { dst := some 60, op := Op.fieldAddr 85 (Operand.tmp 3) 4, type := 0, pos := _, after := _, guard := some (37, false) }) rfl (by assumption) ?_
  (try simp only [Act.put, List.setIfInBounds_toArray, List.set_cons_zero, List.set_cons_succ])
  refine tkH (i := 41) (oi := { dst := some 61, op := Op.load 3 (Operand.tmp 60), type := 3, pos := _, after := _, guard := some (37, false) }) rfl (by assumption) ?_
  (try simp only [Act.put, List.setIfInBounds_toArray, List.set_cons_zero, List.set_cons_succ])
  refine wpAnyH_ready (rs := [39]) (by kernel_rfl) (by simp) ?_
  refine (AllReadyH.cons (o := { dst := some 59, op := Op.call { callee := Callee.value (Operand.func 101), args := #[Operand.tmp 58], argTypes := #[79] }, type := 3, pos := _, after := _, guard := some (37, false) }) rfl (fun KQ hK => ?_) AllReadyH.nil)
  go_simp
  refine (klast_w _ p F c l _ hgl (by exact VG.out.drew) hgc (by exact BP.out.drew)).mono ?_
  rintro e W1 ⟨rfl, hk1⟩
  have b1 := BP.out.drew.keepS hk1 (by simp)
  have bq1 := BQ.out.drew.keepS hk1 (by simp)
  have K1 : Hid (Keep w.heap.size [p] w W1) := Lib.hid ((KA.out.drew.mono (S' := [p]) (Nat.le_refl _) (by simp)).trans (hk1.mono KA.out.size (by simp)))
  have y14 : W1.cell? ⟨p, 14, none⟩ = some (.bool true) := by
    have h := b1.cell 14
    rw [h]
    show some (Value.bool K.fin) = _
    rw [hfi]
    try rfl
  have y15 : W1.cell? ⟨p, 15, none⟩ = some (.int .i64 F.length) := by
    have h := b1.cell 15
    rw [h]
    show some (Value.int .i64 (szV F K.fin)) = _
    rw [hfi]
    try rfl
  have y16 : W1.cell? ⟨p, 16, none⟩ = some (.int .u32 (sumO F)) := by
    have h := b1.cell 16
    rw [h]
    show some (Value.int .u32 (smV F K.fin)) = _
    rw [hfi]
    try rfl
  have y11 : W1.cell? ⟨p, 11, none⟩ = some (.bool false) := by
    have h := b1.cell 11
    rw [h]
    show some (Value.bool K.named) = _
    rw [hnm]
    try rfl
  have B1 := Lib.hid b1
  have BQ1 := Lib.hid bq1
  have yy : (fun w' => w'.cell? ⟨p, 14, none⟩ = some (.bool true) ∧ w'.cell? ⟨p, 15, none⟩ = some (.int .i64 F.length) ∧ w'.cell? ⟨p, 16, none⟩ = some (.int .u32 (sumO F)) ∧ w'.cell? ⟨p, 11, none⟩ = some (.bool false) ∧ w'.cell? ⟨q, 5, none⟩ = some (.int .i64 F.length) ∧ w'.cell? ⟨q, 8, none⟩ = some (.int .u32 (sumO F))) W1 := ⟨y14, y15, y16, y11, BQ1.out.cell 5, BQ1.out.cell 8⟩
  clear hk1 b1 bq1 c14 c15 c16 c11 z5 z8 z9
  refine hK.out _ _ (by exact yy) (fun hHeld => ?_)
  clear hK KQ
  (try simp only [Act.put, List.setIfInBounds_toArray, List.set_cons_zero, List.set_cons_succ])
  refine tkH (i := 42) (oi := { dst := some 62, op := Op.binOp BinOp.gtr 3 (Operand.tmp 59) (Operand.tmp 61) 3, type := 4, pos := _, after := _, guard := some (37, false) }) rfl (by assumption) ?_
  (try simp only [Act.put, List.setIfInBounds_toArray, List.set_cons_zero, List.set_cons_succ])
  refine tkH (i := 43) (oi := { dst := some 63, op := Op.pick (Operand.tmp 57) (Operand.const (Value.bool true)) (Operand.tmp 62), type := 4, pos := _, after := _, guard := none }) rfl (by assumption) ?_
  (try simp only [Act.put, List.setIfInBounds_toArray, List.set_cons_zero, List.set_cons_succ])
  refine wpAnyH_done (by kernel_rfl) ?_ _
  go_wp2_with fail
  go_ret
  exact ⟨rfl, B1.out, K1.out⟩
set_option maxRecDepth 100000 in
set_option maxHeartbeats 4000000 in
theorem kef_tf (w : World) (p : Nat) (F : List Int) (c : Nat) (l : Ly) (K : Sk) (lu : Lc) (hgl : K.got.length ≤ 1000) (hgv : Vw w l.W K.got.length 2 (gcs K.got)) (hgc : K.got.length ≤ l.wc) (hlast : lastT K.got ≤ F.length) (hnm : K.named = true) (hfi : K.fin = false) (hb : Blk w p TK (kcs F c l K)) : Calls Try.prog 133 #[ptr p, .agg (pcs (upd F .ef) lu)] w fun e w' => e = .returned (.int .i64 0) ∧ Blk w' p TK (kcs F c l { K with fin := true, nd := true, tm := K.now, tr := 0 }) ∧ Keep w.heap.size [p] w w' := by
  have HB := Lib.hid hb
  have HG := Lib.hid hgv
  have hlI : decide ((F.length : Int) < lastT K.got) = false := by simp; omega
  clear hb hgv
  go_enter Try.func133, Try.ntmps133
  go_upto_region 1 with fail
  obtain ⟨W, hW⟩ : ∃ W, W = w.alloc (.cells (pcs (upd F .ef) lu) TP) := ⟨_, rfl⟩
  obtain ⟨q, hq⟩ : ∃ q, q = w.heap.size := ⟨_, rfl⟩
  have bq : Blk W q TP (pcs (upd F .ef) lu) := by rw [hW, hq]; exact Blk.new _ _ _
  have ka : Keep w.heap.size [] w W := by rw [hW]; exact (Keep.refl _ _ _).alloc (Nat.le_refl _) _
  have hpq : p ≠ q := by have := HB.out.lt; omega
  have hqp : q ≠ p := hpq.symm
  change Code.wp _ _ _ _ (w.alloc (.cells (pcs (upd F .ef) lu) TP))
  rw [← hW, ← hq]
  have bp := HB.out.keepS ka (by simp)
  clear hW hq
  have c14 : W.cell? ⟨p, 14, none⟩ = some (.bool false) := by
    have h := bp.cell 14
    rw [h]
    show some (Value.bool K.fin) = _
    rw [hfi]
    try rfl
  have c11 : W.cell? ⟨p, 11, none⟩ = some (.bool true) := by
    have h := bp.cell 11
    rw [h]
    show some (Value.bool K.named) = _
    rw [hnm]
    try rfl
  have c13 : W.cell? ⟨p, 13, none⟩ = some (.int .i64 F.length) := by
    have h := bp.cell 13
    rw [h]
    show some (Value.int .i64 (szV F K.named)) = _
    rw [hnm]
    try rfl
  have z5 : W.cell? ⟨q, 5, none⟩ = some (.int .i64 F.length) := bq.cell 5
  have z8 : W.cell? ⟨q, 8, none⟩ = some (.int .u32 (sumO F)) := bq.cell 8
  have z9 : W.cell? ⟨q, 9, none⟩ = some (.int .i64 0) := bq.cell 9
  have VG := Lib.hid (HG.out.keep0 ka)
  have BP := Lib.hid bp
  have BQ := Lib.hid bq
  have KA := Lib.hid ka
  clear bp bq ka
  go_upto_region 7 with fail
  refine wp_region_held_drew (S := (fun w' => w'.cell? ⟨p, 14, none⟩ = some (.bool false) ∧ w'.cell? ⟨p, 11, none⟩ = some (.bool true) ∧ w'.cell? ⟨p, 13, none⟩ = some (.int .i64 F.length) ∧ w'.cell? ⟨q, 5, none⟩ = some (.int .i64 F.length) ∧ w'.cell? ⟨q, 8, none⟩ = some (.int .u32 (sumO F)))) (by kernel_rfl) (by exact ⟨c14, c11, c13, z5, z8⟩) (fun hHeld => ?_)
  refine tkH (i := 0) (oi := { dst := some 20, op := Op.move (Operand.tmp 0), type := 79, pos := _, after := _, guard := none }) rfl (by assumption) ?_
  (try simp only [Act.put, List.setIfInBounds_toArray, List.set_cons_zero, List.set_cons_succ])
  refine tkH (i := 1) (oi := { dst := some 21, op := Op.nilCheck (Operand.tmp 20), type := 0, pos := _, after := _, guard := none }) rfl (by assumption) ?_
  (try simp only [Act.put, List.setIfInBounds_toArray, List.set_cons_zero, List.set_cons_succ])
  refine tkH (i := 2) (oi := { dst := some 22, op := Op.fieldAddr 150 (Operand.tmp 21) 11, type := 0, pos := _, after := _, guard := none }) rfl (by assumption) ?_
  (try simp only [Act.put, List.setIfInBounds_toArray, List.set_cons_zero, List.set_cons_succ])
  refine tkH (i := 3) (oi := { dst := some 23, op := Op.load 4 (Operand.tmp 22), type := 4, pos := _, after := _, guard := none }) rfl (by assumption) ?_
  (try simp only [Act.put, List.setIfInBounds_toArray, List.set_cons_zero, List.set_cons_succ])
  refine tkH (i := 4) (oi := { dst := some 24, op := Op.move (Operand.tmp 23), type := 4, pos := _, after := _, guard := none }) rfl (by assumption) ?_
  (try simp only [Act.put, List.setIfInBounds_toArray, List.set_cons_zero, List.set_cons_succ])
  refine skH (i := 5) (oi := { dst := some 25, op := Op.move (Operand.tmp 0), type := 79, pos := _, after := _, guard := some (4, true) }) rfl (by assumption) ?_
  (try simp only [Act.put, List.setIfInBounds_toArray, List.set_cons_zero, List.set_cons_succ])
  refine skH (i := 6) (oi := { dst := some 26, op := Op.nilCheck (Operand.tmp 25), type := 0, pos := _, after := _, guard := some (4, true) }) rfl (by assumption) ?_
  (try simp only [Act.put, List.setIfInBounds_toArray, List.set_cons_zero, List.set_cons_succ])
  refine skH (i := 7) (oi := { dst := some 27, op := Op.fieldAddr 150 (Operand.tmp 26) 12, type := 0, pos := _, after := _, guard := some (4, true) }) rfl (by assumption) ?_
  (try simp only [Act.put, List.setIfInBounds_toArray, List.set_cons_zero, List.set_cons_succ])
  refine skH (i := 8) (oi := { dst := some 28, op := Op.load 3 (Operand.tmp 27), type := 3, pos := _, after := _, guard := some (4, true) }) rfl (by assumption) ?_
  (try simp only [Act.put, List.setIfInBounds_toArray, List.set_cons_zero, List.set_cons_succ])
  refine skH (i := 9) (oi := { dst := some 29, op := Op.fieldAddr 85 (Operand.tmp 3) 4, type := 0, pos := _, after := _, guard := some (4, true) }) rfl (by assumption) ?_
  (try simp only [Act.put, List.setIfInBounds_toArray, List.set_cons_zero, List.set_cons_succ])
  refine skH (i := 10) (oi := { dst := some 30, op := Op.load 3 (Operand.tmp 29), type := 3, pos := _, after := _, guard := some (4, true) }) rfl (by assumption) ?_
  (try simp only [Act.put, List.setIfInBounds_toArray, List.set_cons_zero, List.set_cons_succ])
  refine skH (i := 11) (oi := { dst := some 31, op := Op.binOp BinOp.neq 3 (Operand.tmp 28) (Operand.tmp 30) 3, type := 4, pos := _, after := _, guard := some (4, true) }) rfl (by assumption) ?_
  (try simp only [Act.put, List.setIfInBounds_toArray, List.set_cons_zero, List.set_cons_succ])
  refine skH (i := 12) (oi := { dst := some 32, op := Op.move (Operand.tmp 31), type := 4, pos := _, after := _, guard := some (4, true) }) rfl (by assumption) ?_
  (try simp only [Act.put, List.setIfInBounds_toArray, List.set_cons_zero, List.set_cons_succ])
  refine skH (i := 13) (oi := { dst := some 33, op := Op.move (Operand.tmp 0), type := 79, pos := _, after := _, guard := some (12, false) }) rfl (by assumption) ?_
  (try simp only [Act.put, List.setIfInBounds_toArray, List.set_cons_zero, List.set_cons_succ])
  refine skH (i := 14) (oi := { dst := some 34, op := Op.nilCheck (Operand.tmp 33), type := 0, pos := _, after := _, guard := some (12, false) }) rfl (by assumption) ?_
  (try simp only [Act.put, List.setIfInBounds_toArray, List.set_cons_zero, List.set_cons_succ])
  refine skH (i := 15) (oi := { dst := some 35, op := Op.fieldAddr 150 (Operand.tmp 34) 13, type := 0, pos := _, after := _, guard := some (12, false) }) rfl (by assumption) ?_
  (try simp only [Act.put, List.setIfInBounds_toArray, List.set_cons_zero, List.set_cons_succ])
  refine skH (i := 16) (oi := { dst := some 36, op := Op.load 82 (Operand.tmp 35), type := 82, pos := _, after := _, guard := some (12, false) }) rfl (by assumption) ?_
  (try simp only [Act.put, List.setIfInBounds_toArray, List.set_cons_zero, List.set_cons_succ])
  refine skH (i := 17) (oi := { dst := some 37, op := Op.fieldAddr 85 (Operand.tmp 3) 7, type := 0, pos := _, after := _, guard := some (12, false) }) rfl (by assumption) ?_
  (try simp only [Act.put, List.setIfInBounds_toArray, List.set_cons_zero, List.set_cons_succ])
  refine skH (i := 18) (oi := { dst := some 38, op := Op.load 82 (Operand.tmp 37), type := 82, pos := _, after := _, guard := some (12, false) }) rfl (by assumption) ?_
  (try simp only [Act.put, List.setIfInBounds_toArray, List.set_cons_zero, List.set_cons_succ])
  refine skH (i := 19) (oi := { dst := some 39, op := Op.binOp BinOp.neq 82 (Operand.tmp 36) (Operand.tmp 38) 82, type := 4, pos := _, after := _, guard := some (12, false) }) rfl (by assumption) ?_
  (try simp only [Act.put, List.setIfInBounds_toArray, List.set_cons_zero, List.set_cons_succ])
  refine skH (i := 20) (oi := { dst := some 40, op := Op.pick (Operand.tmp 32) (Operand.const (Value.bool true)) (Operand.tmp 39), type := 4, pos := _, after := _, guard := some (4, true) }) rfl (by assumption) ?_
  (try simp only [Act.put, List.setIfInBounds_toArray, List.set_cons_zero, List.set_cons_succ])
  refine tkH (i := 21) (oi := { dst := some 41, op := Op.pick (Operand.tmp 24) (Operand.tmp 40) (Operand.const (Value.bool false)), type := 4, pos := _, after := _, guard := none }) rfl (by assumption) ?_
  (try simp only [Act.put, List.setIfInBounds_toArray, List.set_cons_zero, List.set_cons_succ])
  refine tkH (i := 22) (oi := { dst := some 42, op := Op.move (Operand.tmp 41), type := 4, pos := _, after := _, guard := none }) rfl (by assumption) ?_
  (try simp only [Act.put, List.setIfInBounds_toArray, List.set_cons_zero, List.set_cons_succ])
  refine tkH (i := 23) (oi := { dst := some 43, op := Op.move (Operand.tmp 0), type := 79, pos := _, after := _, guard := some (22, false) }) rfl (by assumption) ?_
  (try simp only [Act.put, List.setIfInBounds_toArray, List.set_cons_zero, List.set_cons_succ])
  refine tkH (i := 24) (oi := { dst := some 44, op := Op.nilCheck (Operand.tmp 43), type := 0, pos := _, after := _, guard := some (22, false) }) rfl (by assumption) ?_
  (try simp only [Act.put, List.setIfInBounds_toArray, List.set_cons_zero, List.set_cons_succ])
  refine tkH (i := 25) (oi := { dst := some 45, op := Op.fieldAddr 150 (Operand.tmp 44) 8, type := 0, pos := _, after := _, guard := some (22, false) }) rfl (by assumption) ?_
  (try simp only [Act.put, List.setIfInBounds_toArray, List.set_cons_zero, List.set_cons_succ])
  refine tkH (i := 26) (oi := { dst := some 46, op := Op.load 4 (Operand.tmp 45), type := 4, pos := _, after := _, guard := some (22, false) }) rfl (by assumption) ?_
  (try simp only [Act.put, List.setIfInBounds_toArray, List.set_cons_zero, List.set_cons_succ])
  refine tkH (i := 27) (oi := { dst := some 47, op := Op.move (Operand.tmp 46), type := 4, pos := _, after := _, guard := some (22, false) }) rfl (by assumption) ?_
  (try simp only [Act.put, List.setIfInBounds_toArray, List.set_cons_zero, List.set_cons_succ])
  refine tkH (i := 28) (oi := { dst := some 48, op := Op.move (Operand.tmp 0), type := 79, pos := _, after := _, guard := some (27, true) }) rfl (by assumption) ?_
  (try simp only [Act.put, List.setIfInBounds_toArray, List.set_cons_zero, List.set_cons_succ])
  refine tkH (i := 29) (oi := { dst := some 49, op := Op.nilCheck (Operand.tmp 48), type := 0, pos := _, after := _, guard := some (27, true) }) rfl (by assumption) ?_
  (try simp only [Act.put, List.setIfInBounds_toArray, List.set_cons_zero, List.set_cons_succ])
  refine tkH (i := 30) (oi := { dst := some 50, op := Op.fieldAddr 150 (Operand.tmp 49) 10, type := 0, pos := _, after := _, guard := some (27, true) }) rfl (by assumption) ?_
  (try simp only [Act.put, List.setIfInBounds_toArray, List.set_cons_zero, List.set_cons_succ])
  refine tkH (i := 31) (oi := { dst := some 51, op := Op.load 3 (Operand.tmp 50), type := 3, pos := _, after := _, guard := some (27, true) }) rfl (by assumption) ?_
  (try simp only [Act.put, List.setIfInBounds_toArray, List.set_cons_zero, List.set_cons_succ])
  refine tkH (i := 32) (oi := { dst := some 52, op := Op.fieldAddr 85 (Operand.tmp 3) 4, type := 0, pos := _, after := _, guard := some (27, true) }) rfl (by assumption) ?_
  (try simp only [Act.put, List.setIfInBounds_toArray, List.set_cons_zero, List.set_cons_succ])
  refine tkH (i := 33) (oi := { dst := some 53, op := Op.load 3 (Operand.tmp 52), type := 3, pos := _, after := _, guard := some (27, true) }) rfl (by assumption) ?_
  (try simp only [Act.put, List.setIfInBounds_toArray, List.set_cons_zero, List.set_cons_succ])
  refine tkH (i := 34) (oi := { dst := some 54, op := Op.binOp BinOp.neq 3 (Operand.tmp 51) (Operand.tmp 53) 3, type := 4, pos := _, after := _, guard := some (27, true) }) rfl (by assumption) ?_
  (try simp only [Act.put, List.setIfInBounds_toArray, List.set_cons_zero, List.set_cons_succ])
  refine tkH (i := 35) (oi := { dst := some 55, op := Op.pick (Operand.tmp 47) (Operand.tmp 54) (Operand.const (Value.bool false)), type := 4, pos := _, after := _, guard := some (22, false) }) rfl (by assumption) ?_
  (try simp only [Act.put, List.setIfInBounds_toArray, List.set_cons_zero, List.set_cons_succ])
  refine tkH (i := 36) (oi := { dst := some 56, op := Op.pick (Operand.tmp 42) (Operand.const (Value.bool true)) (Operand.tmp 55), type := 4, pos := _, after := _, guard := none }) rfl (by assumption) ?_
  (try simp only [Act.put, List.setIfInBounds_toArray, List.set_cons_zero, List.set_cons_succ])
  refine tkH (i := 37) (oi := { dst := some 57, op := Op.move (Operand.tmp 56), type := 4, pos := _, after := _, guard := none }) rfl (by assumption) ?_
  (try simp only [Act.put, List.setIfInBounds_toArray, List.set_cons_zero, List.set_cons_succ])
  refine tkH (i := 38) (oi := { dst := some 58, op := Op.move (Operand.tmp 0), type := 79, pos := _, after := _, guard := some (37, false) }) rfl (by assumption) ?_
  (try simp only [Act.put, List.setIfInBounds_toArray, List.set_cons_zero, List.set_cons_succ])
  refine tkH (i := 40) (oi := { dst := some 60, op := Op.fieldAddr 85 (Operand.tmp 3) 4, type := 0, pos := _, after := _, guard := some (37, false) }) rfl (by assumption) ?_
  (try simp only [Act.put, List.setIfInBounds_toArray, List.set_cons_zero, List.set_cons_succ])
  refine tkH (i := 41) (oi := { dst := some 61, op := Op.load 3 (Operand.tmp 60), type := 3, pos := _, after := _, guard := some (37, false) }) rfl (by assumption) ?_
  (try simp only [Act.put, List.setIfInBounds_toArray, List.set_cons_zero, List.set_cons_succ])
  refine wpAnyH_ready (rs := [39]) (by kernel_rfl) (by simp) ?_
  refine (AllReadyH.cons (o := { dst := some 59, op := Op.call { callee := Callee.value (Operand.func 101), args := #[Operand.tmp 58], argTypes := #[79] }, type := 3, pos := _, after := _, guard := some (37, false) }) rfl (fun KQ hK => ?_) AllReadyH.nil)
  go_simp
  refine (klast_w _ p F c l _ hgl (by exact VG.out.drew) hgc (by exact BP.out.drew)).mono ?_
  rintro e W1 ⟨rfl, hk1⟩
  have b1 := BP.out.drew.keepS hk1 (by simp)
  have bq1 := BQ.out.drew.keepS hk1 (by simp)
  have K1 : Hid (Keep w.heap.size [p] w W1) := Lib.hid ((KA.out.drew.mono (S' := [p]) (Nat.le_refl _) (by simp)).trans (hk1.mono KA.out.size (by simp)))
  have y14 : W1.cell? ⟨p, 14, none⟩ = some (.bool false) := by
    have h := b1.cell 14
    rw [h]
    show some (Value.bool K.fin) = _
    rw [hfi]
    try rfl
  have y11 : W1.cell? ⟨p, 11, none⟩ = some (.bool true) := by
    have h := b1.cell 11
    rw [h]
    show some (Value.bool K.named) = _
    rw [hnm]
    try rfl
  have y13 : W1.cell? ⟨p, 13, none⟩ = some (.int .i64 F.length) := by
    have h := b1.cell 13
    rw [h]
    show some (Value.int .i64 (szV F K.named)) = _
    rw [hnm]
    try rfl
  have B1 := Lib.hid b1
  have BQ1 := Lib.hid bq1
  have yy : (fun w' => w'.cell? ⟨p, 14, none⟩ = some (.bool false) ∧ w'.cell? ⟨p, 11, none⟩ = some (.bool true) ∧ w'.cell? ⟨p, 13, none⟩ = some (.int .i64 F.length) ∧ w'.cell? ⟨q, 5, none⟩ = some (.int .i64 F.length) ∧ w'.cell? ⟨q, 8, none⟩ = some (.int .u32 (sumO F))) W1 := ⟨y14, y11, y13, BQ1.out.cell 5, BQ1.out.cell 8⟩
  clear hk1 b1 bq1 c14 c11 c13 z5 z8 z9
  refine hK.out _ _ (by exact yy) (fun hHeld => ?_)
  clear hK KQ
  (try simp only [Act.put, List.setIfInBounds_toArray, List.set_cons_zero, List.set_cons_succ])
  refine tkH (i := 42) (oi := { dst := some 62, op := Op.binOp BinOp.gtr 3 (Operand.tmp 59) (Operand.tmp 61) 3, type := 4, pos := _, after := _, guard := some (37, false) }) rfl (by assumption) ?_
  (try simp only [Act.put, List.setIfInBounds_toArray, List.set_cons_zero, List.set_cons_succ])
  refine tkH (i := 43) (oi := { dst := some 63, op := Op.pick (Operand.tmp 57) (Operand.const (Value.bool true)) (Operand.tmp 62), type := 4, pos := _, after := _, guard := none }) rfl (by assumption) ?_
  (try simp only [Act.put, List.setIfInBounds_toArray, List.set_cons_zero, List.set_cons_succ])
  refine wpAnyH_done (by kernel_rfl) ?_ _
  have y5 : W1.cell? ⟨q, 5, none⟩ = some (.int .i64 F.length) := BQ1.out.cell 5
  have y8 : W1.cell? ⟨q, 8, none⟩ = some (.int .u32 (sumO F)) := BQ1.out.cell 8
  have x15 : W1.cell? ⟨p, 15, none⟩ = some (.int .i64 (szV F K.fin)) := B1.out.cell 15
  have x16 : W1.cell? ⟨p, 16, none⟩ = some (.int .u32 (smV F K.fin)) := B1.out.cell 16
  have x22 : W1.cell? ⟨p, 22, none⟩ = some (.bool K.nd) := B1.out.cell 22
  have fx14 := B1.out.frozen 14
  have fx15 := B1.out.frozen 15
  have fx16 := B1.out.frozen 16
  have fx22 := B1.out.frozen 22
  go_wp2_with fail
  have B2 : Hid (Blk (((W1.setCell ⟨p, 14, none⟩ (.bool true)).setCell ⟨p, 15, none⟩ (.int .i64 F.length)).setCell ⟨p, 16, none⟩ (.int .u32 (sumO F))) p TK (kcs F c l { K with fin := true })) := Lib.hid (((B1.out.set_ 14 _).set_ 15 _).set_ 16 _)
  have K2 : Hid (Keep w.heap.size [p] w (((W1.setCell ⟨p, 14, none⟩ (.bool true)).setCell ⟨p, 15, none⟩ (.int .i64 F.length)).setCell ⟨p, 16, none⟩ (.int .u32 (sumO F)))) := Lib.hid (((K1.out.set1).set1).set1)
  refine (kack_w _ p F c l { K with fin := true } B2.out).mono ?_
  rintro e W3 ⟨rfl, rfl⟩
  go_wp2_with fail
  have B3 : Hid (Blk ((((W1.setCell ⟨p, 14, none⟩ (.bool true)).setCell ⟨p, 15, none⟩ (.int .i64 F.length)).setCell ⟨p, 16, none⟩ (.int .u32 (sumO F))).setCell ⟨p, 22, none⟩ (.bool true)) p TK (kcs F c l { K with fin := true, nd := true })) := Lib.hid (B2.out.set_ 22 _)
  have K3 : Hid (Keep w.heap.size [p] w ((((W1.setCell ⟨p, 14, none⟩ (.bool true)).setCell ⟨p, 15, none⟩ (.int .i64 F.length)).setCell ⟨p, 16, none⟩ (.int .u32 (sumO F))).setCell ⟨p, 22, none⟩ (.bool true))) := Lib.hid (K2.out.set1)
  refine (kprog_w _ p F c l { K with fin := true, nd := true } B3.out).mono ?_
  rintro e W4 ⟨rfl, hb4, hk4⟩
  have B4 := Lib.hid hb4
  have K4 : Hid (Keep w.heap.size [p] w W4) := Lib.hid (K3.out.trans (hk4.mono K3.out.size (by simp)))
  clear hb4 hk4
  go_wp2_with fail
  go_ret
  exact ⟨rfl, B4.out, K4.out⟩
set_option maxRecDepth 100000 in
set_option maxHeartbeats 4000000 in
theorem kef_ff (w : World) (p : Nat) (F : List Int) (c : Nat) (l : Ly) (K : Sk) (lu : Lc) (hgl : K.got.length ≤ 1000) (hgv : Vw w l.W K.got.length 2 (gcs K.got)) (hgc : K.got.length ≤ l.wc) (hlast : lastT K.got ≤ F.length) (hnm : K.named = false) (hfi : K.fin = false) (hb : Blk w p TK (kcs F c l K)) : Calls Try.prog 133 #[ptr p, .agg (pcs (upd F .ef) lu)] w fun e w' => e = .returned (.int .i64 0) ∧ Blk w' p TK (kcs F c l { K with fin := true, nd := true, tm := K.now, tr := 0 }) ∧ Keep w.heap.size [p] w w' := by
  have HB := Lib.hid hb
  have HG := Lib.hid hgv
  have hlI : decide ((F.length : Int) < lastT K.got) = false := by simp; omega
  clear hb hgv
  go_enter Try.func133, Try.ntmps133
  go_upto_region 1 with fail
  obtain ⟨W, hW⟩ : ∃ W, W = w.alloc (.cells (pcs (upd F .ef) lu) TP) := ⟨_, rfl⟩
  obtain ⟨q, hq⟩ : ∃ q, q = w.heap.size := ⟨_, rfl⟩
  have bq : Blk W q TP (pcs (upd F .ef) lu) := by rw [hW, hq]; exact Blk.new _ _ _
  have ka : Keep w.heap.size [] w W := by rw [hW]; exact (Keep.refl _ _ _).alloc (Nat.le_refl _) _
  have hpq : p ≠ q := by have := HB.out.lt; omega
  have hqp : q ≠ p := hpq.symm
  change Code.wp _ _ _ _ (w.alloc (.cells (pcs (upd F .ef) lu) TP))
  rw [← hW, ← hq]
  have bp := HB.out.keepS ka (by simp)
  clear hW hq
  have c14 : W.cell? ⟨p, 14, none⟩ = some (.bool false) := by
    have h := bp.cell 14
    rw [h]
    show some (Value.bool K.fin) = _
    rw [hfi]
    try rfl
  have c11 : W.cell? ⟨p, 11, none⟩ = some (.bool false) := by
    have h := bp.cell 11
    rw [h]
    show some (Value.bool K.named) = _
    rw [hnm]
    try rfl
  have z5 : W.cell? ⟨q, 5, none⟩ = some (.int .i64 F.length) := bq.cell 5
  have z8 : W.cell? ⟨q, 8, none⟩ = some (.int .u32 (sumO F)) := bq.cell 8
  have z9 : W.cell? ⟨q, 9, none⟩ = some (.int .i64 0) := bq.cell 9
  have VG := Lib.hid (HG.out.keep0 ka)
  have BP := Lib.hid bp
  have BQ := Lib.hid bq
  have KA := Lib.hid ka
  clear bp bq ka
  go_upto_region 7 with fail
  refine wp_region_held_drew (S := (fun w' => w'.cell? ⟨p, 14, none⟩ = some (.bool false) ∧ w'.cell? ⟨p, 11, none⟩ = some (.bool false) ∧ w'.cell? ⟨q, 5, none⟩ = some (.int .i64 F.length) ∧ w'.cell? ⟨q, 8, none⟩ = some (.int .u32 (sumO F)))) (by kernel_rfl) (by exact ⟨c14, c11, z5, z8⟩) (fun hHeld => ?_)
  refine tkH (i := 0) (oi := { dst := some 20, op := Op.move (Operand.tmp 0), type := 79, pos := _, after := _, guard := none }) rfl (by assumption) ?_
  (try simp only [Act.put, List.setIfInBounds_toArray, List.set_cons_zero, List.set_cons_succ])
  refine tkH (i := 1) (oi := { dst := some 21, op := Op.nilCheck (Operand.tmp 20), type := 0, pos := _, after := _, guard := none }) rfl (by assumption) ?_
  (try simp only [Act.put, List.setIfInBounds_toArray, List.set_cons_zero, List.set_cons_succ])
  refine tkH (i := 2) (oi := { dst := some 22, op := Op.fieldAddr 150 (Operand.tmp 21) 11, type := 0, pos := _, after := _, guard := none }) rfl (by assumption) ?_
  (try simp only [Act.put, List.setIfInBounds_toArray, List.set_cons_zero, List.set_cons_succ])
  refine tkH (i := 3) (oi := { dst := some 23, op := Op.load 4 (Operand.tmp 22), type := 4, pos := _, after := _, guard := none }) rfl (by assumption) ?_
  (try simp only [Act.put, List.setIfInBounds_toArray, List.set_cons_zero, List.set_cons_succ])
  refine tkH (i := 4) (oi := { dst := some 24, op := Op.move (Operand.tmp 23), type := 4, pos := _, after := _, guard := none }) rfl (by assumption) ?_
  (try simp only [Act.put, List.setIfInBounds_toArray, List.set_cons_zero, List.set_cons_succ])
  refine skH (i := 5) (oi := { dst := some 25, op := Op.move (Operand.tmp 0), type := 79, pos := _, after := _, guard := some (4, true) }) rfl (by assumption) ?_
  (try simp only [Act.put, List.setIfInBounds_toArray, List.set_cons_zero, List.set_cons_succ])
  refine skH (i := 6) (oi := { dst := some 26, op := Op.nilCheck (Operand.tmp 25), type := 0, pos := _, after := _, guard := some (4, true) }) rfl (by assumption) ?_
  (try simp only [Act.put, List.setIfInBounds_toArray, List.set_cons_zero, List.set_cons_succ])
  refine skH (i := 7) (oi := { dst := some 27, op := Op.fieldAddr 150 (Operand.tmp 26) 12, type := 0, pos := _, after := _, guard := some (4, true) }) rfl (by assumption) ?_
  (try simp only [Act.put, List.setIfInBounds_toArray, List.set_cons_zero, List.set_cons_succ])
  refine skH (i := 8) (oi := { dst := some 28, op := Op.load 3 (Operand.tmp 27), type := 3, pos := _, after := _, guard := some (4, true) }) rfl (by assumption) ?_
  (try simp only [Act.put, List.setIfInBounds_toArray, List.set_cons_zero, List.set_cons_succ])
  refine skH (i := 9) (oi := { dst := some 29, op := Op.fieldAddr 85 (Operand.tmp 3) 4, type := 0, pos := _, after := _, guard := some (4, true) }) rfl (by assumption) ?_
  (try simp only [Act.put, List.setIfInBounds_toArray, List.set_cons_zero, List.set_cons_succ])
  refine skH (i := 10) (oi := { dst := some 30, op := Op.load 3 (Operand.tmp 29), type := 3, pos := _, after := _, guard := some (4, true) }) rfl (by assumption) ?_
  (try simp only [Act.put, List.setIfInBounds_toArray, List.set_cons_zero, List.set_cons_succ])
  refine skH (i := 11) (oi := { dst := some 31, op := Op.binOp BinOp.neq 3 (Operand.tmp 28) (Operand.tmp 30) 3, type := 4, pos := _, after := _, guard := some (4, true) }) rfl (by assumption) ?_
  (try simp only [Act.put, List.setIfInBounds_toArray, List.set_cons_zero, List.set_cons_succ])
  refine skH (i := 12) (oi := { dst := some 32, op := Op.move (Operand.tmp 31), type := 4, pos := _, after := _, guard := some (4, true) }) rfl (by assumption) ?_
  (try simp only [Act.put, List.setIfInBounds_toArray, List.set_cons_zero, List.set_cons_succ])
  refine skH (i := 13) (oi := { dst := some 33, op := Op.move (Operand.tmp 0), type := 79, pos := _, after := _, guard := some (12, false) }) rfl (by assumption) ?_
  (try simp only [Act.put, List.setIfInBounds_toArray, List.set_cons_zero, List.set_cons_succ])
  refine skH (i := 14) (oi := { dst := some 34, op := Op.nilCheck (Operand.tmp 33), type := 0, pos := _, after := _, guard := some (12, false) }) rfl (by assumption) ?_
  (try simp only [Act.put, List.setIfInBounds_toArray, List.set_cons_zero, List.set_cons_succ])
  refine skH (i := 15) (oi := { dst := some 35, op := Op.fieldAddr 150 (Operand.tmp 34) 13, type := 0, pos := _, after := _, guard := some (12, false) }) rfl (by assumption) ?_
  (try simp only [Act.put, List.setIfInBounds_toArray, List.set_cons_zero, List.set_cons_succ])
  refine skH (i := 16) (oi := { dst := some 36, op := Op.load 82 (Operand.tmp 35), type := 82, pos := _, after := _, guard := some (12, false) }) rfl (by assumption) ?_
  (try simp only [Act.put, List.setIfInBounds_toArray, List.set_cons_zero, List.set_cons_succ])
  refine skH (i := 17) (oi := { dst := some 37, op := Op.fieldAddr 85 (Operand.tmp 3) 7, type := 0, pos := _, after := _, guard := some (12, false) }) rfl (by assumption) ?_
  (try simp only [Act.put, List.setIfInBounds_toArray, List.set_cons_zero, List.set_cons_succ])
  refine skH (i := 18) (oi := { dst := some 38, op := Op.load 82 (Operand.tmp 37), type := 82, pos := _, after := _, guard := some (12, false) }) rfl (by assumption) ?_
  (try simp only [Act.put, List.setIfInBounds_toArray, List.set_cons_zero, List.set_cons_succ])
  refine skH (i := 19) (oi := { dst := some 39, op := Op.binOp BinOp.neq 82 (Operand.tmp 36) (Operand.tmp 38) 82, type := 4, pos := _, after := _, guard := some (12, false) }) rfl (by assumption) ?_
  (try simp only [Act.put, List.setIfInBounds_toArray, List.set_cons_zero, List.set_cons_succ])
  refine skH (i := 20) (oi := { dst := some 40, op := Op.pick (Operand.tmp 32) (Operand.const (Value.bool true)) (Operand.tmp 39), type := 4, pos := _, after := _, guard := some (4, true) }) rfl (by assumption) ?_
  (try simp only [Act.put, List.setIfInBounds_toArray, List.set_cons_zero, List.set_cons_succ])
  refine tkH (i := 21) (oi := { dst := some 41, op := Op.pick (Operand.tmp 24) (Operand.tmp 40) (Operand.const (Value.bool false)), type := 4, pos := _, after := _, guard := none }) rfl (by assumption) ?_
  (try simp only [Act.put, List.setIfInBounds_toArray, List.set_cons_zero, List.set_cons_succ])
  refine tkH (i := 22) (oi := { dst := some 42, op := Op.move (Operand.tmp 41), type := 4, pos := _, after := _, guard := none }) rfl (by assumption) ?_
  (try simp only [Act.put, List.setIfInBounds_toArray, List.set_cons_zero, List.set_cons_succ])
  refine tkH (i := 23) (oi := { dst := some 43, op := Op.move (Operand.tmp 0), type := 79, pos := _, after := _, guard := some (22, false) }) rfl (by assumption) ?_
  (try simp only [Act.put, List.setIfInBounds_toArray, List.set_cons_zero, List.set_cons_succ])
  refine tkH (i := 24) (oi := { dst := some 44, op := Op.nilCheck (Operand.tmp 43), type := 0, pos := _, after := _, guard := some (22, false) }) rfl (by assumption) ?_
  (try simp only [Act.put, List.setIfInBounds_toArray, List.set_cons_zero, List.set_cons_succ])
  refine tkH (i := 25) (oi := { dst := some 45, op := Op.fieldAddr 150 (Operand.tmp 44) 8, type := 0, pos := _, after := _, guard := some (22, false) }) rfl (by assumption) ?_
  (try simp only [Act.put, List.setIfInBounds_toArray, List.set_cons_zero, List.set_cons_succ])
  refine tkH (i := 26) (oi := { dst := some 46, op := Op.load 4 (Operand.tmp 45), type := 4, pos := _, after := _, guard := some (22, false) }) rfl (by assumption) ?_
  (try simp only [Act.put, List.setIfInBounds_toArray, List.set_cons_zero, List.set_cons_succ])
  refine tkH (i := 27) (oi := { dst := some 47, op := Op.move (Operand.tmp 46), type := 4, pos := _, after := _, guard := some (22, false) }) rfl (by assumption) ?_
  (try simp only [Act.put, List.setIfInBounds_toArray, List.set_cons_zero, List.set_cons_succ])
  refine skH (i := 28) (oi := { dst := some 48, op := Op.move (Operand.tmp 0), type := 79, pos := _, after := _, guard := some (27, true) }) rfl (by assumption) ?_
  (try simp only [Act.put, List.setIfInBounds_toArray, List.set_cons_zero, List.set_cons_succ])
  refine skH (i := 29) (oi := { dst := some 49, op := Op.nilCheck (Operand.tmp 48), type := 0, pos := _, after := _, guard := some (27, true) }) rfl (by assumption) ?_
  (try simp only [Act.put, List.setIfInBounds_toArray, List.set_cons_zero, List.set_cons_succ])
  refine skH (i := 30) (oi := { dst := some 50, op := Op.fieldAddr 150 (Operand.tmp 49) 10, type := 0, pos := _, after := _, guard := some (27, true) }) rfl (by assumption) ?_
  (try simp only [Act.put, List.setIfInBounds_toArray, List.set_cons_zero, List.set_cons_succ])
  refine skH (i := 31) (oi := { dst := some 51, op := Op.load 3 (Operand.tmp 50), type := 3, pos := _, after := _, guard := some (27, true) }) rfl (by assumption) ?_
  (try simp only [Act.put, List.setIfInBounds_toArray, List.set_cons_zero, List.set_cons_succ])
  refine skH (i := 32) (oi := { dst := some 52, op := Op.fieldAddr 85 (Operand.tmp 3) 4, type := 0, pos := _, after := _, guard := some (27, true) }) rfl (by assumption) ?_
  (try simp only [Act.put, List.setIfInBounds_toArray, List.set_cons_zero, List.set_cons_succ])
  refine skH (i := 33) (oi := { dst := some 53, op := Op.load 3 (Operand.tmp 52), type := 3, pos := _, after := _, guard := some (27, true) }) rfl (by assumption) ?_
  (try simp only [Act.put, List.setIfInBounds_toArray, List.set_cons_zero, List.set_cons_succ])
  refine skH (i := 34) (oi := { dst := some 54, op := Op.binOp BinOp.neq 3 (Operand.tmp 51) (Operand.tmp 53) 3, type := 4, pos := _, after := _, guard := some (27, true) }) rfl (by assumption) ?_
  (try simp only [Act.put, List.setIfInBounds_toArray, List.set_cons_zero, List.set_cons_succ])
  refine tkH (i := 35) (oi := { dst := some 55, op := Op.pick (Operand.tmp 47) (Operand.tmp 54) (Operand.const (Value.bool false)), type := 4, pos := _, after := _, guard := some (22, false) }) rfl (by assumption) ?_
  (try simp only [Act.put, List.setIfInBounds_toArray, List.set_cons_zero, List.set_cons_succ])
  refine tkH (i := 36) (oi := { dst := some 56, op := Op.pick (Operand.tmp 42) (Operand.const (Value.bool true)) (Operand.tmp 55), type := 4, pos := _, after := _, guard := none }) rfl (by assumption) ?_
  (try simp only [Act.put, List.setIfInBounds_toArray, List.set_cons_zero, List.set_cons_succ])
  refine tkH (i := 37) (oi := { dst := some 57, op := Op.move (Operand.tmp 56), type := 4, pos := _, after := _, guard := none }) rfl (by assumption) ?_
  (try simp only [Act.put, List.setIfInBounds_toArray, List.set_cons_zero, List.set_cons_succ])
  refine tkH (i := 38) (oi := { dst := some 58, op := Op.move (Operand.tmp 0), type := 79, pos := _, after := _, guard := some (37, false) }) rfl (by assumption) ?_
  (try simp only [Act.put, List.setIfInBounds_toArray, List.set_cons_zero, List.set_cons_succ])
  refine tkH (i := 40) (oi := { dst := some 60, op := Op.fieldAddr 85 (Operand.tmp 3) 4, type := 0, pos := _, after := _, guard := some (37, false) }) rfl (by assumption) ?_
  (try simp only [Act.put, List.setIfInBounds_toArray, List.set_cons_zero, List.set_cons_succ])
  refine tkH (i := 41) (oi := { dst := some 61, op := Op.load 3 (Operand.tmp 60), type := 3, pos := _, after := _, guard := some (37, false) }) rfl (by assumption) ?_
  (try simp only [Act.put, List.setIfInBounds_toArray, List.set_cons_zero, List.set_cons_succ])
  refine wpAnyH_ready (rs := [39]) (by kernel_rfl) (by simp) ?_
  refine (AllReadyH.cons (o := { dst := some 59, op := Op.call { callee := Callee.value (Operand.func 101), args := #[Operand.tmp 58], argTypes := #[79] }, type := 3, pos := _, after := _, guard := some (37, false) }) rfl (fun KQ hK => ?_) AllReadyH.nil)
  go_simp
  refine (klast_w _ p F c l _ hgl (by exact VG.out.drew) hgc (by exact BP.out.drew)).mono ?_
  rintro e W1 ⟨rfl, hk1⟩
  have b1 := BP.out.drew.keepS hk1 (by simp)
  have bq1 := BQ.out.drew.keepS hk1 (by simp)
  have K1 : Hid (Keep w.heap.size [p] w W1) := Lib.hid ((KA.out.drew.mono (S' := [p]) (Nat.le_refl _) (by simp)).trans (hk1.mono KA.out.size (by simp)))
  have y14 : W1.cell? ⟨p, 14, none⟩ = some (.bool false) := by
    have h := b1.cell 14
    rw [h]
    show some (Value.bool K.fin) = _
    rw [hfi]
    try rfl
  have y11 : W1.cell? ⟨p, 11, none⟩ = some (.bool false) := by
    have h := b1.cell 11
    rw [h]
    show some (Value.bool K.named) = _
    rw [hnm]
    try rfl
  have B1 := Lib.hid b1
  have BQ1 := Lib.hid bq1
  have yy : (fun w' => w'.cell? ⟨p, 14, none⟩ = some (.bool false) ∧ w'.cell? ⟨p, 11, none⟩ = some (.bool false) ∧ w'.cell? ⟨q, 5, none⟩ = some (.int .i64 F.length) ∧ w'.cell? ⟨q, 8, none⟩ = some (.int .u32 (sumO F))) W1 := ⟨y14, y11, BQ1.out.cell 5, BQ1.out.cell 8⟩
  clear hk1 b1 bq1 c14 c11 z5 z8 z9
  refine hK.out _ _ (by exact yy) (fun hHeld => ?_)
  clear hK KQ
  (try simp only [Act.put, List.setIfInBounds_toArray, List.set_cons_zero, List.set_cons_succ])
  refine tkH (i := 42) (oi := { dst := some 62, op := Op.binOp BinOp.gtr 3 (Operand.tmp 59) (Operand.tmp 61) 3, type := 4, pos := _, after := _, guard := some (37, false) }) rfl (by assumption) ?_
  (try simp only [Act.put, List.setIfInBounds_toArray, List.set_cons_zero, List.set_cons_succ])
  refine tkH (i := 43) (oi := { dst := some 63, op := Op.pick (Operand.tmp 57) (Operand.const (Value.bool true)) (Operand.tmp 62), type := 4, pos := _, after := _, guard := none }) rfl (by assumption) ?_
  (try simp only [Act.put, List.setIfInBounds_toArray, List.set_cons_zero, List.set_cons_succ])
  refine wpAnyH_done (by kernel_rfl) ?_ _
  have y5 : W1.cell? ⟨q, 5, none⟩ = some (.int .i64 F.length) := BQ1.out.cell 5
  have y8 : W1.cell? ⟨q, 8, none⟩ = some (.int .u32 (sumO F)) := BQ1.out.cell 8
  have x15 : W1.cell? ⟨p, 15, none⟩ = some (.int .i64 (szV F K.fin)) := B1.out.cell 15
  have x16 : W1.cell? ⟨p, 16, none⟩ = some (.int .u32 (smV F K.fin)) := B1.out.cell 16
  have x22 : W1.cell? ⟨p, 22, none⟩ = some (.bool K.nd) := B1.out.cell 22
  have fx14 := B1.out.frozen 14
  have fx15 := B1.out.frozen 15
  have fx16 := B1.out.frozen 16
  have fx22 := B1.out.frozen 22
  go_wp2_with fail
  have B2 : Hid (Blk (((W1.setCell ⟨p, 14, none⟩ (.bool true)).setCell ⟨p, 15, none⟩ (.int .i64 F.length)).setCell ⟨p, 16, none⟩ (.int .u32 (sumO F))) p TK (kcs F c l { K with fin := true })) := Lib.hid (((B1.out.set_ 14 _).set_ 15 _).set_ 16 _)
  have K2 : Hid (Keep w.heap.size [p] w (((W1.setCell ⟨p, 14, none⟩ (.bool true)).setCell ⟨p, 15, none⟩ (.int .i64 F.length)).setCell ⟨p, 16, none⟩ (.int .u32 (sumO F)))) := Lib.hid (((K1.out.set1).set1).set1)
  refine (kack_w _ p F c l { K with fin := true } B2.out).mono ?_
  rintro e W3 ⟨rfl, rfl⟩
  go_wp2_with fail
  have B3 : Hid (Blk ((((W1.setCell ⟨p, 14, none⟩ (.bool true)).setCell ⟨p, 15, none⟩ (.int .i64 F.length)).setCell ⟨p, 16, none⟩ (.int .u32 (sumO F))).setCell ⟨p, 22, none⟩ (.bool true)) p TK (kcs F c l { K with fin := true, nd := true })) := Lib.hid (B2.out.set_ 22 _)
  have K3 : Hid (Keep w.heap.size [p] w ((((W1.setCell ⟨p, 14, none⟩ (.bool true)).setCell ⟨p, 15, none⟩ (.int .i64 F.length)).setCell ⟨p, 16, none⟩ (.int .u32 (sumO F))).setCell ⟨p, 22, none⟩ (.bool true))) := Lib.hid (K2.out.set1)
  refine (kprog_w _ p F c l { K with fin := true, nd := true } B3.out).mono ?_
  rintro e W4 ⟨rfl, hb4, hk4⟩
  have B4 := Lib.hid hb4
  have K4 : Hid (Keep w.heap.size [p] w W4) := Lib.hid (K3.out.trans (hk4.mono K3.out.size (by simp)))
  clear hb4 hk4
  go_wp2_with fail
  go_ret
  exact ⟨rfl, B4.out, K4.out⟩
end Go.Proofs.Ytfkbcflgbjncdaa
