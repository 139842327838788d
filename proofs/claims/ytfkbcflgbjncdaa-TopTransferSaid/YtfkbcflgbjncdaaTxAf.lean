/- The receiving end: check. -/
import Derived.Test.YtfkbcflgbjncdaaTxR
import Derived.Test.YtfkbcflgbjncdaaTxAd
namespace Go.Proofs.Ytfkbcflgbjncdaa
set_option linter.unusedVariables false
set_option linter.unusedSimpArgs false
open Go.RowKit
set_option maxRecDepth 100000 in
set_option maxHeartbeats 4000000 in
theorem kchk_p1 (w : World) (p : Nat) (F : List Int) (c : Nat) (l : Ly) (K : Sk) (hp : K.ph = 1) (hb : Blk w p TK (kcs F c l K)) : Calls Try.prog 91 #[ptr p] w fun e w' => e = .returned (.tuple #[]) ∧ Blk w' p TK (kcs F c l K) ∧ Keep w.heap.size [p] w w' := by
  have HB := Lib.hid hb
  have c8 : w.cell? ⟨p, 8, none⟩ = some (.int .i64 1) := by rw [show (.int .i64 1 : Value) = .int .i64 (K.ph : Int) by rw [hp]; rfl]; exact hb.cell 8
  clear hb
  go_enter Try.func91, Try.ntmps91
  go_upto_region 0 with fail
  refine wp_region_held_drew (S := (fun w' => w'.cell? ⟨p, 8, none⟩ = some (.int .i64 1))) (by kernel_rfl) (by exact c8) (fun hHeld => ?_)
  refine tkH (i := 0) (oi := { dst := some 2, op := Op.move (Operand.tmp 0), type := 79, pos := _, after := _, guard := none }) rfl (by assumption) ?_
  (try simp only [Act.put, List.setIfInBounds_toArray, List.set_cons_zero, List.set_cons_succ])
  refine tkH (i := 1) (oi := { dst := some 3, op := Op.nilCheck (Operand.tmp 2), type := 0, pos := _, after := _, guard := none }) rfl (by assumption) ?_
  (try simp only [Act.put, List.setIfInBounds_toArray, List.set_cons_zero, List.set_cons_succ])
  refine tkH (i := 2) (oi := { dst := some 4, op := Op.fieldAddr 150 (Operand.tmp 3) 5, type := 0, pos := _, after := _, guard := none }) rfl (by assumption) ?_
  (try simp only [Act.put, List.setIfInBounds_toArray, List.set_cons_zero, List.set_cons_succ])
  refine tkH (i := 3) (oi := { dst := some 5, op := Op.load 3 (Operand.tmp 4), type := 3, pos := _, after := _, guard := none }) rfl (by assumption) ?_
  (try simp only [Act.put, List.setIfInBounds_toArray, List.set_cons_zero, List.set_cons_succ])
  refine tkH (i := 4) (oi := { dst := some 6, op := Op.binOp BinOp.neq 3 (Operand.tmp 5) (Operand.const (Value.int IntKind.i64 0)) 3, type := 4, pos := _, after := _, guard := none }) rfl (by assumption) ?_
  (try simp only [Act.put, List.setIfInBounds_toArray, List.set_cons_zero, List.set_cons_succ])
  refine tkH (i := 5) (oi := { dst := some 7, op := Op.move (Operand.tmp 6), type := 4, pos := _, after := _, guard := none }) rfl (by assumption) ?_
  (try simp only [Act.put, List.setIfInBounds_toArray, List.set_cons_zero, List.set_cons_succ])
  refine skH (i := 6) (oi := { dst := some 8, op := Op.move (Operand.tmp 0), type := 79, pos := _, after := _, guard := some (5, false) }) rfl (by assumption) ?_
  (try simp only [Act.put, List.setIfInBounds_toArray, List.set_cons_zero, List.set_cons_succ])
  refine skH (i := 7) (oi := { dst := some 9, op := Op.nilCheck (Operand.tmp 8), type := 0, pos := _, after := _, guard := some (5, false) }) rfl (by assumption) ?_
  (try simp only [Act.put, List.setIfInBounds_toArray, List.set_cons_zero, List.set_cons_succ])
  refine skH (i := 8) (oi := { dst := some 10, op := Op.fieldAddr 150 (Operand.tmp 9) 8, type := 0, pos := _, after := _, guard := some (5, false) }) rfl (by assumption) ?_
  (try simp only [Act.put, List.setIfInBounds_toArray, List.set_cons_zero, List.set_cons_succ])
  refine skH (i := 9) (oi := { dst := some 11, op := Op.load 4 (Operand.tmp 10), type := 4, pos := _, after := _, guard := some (5, false) }) rfl (by assumption) ?_
  (try simp only [Act.put, List.setIfInBounds_toArray, List.set_cons_zero, List.set_cons_succ])
  refine skH (i := 10) (oi := { dst := some 12, op := Op.unOp UnOp.not 4 (Operand.tmp 11), type := 4, pos := _, after := _, guard := some (5, false) }) rfl (by assumption) ?_
  (try simp only [Act.put, List.setIfInBounds_toArray, List.set_cons_zero, List.set_cons_succ])
  refine tkH (i := 11) (oi := { dst := some 13, op := Op.pick (Operand.tmp 7) (Operand.const (Value.bool true)) (Operand.tmp 12), type := 4, pos := _, after := _, guard := none }) rfl (by assumption) ?_
  (try simp only [Act.put, List.setIfInBounds_toArray, List.set_cons_zero, List.set_cons_succ])
  refine tkH (i := 12) (oi := { dst := some 14, op := Op.move (Operand.tmp 13), type := 4, pos := _, after := _, guard := none }) rfl (by assumption) ?_
  (try simp only [Act.put, List.setIfInBounds_toArray, List.set_cons_zero, List.set_cons_succ])
  refine skH (i := 13) (oi := { dst := some 15, op := Op.move (Operand.tmp 0), type := 79, pos := _, after := _, guard := some (12, false) }) rfl (by assumption) ?_
  (try simp only [Act.put, List.setIfInBounds_toArray, List.set_cons_zero, List.set_cons_succ])
  refine skH (i := 14) (oi := { dst := some 16, op := Op.nilCheck (Operand.tmp 15), type := 0, pos := _, after := _, guard := some (12, false) }) rfl (by assumption) ?_
  (try simp only [Act.put, List.setIfInBounds_toArray, List.set_cons_zero, List.set_cons_succ])
  refine skH (i := 15) (oi := { dst := some 17, op := Op.fieldAddr 150 (Operand.tmp 16) 11, type := 0, pos := _, after := _, guard := some (12, false) }) rfl (by assumption) ?_
  (try simp only [Act.put, List.setIfInBounds_toArray, List.set_cons_zero, List.set_cons_succ])
  refine skH (i := 16) (oi := { dst := some 18, op := Op.load 4 (Operand.tmp 17), type := 4, pos := _, after := _, guard := some (12, false) }) rfl (by assumption) ?_
  (try simp only [Act.put, List.setIfInBounds_toArray, List.set_cons_zero, List.set_cons_succ])
  refine skH (i := 17) (oi := { dst := some 19, op := Op.unOp UnOp.not 4 (Operand.tmp 18), type := 4, pos := _, after := _, guard := some (12, false) }) rfl (by assumption) ?_
  (try simp only [Act.put, List.setIfInBounds_toArray, List.set_cons_zero, List.set_cons_succ])
  refine tkH (i := 18) (oi := { dst := some 20, op := Op.pick (Operand.tmp 14) (Operand.const (Value.bool true)) (Operand.tmp 19), type := 4, pos := _, after := _, guard := none }) rfl (by assumption) ?_
  (try simp only [Act.put, List.setIfInBounds_toArray, List.set_cons_zero, List.set_cons_succ])
  refine tkH (i := 19) (oi := { dst := some 21, op := Op.move (Operand.tmp 20), type := 4, pos := _, after := _, guard := none }) rfl (by assumption) ?_
  (try simp only [Act.put, List.setIfInBounds_toArray, List.set_cons_zero, List.set_cons_succ])
  refine skH (i := 20) (oi := { dst := some 22, op := Op.move (Operand.tmp 0), type := 79, pos := _, after := _, guard := some (19, false) }) rfl (by assumption) ?_
  (try simp only [Act.put, List.setIfInBounds_toArray, List.set_cons_zero, List.set_cons_succ])
  refine skH (i := 21) (oi := { dst := some 23, op := Op.nilCheck (Operand.tmp 22), type := 0, pos := _, after := _, guard := some (19, false) }) rfl (by assumption) ?_
  (try simp only [Act.put, List.setIfInBounds_toArray, List.set_cons_zero, List.set_cons_succ])
  refine skH (i := 22) (oi := { dst := some 24, op := Op.fieldAddr 150 (Operand.tmp 23) 15, type := 0, pos := _, after := _, guard := some (19, false) }) rfl (by assumption) ?_
  (try simp only [Act.put, List.setIfInBounds_toArray, List.set_cons_zero, List.set_cons_succ])
  refine skH (i := 23) (oi := { dst := some 25, op := Op.load 83 (Operand.tmp 24), type := 83, pos := _, after := _, guard := some (19, false) }) rfl (by assumption) ?_
  (try simp only [Act.put, List.setIfInBounds_toArray, List.set_cons_zero, List.set_cons_succ])
  refine skH (i := 24) (oi := { dst := some 26, op := Op.call { callee := Callee.value (Operand.func 134), args := #[Operand.tmp 25], argTypes := #[83] }, type := 3, pos := _, after := _, guard := some (19, false) }) rfl (by assumption) ?_
  (try simp only [Act.put, List.setIfInBounds_toArray, List.set_cons_zero, List.set_cons_succ])
  refine skH (i := 25) (oi := { dst := some 27, op := Op.move (Operand.tmp 0), type := 79, pos := _, after := _, guard := some (19, false) }) rfl (by assumption) ?_
  (try simp only [Act.put, List.setIfInBounds_toArray, List.set_cons_zero, List.set_cons_succ])
  refine skH (i := 26) (oi := { dst := some 28, op := Op.nilCheck (Operand.tmp 27), type := 0, pos := _, after := _, guard := some (19, false) }) rfl (by assumption) ?_
  (try simp only [Act.put, List.setIfInBounds_toArray, List.set_cons_zero, List.set_cons_succ])
  refine skH (i := 27) (oi := { dst := some 29, op := Op.fieldAddr 150 (Operand.tmp 28) 10, type := 0, pos := _, after := _, guard := some (19, false) }) rfl (by assumption) ?_
  (try simp only [Act.put, List.setIfInBounds_toArray, List.set_cons_zero, List.set_cons_succ])
  refine skH (i := 28) (oi := { dst := some 30, op := Op.load 3 (Operand.tmp 29), type := 3, pos := _, after := _, guard := some (19, false) }) rfl (by assumption) ?_
  (try simp only [Act.put, List.setIfInBounds_toArray, List.set_cons_zero, List.set_cons_succ])
  refine skH (i := 29) (oi := { dst := some 31, op := Op.binOp BinOp.lss 3 (Operand.tmp 26) (Operand.tmp 30) 3, type := 4, pos := _, after := _, guard := some (19, false) }) rfl (by assumption) ?_
  (try simp only [Act.put, List.setIfInBounds_toArray, List.set_cons_zero, List.set_cons_succ])
  refine tkH (i := 30) (oi := { dst := some 32, op := Op.pick (Operand.tmp 21) (Operand.const (Value.bool true)) (Operand.tmp 31), type := 4, pos := _, after := _, guard := none }) rfl (by assumption) ?_
  (try simp only [Act.put, List.setIfInBounds_toArray, List.set_cons_zero, List.set_cons_succ])
  refine wpAnyH_done (by kernel_rfl) ?_ _
  go_wp2_with fail
  refine bodyPost_ret (results_none rfl _ _ _) rfl ?_
  exact ⟨rfl, HB.out, (Keep.refl w.heap.size [p] w).drew⟩
set_option maxRecDepth 100000 in
set_option maxHeartbeats 4000000 in
theorem kchk_p2 (w : World) (p : Nat) (F : List Int) (c : Nat) (l : Ly) (K : Sk) (hp : K.ph = 2) (hb : Blk w p TK (kcs F c l K)) : Calls Try.prog 91 #[ptr p] w fun e w' => e = .returned (.tuple #[]) ∧ Blk w' p TK (kcs F c l K) ∧ Keep w.heap.size [p] w w' := by
  have HB := Lib.hid hb
  have c8 : w.cell? ⟨p, 8, none⟩ = some (.int .i64 2) := by rw [show (.int .i64 2 : Value) = .int .i64 (K.ph : Int) by rw [hp]; rfl]; exact hb.cell 8
  clear hb
  go_enter Try.func91, Try.ntmps91
  go_upto_region 0 with fail
  refine wp_region_held_drew (S := (fun w' => w'.cell? ⟨p, 8, none⟩ = some (.int .i64 2))) (by kernel_rfl) (by exact c8) (fun hHeld => ?_)
  refine tkH (i := 0) (oi := { dst := some 2, op := Op.move (Operand.tmp 0), type := 79, pos := _, after := _, guard := none }) rfl (by assumption) ?_
  (try simp only [Act.put, List.setIfInBounds_toArray, List.set_cons_zero, List.set_cons_succ])
  refine tkH (i := 1) (oi := { dst := some 3, op := Op.nilCheck (Operand.tmp 2), type := 0, pos := _, after := _, guard := none }) rfl (by assumption) ?_
  (try simp only [Act.put, List.setIfInBounds_toArray, List.set_cons_zero, List.set_cons_succ])
  refine tkH (i := 2) (oi := { dst := some 4, op := Op.fieldAddr 150 (Operand.tmp 3) 5, type := 0, pos := _, after := _, guard := none }) rfl (by assumption) ?_
  (try simp only [Act.put, List.setIfInBounds_toArray, List.set_cons_zero, List.set_cons_succ])
  refine tkH (i := 3) (oi := { dst := some 5, op := Op.load 3 (Operand.tmp 4), type := 3, pos := _, after := _, guard := none }) rfl (by assumption) ?_
  (try simp only [Act.put, List.setIfInBounds_toArray, List.set_cons_zero, List.set_cons_succ])
  refine tkH (i := 4) (oi := { dst := some 6, op := Op.binOp BinOp.neq 3 (Operand.tmp 5) (Operand.const (Value.int IntKind.i64 0)) 3, type := 4, pos := _, after := _, guard := none }) rfl (by assumption) ?_
  (try simp only [Act.put, List.setIfInBounds_toArray, List.set_cons_zero, List.set_cons_succ])
  refine tkH (i := 5) (oi := { dst := some 7, op := Op.move (Operand.tmp 6), type := 4, pos := _, after := _, guard := none }) rfl (by assumption) ?_
  (try simp only [Act.put, List.setIfInBounds_toArray, List.set_cons_zero, List.set_cons_succ])
  refine skH (i := 6) (oi := { dst := some 8, op := Op.move (Operand.tmp 0), type := 79, pos := _, after := _, guard := some (5, false) }) rfl (by assumption) ?_
  (try simp only [Act.put, List.setIfInBounds_toArray, List.set_cons_zero, List.set_cons_succ])
  refine skH (i := 7) (oi := { dst := some 9, op := Op.nilCheck (Operand.tmp 8), type := 0, pos := _, after := _, guard := some (5, false) }) rfl (by assumption) ?_
  (try simp only [Act.put, List.setIfInBounds_toArray, List.set_cons_zero, List.set_cons_succ])
  refine skH (i := 8) (oi := { dst := some 10, op := Op.fieldAddr 150 (Operand.tmp 9) 8, type := 0, pos := _, after := _, guard := some (5, false) }) rfl (by assumption) ?_
  (try simp only [Act.put, List.setIfInBounds_toArray, List.set_cons_zero, List.set_cons_succ])
  refine skH (i := 9) (oi := { dst := some 11, op := Op.load 4 (Operand.tmp 10), type := 4, pos := _, after := _, guard := some (5, false) }) rfl (by assumption) ?_
  (try simp only [Act.put, List.setIfInBounds_toArray, List.set_cons_zero, List.set_cons_succ])
  refine skH (i := 10) (oi := { dst := some 12, op := Op.unOp UnOp.not 4 (Operand.tmp 11), type := 4, pos := _, after := _, guard := some (5, false) }) rfl (by assumption) ?_
  (try simp only [Act.put, List.setIfInBounds_toArray, List.set_cons_zero, List.set_cons_succ])
  refine tkH (i := 11) (oi := { dst := some 13, op := Op.pick (Operand.tmp 7) (Operand.const (Value.bool true)) (Operand.tmp 12), type := 4, pos := _, after := _, guard := none }) rfl (by assumption) ?_
  (try simp only [Act.put, List.setIfInBounds_toArray, List.set_cons_zero, List.set_cons_succ])
  refine tkH (i := 12) (oi := { dst := some 14, op := Op.move (Operand.tmp 13), type := 4, pos := _, after := _, guard := none }) rfl (by assumption) ?_
  (try simp only [Act.put, List.setIfInBounds_toArray, List.set_cons_zero, List.set_cons_succ])
  refine skH (i := 13) (oi := { dst := some 15, op := Op.move (Operand.tmp 0), type := 79, pos := _, after := _, guard := some (12, false) }) rfl (by assumption) ?_
  (try simp only [Act.put, List.setIfInBounds_toArray, List.set_cons_zero, List.set_cons_succ])
  refine skH (i := 14) (oi := { dst := some 16, op := Op.nilCheck (Operand.tmp 15), type := 0, pos := _, after := _, guard := some (12, false) }) rfl (by assumption) ?_
  (try simp only [Act.put, List.setIfInBounds_toArray, List.set_cons_zero, List.set_cons_succ])
  refine skH (i := 15) (oi := { dst := some 17, op := Op.fieldAddr 150 (Operand.tmp 16) 11, type := 0, pos := _, after := _, guard := some (12, false) }) rfl (by assumption) ?_
  (try simp only [Act.put, List.setIfInBounds_toArray, List.set_cons_zero, List.set_cons_succ])
  refine skH (i := 16) (oi := { dst := some 18, op := Op.load 4 (Operand.tmp 17), type := 4, pos := _, after := _, guard := some (12, false) }) rfl (by assumption) ?_
  (try simp only [Act.put, List.setIfInBounds_toArray, List.set_cons_zero, List.set_cons_succ])
  refine skH (i := 17) (oi := { dst := some 19, op := Op.unOp UnOp.not 4 (Operand.tmp 18), type := 4, pos := _, after := _, guard := some (12, false) }) rfl (by assumption) ?_
  (try simp only [Act.put, List.setIfInBounds_toArray, List.set_cons_zero, List.set_cons_succ])
  refine tkH (i := 18) (oi := { dst := some 20, op := Op.pick (Operand.tmp 14) (Operand.const (Value.bool true)) (Operand.tmp 19), type := 4, pos := _, after := _, guard := none }) rfl (by assumption) ?_
  (try simp only [Act.put, List.setIfInBounds_toArray, List.set_cons_zero, List.set_cons_succ])
  refine tkH (i := 19) (oi := { dst := some 21, op := Op.move (Operand.tmp 20), type := 4, pos := _, after := _, guard := none }) rfl (by assumption) ?_
  (try simp only [Act.put, List.setIfInBounds_toArray, List.set_cons_zero, List.set_cons_succ])
  refine skH (i := 20) (oi := { dst := some 22, op := Op.move (Operand.tmp 0), type := 79, pos := _, after := _, guard := some (19, false) }) rfl (by assumption) ?_
  (try simp only [Act.put, List.setIfInBounds_toArray, List.set_cons_zero, List.set_cons_succ])
  refine skH (i := 21) (oi := { dst := some 23, op := Op.nilCheck (Operand.tmp 22), type := 0, pos := _, after := _, guard := some (19, false) }) rfl (by assumption) ?_
  (try simp only [Act.put, List.setIfInBounds_toArray, List.set_cons_zero, List.set_cons_succ])
  refine skH (i := 22) (oi := { dst := some 24, op := Op.fieldAddr 150 (Operand.tmp 23) 15, type := 0, pos := _, after := _, guard := some (19, false) }) rfl (by assumption) ?_
  (try simp only [Act.put, List.setIfInBounds_toArray, List.set_cons_zero, List.set_cons_succ])
  refine skH (i := 23) (oi := { dst := some 25, op := Op.load 83 (Operand.tmp 24), type := 83, pos := _, after := _, guard := some (19, false) }) rfl (by assumption) ?_
  (try simp only [Act.put, List.setIfInBounds_toArray, List.set_cons_zero, List.set_cons_succ])
  refine skH (i := 24) (oi := { dst := some 26, op := Op.call { callee := Callee.value (Operand.func 134), args := #[Operand.tmp 25], argTypes := #[83] }, type := 3, pos := _, after := _, guard := some (19, false) }) rfl (by assumption) ?_
  (try simp only [Act.put, List.setIfInBounds_toArray, List.set_cons_zero, List.set_cons_succ])
  refine skH (i := 25) (oi := { dst := some 27, op := Op.move (Operand.tmp 0), type := 79, pos := _, after := _, guard := some (19, false) }) rfl (by assumption) ?_
  (try simp only [Act.put, List.setIfInBounds_toArray, List.set_cons_zero, List.set_cons_succ])
  refine skH (i := 26) (oi := { dst := some 28, op := Op.nilCheck (Operand.tmp 27), type := 0, pos := _, after := _, guard := some (19, false) }) rfl (by assumption) ?_
  (try simp only [Act.put, List.setIfInBounds_toArray, List.set_cons_zero, List.set_cons_succ])
  refine skH (i := 27) (oi := { dst := some 29, op := Op.fieldAddr 150 (Operand.tmp 28) 10, type := 0, pos := _, after := _, guard := some (19, false) }) rfl (by assumption) ?_
  (try simp only [Act.put, List.setIfInBounds_toArray, List.set_cons_zero, List.set_cons_succ])
  refine skH (i := 28) (oi := { dst := some 30, op := Op.load 3 (Operand.tmp 29), type := 3, pos := _, after := _, guard := some (19, false) }) rfl (by assumption) ?_
  (try simp only [Act.put, List.setIfInBounds_toArray, List.set_cons_zero, List.set_cons_succ])
  refine skH (i := 29) (oi := { dst := some 31, op := Op.binOp BinOp.lss 3 (Operand.tmp 26) (Operand.tmp 30) 3, type := 4, pos := _, after := _, guard := some (19, false) }) rfl (by assumption) ?_
  (try simp only [Act.put, List.setIfInBounds_toArray, List.set_cons_zero, List.set_cons_succ])
  refine tkH (i := 30) (oi := { dst := some 32, op := Op.pick (Operand.tmp 21) (Operand.const (Value.bool true)) (Operand.tmp 31), type := 4, pos := _, after := _, guard := none }) rfl (by assumption) ?_
  (try simp only [Act.put, List.setIfInBounds_toArray, List.set_cons_zero, List.set_cons_succ])
  refine wpAnyH_done (by kernel_rfl) ?_ _
  go_wp2_with fail
  refine bodyPost_ret (results_none rfl _ _ _) rfl ?_
  exact ⟨rfl, HB.out, (Keep.refl w.heap.size [p] w).drew⟩
set_option maxRecDepth 100000 in
set_option maxHeartbeats 4000000 in
theorem kchk_nn (w : World) (p : Nat) (F : List Int) (c : Nat) (l : Ly) (K : Sk) (hp : K.ph = 0) (hnm : K.named = false) (hb : Blk w p TK (kcs F c l K)) : Calls Try.prog 91 #[ptr p] w fun e w' => e = .returned (.tuple #[]) ∧ Blk w' p TK (kcs F c l K) ∧ Keep w.heap.size [p] w w' := by
  have HB := Lib.hid hb
  have c8 : w.cell? ⟨p, 8, none⟩ = some (.int .i64 0) := by rw [show (.int .i64 0 : Value) = .int .i64 (K.ph : Int) by rw [hp]; rfl]; exact hb.cell 8
  have c11 : w.cell? ⟨p, 11, none⟩ = some (.bool false) := by
    have h := hb.cell 11
    rw [h]
    show some (Value.bool K.named) = _
    rw [hnm]
    try rfl
  clear hb
  go_enter Try.func91, Try.ntmps91
  go_upto_region 0 with fail
  refine wp_region_held_drew (S := (fun w' => w'.cell? ⟨p, 8, none⟩ = some (.int .i64 0) ∧ w'.cell? ⟨p, 11, none⟩ = some (.bool false))) (by kernel_rfl) (by exact ⟨c8, c11⟩) (fun hHeld => ?_)
  refine tkH (i := 0) (oi := { dst := some 2, op := Op.move (Operand.tmp 0), type := 79, pos := _, after := _, guard := none }) rfl (by assumption) ?_
  (try simp only [Act.put, List.setIfInBounds_toArray, List.set_cons_zero, List.set_cons_succ])
  refine tkH (i := 1) (oi := { dst := some 3, op := Op.nilCheck (Operand.tmp 2), type := 0, pos := _, after := _, guard := none }) rfl (by assumption) ?_
  (try simp only [Act.put, List.setIfInBounds_toArray, List.set_cons_zero, List.set_cons_succ])
  refine tkH (i := 2) (oi := { dst := some 4, op := Op.fieldAddr 150 (Operand.tmp 3) 5, type := 0, pos := _, after := _, guard := none }) rfl (by assumption) ?_
  (try simp only [Act.put, List.setIfInBounds_toArray, List.set_cons_zero, List.set_cons_succ])
  refine tkH (i := 3) (oi := { dst := some 5, op := Op.load 3 (Operand.tmp 4), type := 3, pos := _, after := _, guard := none }) rfl (by assumption) ?_
  (try simp only [Act.put, List.setIfInBounds_toArray, List.set_cons_zero, List.set_cons_succ])
  refine tkH (i := 4) (oi := { dst := some 6, op := Op.binOp BinOp.neq 3 (Operand.tmp 5) (Operand.const (Value.int IntKind.i64 0)) 3, type := 4, pos := _, after := _, guard := none }) rfl (by assumption) ?_
  (try simp only [Act.put, List.setIfInBounds_toArray, List.set_cons_zero, List.set_cons_succ])
  refine tkH (i := 5) (oi := { dst := some 7, op := Op.move (Operand.tmp 6), type := 4, pos := _, after := _, guard := none }) rfl (by assumption) ?_
  (try simp only [Act.put, List.setIfInBounds_toArray, List.set_cons_zero, List.set_cons_succ])
  refine tkH (i := 6) (oi := { dst := some 8, op := Op.move (Operand.tmp 0), type := 79, pos := _, after := _, guard := some (5, false) }) rfl (by assumption) ?_
  (try simp only [Act.put, List.setIfInBounds_toArray, List.set_cons_zero, List.set_cons_succ])
  refine tkH (i := 7) (oi := { dst := some 9, op := Op.nilCheck (Operand.tmp 8), type := 0, pos := _, after := _, guard := some (5, false) }) rfl (by assumption) ?_
  (try simp only [Act.put, List.setIfInBounds_toArray, List.set_cons_zero, List.set_cons_succ])
  refine tkH (i := 8) (oi := { dst := some 10, op := Op.fieldAddr 150 (Operand.tmp 9) 8, type := 0, pos := _, after := _, guard := some (5, false) }) rfl (by assumption) ?_
  (try simp only [Act.put, List.setIfInBounds_toArray, List.set_cons_zero, List.set_cons_succ])
  refine tkH (i := 9) (oi := { dst := some 11, op := Op.load 4 (Operand.tmp 10), type := 4, pos := _, after := _, guard := some (5, false) }) rfl (by assumption) ?_
  (try simp only [Act.put, List.setIfInBounds_toArray, List.set_cons_zero, List.set_cons_succ])
  refine tkH (i := 10) (oi := { dst := some 12, op := Op.unOp UnOp.not 4 (Operand.tmp 11), type := 4, pos := _, after := _, guard := some (5, false) }) rfl (by assumption) ?_
  (try simp only [Act.put, List.setIfInBounds_toArray, List.set_cons_zero, List.set_cons_succ])
  refine tkH (i := 11) (oi := { dst := some 13, op := Op.pick (Operand.tmp 7) (Operand.const (Value.bool true)) (Operand.tmp 12), type := 4, pos := _, after := _, guard := none }) rfl (by assumption) ?_
  (try simp only [Act.put, List.setIfInBounds_toArray, List.set_cons_zero, List.set_cons_succ])
  refine tkH (i := 12) (oi := { dst := some 14, op := Op.move (Operand.tmp 13), type := 4, pos := _, after := _, guard := none }) rfl (by assumption) ?_
  (try simp only [Act.put, List.setIfInBounds_toArray, List.set_cons_zero, List.set_cons_succ])
  refine skH (i := 13) (oi := { dst := some 15, op := Op.move (Operand.tmp 0), type := 79, pos := _, after := _, guard := some (12, false) }) rfl (by assumption) ?_
  (try simp only [Act.put, List.setIfInBounds_toArray, List.set_cons_zero, List.set_cons_succ])
  refine skH (i := 14) (oi := { dst := some 16, op := Op.nilCheck (Operand.tmp 15), type := 0, pos := _, after := _, guard := some (12, false) }) rfl (by assumption) ?_
  (try simp only [Act.put, List.setIfInBounds_toArray, List.set_cons_zero, List.set_cons_succ])
  refine skH (i := 15) (oi := { dst := some 17, op := Op.fieldAddr 150 (Operand.tmp 16) 11, type := 0, pos := _, after := _, guard := some (12, false) }) rfl (by assumption) ?_
  (try simp only [Act.put, List.setIfInBounds_toArray, List.set_cons_zero, List.set_cons_succ])
  refine skH (i := 16) (oi := { dst := some 18, op := Op.load 4 (Operand.tmp 17), type := 4, pos := _, after := _, guard := some (12, false) }) rfl (by assumption) ?_
  (try simp only [Act.put, List.setIfInBounds_toArray, List.set_cons_zero, List.set_cons_succ])
  refine skH (i := 17) (oi := { dst := some 19, op := Op.unOp UnOp.not 4 (Operand.tmp 18), type := 4, pos := _, after := _, guard := some (12, false) }) rfl (by assumption) ?_
  (try simp only [Act.put, List.setIfInBounds_toArray, List.set_cons_zero, List.set_cons_succ])
  refine tkH (i := 18) (oi := { dst := some 20, op := Op.pick (Operand.tmp 14) (Operand.const (Value.bool true)) (Operand.tmp 19), type := 4, pos := _, after := _, guard := none }) rfl (by assumption) ?_
  (try simp only [Act.put, List.setIfInBounds_toArray, List.set_cons_zero, List.set_cons_succ])
  refine tkH (i := 19) (oi := { dst := some 21, op := Op.move (Operand.tmp 20), type := 4, pos := _, after := _, guard := none }) rfl (by assumption) ?_
  (try simp only [Act.put, List.setIfInBounds_toArray, List.set_cons_zero, List.set_cons_succ])
  refine skH (i := 20) (oi := { dst := some 22, op := Op.move (Operand.tmp 0), type := 79, pos := _, after := _, guard := some (19, false) }) rfl (by assumption) ?_
  (try simp only [Act.put, List.setIfInBounds_toArray, List.set_cons_zero, List.set_cons_succ])
  refine skH (i := 21) (oi := { dst := some 23, op := Op.nilCheck (Operand.tmp 22), type := 0, pos := _, after := _, guard := some (19, false) }) rfl (by assumption) ?_
  (try simp only [Act.put, List.setIfInBounds_toArray, List.set_cons_zero, List.set_cons_succ])
  refine skH (i := 22) (oi := { dst := some 24, op := Op.fieldAddr 150 (Operand.tmp 23) 15, type := 0, pos := _, after := _, guard := some (19, false) }) rfl (by assumption) ?_
  (try simp only [Act.put, List.setIfInBounds_toArray, List.set_cons_zero, List.set_cons_succ])
  refine skH (i := 23) (oi := { dst := some 25, op := Op.load 83 (Operand.tmp 24), type := 83, pos := _, after := _, guard := some (19, false) }) rfl (by assumption) ?_
  (try simp only [Act.put, List.setIfInBounds_toArray, List.set_cons_zero, List.set_cons_succ])
  refine skH (i := 24) (oi := { dst := some 26, op := Op.call { callee := Callee.value (Operand.func 134), args := #[Operand.tmp 25], argTypes := #[83] }, type := 3, pos := _, after := _, guard := some (19, false) }) rfl (by assumption) ?_
  (try simp only [Act.put, List.setIfInBounds_toArray, List.set_cons_zero, List.set_cons_succ])
  refine skH (i := 25) (oi := { dst := some 27, op := Op.move (Operand.tmp 0), type := 79, pos := _, after := _, guard := some (19, false) }) rfl (by assumption) ?_
  (try simp only [Act.put, List.setIfInBounds_toArray, List.set_cons_zero, List.set_cons_succ])
  refine skH (i := 26) (oi := { dst := some 28, op := Op.nilCheck (Operand.tmp 27), type := 0, pos := _, after := _, guard := some (19, false) }) rfl (by assumption) ?_
  (try simp only [Act.put, List.setIfInBounds_toArray, List.set_cons_zero, List.set_cons_succ])
  refine skH (i := 27) (oi := { dst := some 29, op := Op.fieldAddr 150 (Operand.tmp 28) 10, type := 0, pos := _, after := _, guard := some (19, false) }) rfl (by assumption) ?_
  (try simp only [Act.put, List.setIfInBounds_toArray, List.set_cons_zero, List.set_cons_succ])
  refine skH (i := 28) (oi := { dst := some 30, op := Op.load 3 (Operand.tmp 29), type := 3, pos := _, after := _, guard := some (19, false) }) rfl (by assumption) ?_
  (try simp only [Act.put, List.setIfInBounds_toArray, List.set_cons_zero, List.set_cons_succ])
  refine skH (i := 29) (oi := { dst := some 31, op := Op.binOp BinOp.lss 3 (Operand.tmp 26) (Operand.tmp 30) 3, type := 4, pos := _, after := _, guard := some (19, false) }) rfl (by assumption) ?_
  (try simp only [Act.put, List.setIfInBounds_toArray, List.set_cons_zero, List.set_cons_succ])
  refine tkH (i := 30) (oi := { dst := some 32, op := Op.pick (Operand.tmp 21) (Operand.const (Value.bool true)) (Operand.tmp 31), type := 4, pos := _, after := _, guard := none }) rfl (by assumption) ?_
  (try simp only [Act.put, List.setIfInBounds_toArray, List.set_cons_zero, List.set_cons_succ])
  refine wpAnyH_done (by kernel_rfl) ?_ _
  go_wp2_with fail
  refine bodyPost_ret (results_none rfl _ _ _) rfl ?_
  exact ⟨rfl, HB.out, (Keep.refl w.heap.size [p] w).drew⟩
set_option maxRecDepth 100000 in
set_option maxHeartbeats 4000000 in
theorem kchk_nf (w : World) (p : Nat) (F : List Int) (c : Nat) (l : Ly) (K : Sk) (hp : K.ph = 0) (hnm : K.named = true) (hfi : K.fin = false) (hb : Blk w p TK (kcs F c l K)) : Calls Try.prog 91 #[ptr p] w fun e w' => e = .returned (.tuple #[]) ∧ Blk w' p TK (kcs F c l K) ∧ Keep w.heap.size [p] w w' := by
  have HB := Lib.hid hb
  have c8 : w.cell? ⟨p, 8, none⟩ = some (.int .i64 0) := by rw [show (.int .i64 0 : Value) = .int .i64 (K.ph : Int) by rw [hp]; rfl]; exact hb.cell 8
  have c11 : w.cell? ⟨p, 11, none⟩ = some (.bool true) := by
    have h := hb.cell 11
    rw [h]
    show some (Value.bool K.named) = _
    rw [hnm]
    try rfl
  have c14 : w.cell? ⟨p, 14, none⟩ = some (.bool false) := by
    have h := hb.cell 14
    rw [h]
    show some (Value.bool K.fin) = _
    rw [hfi]
    try rfl
  clear hb
  go_enter Try.func91, Try.ntmps91
  go_upto_region 0 with fail
  refine wp_region_held_drew (S := (fun w' => w'.cell? ⟨p, 8, none⟩ = some (.int .i64 0) ∧ w'.cell? ⟨p, 11, none⟩ = some (.bool true) ∧ w'.cell? ⟨p, 14, none⟩ = some (.bool false))) (by kernel_rfl) (by exact ⟨c8, c11, c14⟩) (fun hHeld => ?_)
  refine tkH (i := 0) (oi := { dst := some 2, op := Op.move (Operand.tmp 0), type := 79, pos := _, after := _, guard := none }) rfl (by assumption) ?_
  (try simp only [Act.put, List.setIfInBounds_toArray, List.set_cons_zero, List.set_cons_succ])
  refine tkH (i := 1) (oi := { dst := some 3, op := Op.nilCheck (Operand.tmp 2), type := 0, pos := _, after := _, guard := none }) rfl (by assumption) ?_
  (try simp only [Act.put, List.setIfInBounds_toArray, List.set_cons_zero, List.set_cons_succ])
  refine tkH (i := 2) (oi := { dst := some 4, op := Op.fieldAddr 150 (Operand.tmp 3) 5, type := 0, pos := _, after := _, guard := none }) rfl (by assumption) ?_
  (try simp only [Act.put, List.setIfInBounds_toArray, List.set_cons_zero, List.set_cons_succ])
  refine tkH (i := 3) (oi := { dst := some 5, op := Op.load 3 (Operand.tmp 4), type := 3, pos := _, after := _, guard := none }) rfl (by assumption) ?_
  (try simp only [Act.put, List.setIfInBounds_toArray, List.set_cons_zero, List.set_cons_succ])
  refine tkH (i := 4) (oi := { dst := some 6, op := Op.binOp BinOp.neq 3 (Operand.tmp 5) (Operand.const (Value.int IntKind.i64 0)) 3, type := 4, pos := _, after := _, guard := none }) rfl (by assumption) ?_
  (try simp only [Act.put, List.setIfInBounds_toArray, List.set_cons_zero, List.set_cons_succ])
  refine tkH (i := 5) (oi := { dst := some 7, op := Op.move (Operand.tmp 6), type := 4, pos := _, after := _, guard := none }) rfl (by assumption) ?_
  (try simp only [Act.put, List.setIfInBounds_toArray, List.set_cons_zero, List.set_cons_succ])
  refine tkH (i := 6) (oi := { dst := some 8, op := Op.move (Operand.tmp 0), type := 79, pos := _, after := _, guard := some (5, false) }) rfl (by assumption) ?_
  (try simp only [Act.put, List.setIfInBounds_toArray, List.set_cons_zero, List.set_cons_succ])
  refine tkH (i := 7) (oi := { dst := some 9, op := Op.nilCheck (Operand.tmp 8), type := 0, pos := _, after := _, guard := some (5, false) }) rfl (by assumption) ?_
  (try simp only [Act.put, List.setIfInBounds_toArray, List.set_cons_zero, List.set_cons_succ])
  refine tkH (i := 8) (oi := { dst := some 10, op := Op.fieldAddr 150 (Operand.tmp 9) 8, type := 0, pos := _, after := _, guard := some (5, false) }) rfl (by assumption) ?_
  (try simp only [Act.put, List.setIfInBounds_toArray, List.set_cons_zero, List.set_cons_succ])
  refine tkH (i := 9) (oi := { dst := some 11, op := Op.load 4 (Operand.tmp 10), type := 4, pos := _, after := _, guard := some (5, false) }) rfl (by assumption) ?_
  (try simp only [Act.put, List.setIfInBounds_toArray, List.set_cons_zero, List.set_cons_succ])
  refine tkH (i := 10) (oi := { dst := some 12, op := Op.unOp UnOp.not 4 (Operand.tmp 11), type := 4, pos := _, after := _, guard := some (5, false) }) rfl (by assumption) ?_
  (try simp only [Act.put, List.setIfInBounds_toArray, List.set_cons_zero, List.set_cons_succ])
  refine tkH (i := 11) (oi := { dst := some 13, op := Op.pick (Operand.tmp 7) (Operand.const (Value.bool true)) (Operand.tmp 12), type := 4, pos := _, after := _, guard := none }) rfl (by assumption) ?_
  (try simp only [Act.put, List.setIfInBounds_toArray, List.set_cons_zero, List.set_cons_succ])
  refine tkH (i := 12) (oi := { dst := some 14, op := Op.move (Operand.tmp 13), type := 4, pos := _, after := _, guard := none }) rfl (by assumption) ?_
  (try simp only [Act.put, List.setIfInBounds_toArray, List.set_cons_zero, List.set_cons_succ])
  refine tkH (i := 13) (oi := { dst := some 15, op := Op.move (Operand.tmp 0), type := 79, pos := _, after := _, guard := some (12, false) }) rfl (by assumption) ?_
  (try simp only [Act.put, List.setIfInBounds_toArray, List.set_cons_zero, List.set_cons_succ])
  refine tkH (i := 14) (oi := { dst := some 16, op := Op.nilCheck (Operand.tmp 15), type := 0, pos := _, after := _, guard := some (12, false) }) rfl (by assumption) ?_
  (try simp only [Act.put, List.setIfInBounds_toArray, List.set_cons_zero, List.set_cons_succ])
  refine tkH (i := 15) (oi := { dst := some 17, op := Op.fieldAddr 150 (Operand.tmp 16) 11, type := 0, pos := _, after := _, guard := some (12, false) }) rfl (by assumption) ?_
  (try simp only [Act.put, List.setIfInBounds_toArray, List.set_cons_zero, List.set_cons_succ])
  refine tkH (i := 16) (oi := { dst := some 18, op := Op.load 4 (Operand.tmp 17), type := 4, pos := _, after := _, guard := some (12, false) }) rfl (by assumption) ?_
  (try simp only [Act.put, List.setIfInBounds_toArray, List.set_cons_zero, List.set_cons_succ])
  refine tkH (i := 17) (oi := { dst := some 19, op := Op.unOp UnOp.not 4 (Operand.tmp 18), type := 4, pos := _, after := _, guard := some (12, false) }) rfl (by assumption) ?_
  (try simp only [Act.put, List.setIfInBounds_toArray, List.set_cons_zero, List.set_cons_succ])
  refine tkH (i := 18) (oi := { dst := some 20, op := Op.pick (Operand.tmp 14) (Operand.const (Value.bool true)) (Operand.tmp 19), type := 4, pos := _, after := _, guard := none }) rfl (by assumption) ?_
  (try simp only [Act.put, List.setIfInBounds_toArray, List.set_cons_zero, List.set_cons_succ])
  refine tkH (i := 19) (oi := { dst := some 21, op := Op.move (Operand.tmp 20), type := 4, pos := _, after := _, guard := none }) rfl (by assumption) ?_
  (try simp only [Act.put, List.setIfInBounds_toArray, List.set_cons_zero, List.set_cons_succ])
  refine skH (i := 20) (oi := { dst := some 22, op := Op.move (Operand.tmp 0), type := 79, pos := _, after := _, guard := some (19, false) }) rfl (by assumption) ?_
  (try simp only [Act.put, List.setIfInBounds_toArray, List.set_cons_zero, List.set_cons_succ])
  refine skH (i := 21) (oi := { dst := some 23, op := Op.nilCheck (Operand.tmp 22), type := 0, pos := _, after := _, guard := some (19, false) }) rfl (by assumption) ?_
  (try simp only [Act.put, List.setIfInBounds_toArray, List.set_cons_zero, List.set_cons_succ])
  refine skH (i := 22) (oi := { dst := some 24, op := Op.fieldAddr 150 (Operand.tmp 23) 15, type := 0, pos := _, after := _, guard := some (19, false) }) rfl (by assumption) ?_
  (try simp only [Act.put, List.setIfInBounds_toArray, List.set_cons_zero, List.set_cons_succ])
  refine skH (i := 23) (oi := { dst := some 25, op := Op.load 83 (Operand.tmp 24), type := 83, pos := _, after := _, guard := some (19, false) }) rfl (by assumption) ?_
  (try simp only [Act.put, List.setIfInBounds_toArray, List.set_cons_zero, List.set_cons_succ])
  refine skH (i := 24) (oi := { dst := some 26, op := Op.call { callee := Callee.value (Operand.func 134), args := #[Operand.tmp 25], argTypes := #[83] }, type := 3, pos := _, after := _, guard := some (19, false) }) rfl (by assumption) ?_
  (try simp only [Act.put, List.setIfInBounds_toArray, List.set_cons_zero, List.set_cons_succ])
  refine skH (i := 25) (oi := { dst := some 27, op := Op.move (Operand.tmp 0), type := 79, pos := _, after := _, guard := some (19, false) }) rfl (by assumption) ?_
  (try simp only [Act.put, List.setIfInBounds_toArray, List.set_cons_zero, List.set_cons_succ])
  refine skH (i := 26) (oi := { dst := some 28, op := Op.nilCheck (Operand.tmp 27), type := 0, pos := _, after := _, guard := some (19, false) }) rfl (by assumption) ?_
  (try simp only [Act.put, List.setIfInBounds_toArray, List.set_cons_zero, List.set_cons_succ])
  refine skH (i := 27) (oi := { dst := some 29, op := Op.fieldAddr 150 (Operand.tmp 28) 10, type := 0, pos := _, after := _, guard := some (19, false) }) rfl (by assumption) ?_
  (try simp only [Act.put, List.setIfInBounds_toArray, List.set_cons_zero, List.set_cons_succ])
  refine skH (i := 28) (oi := { dst := some 30, op := Op.load 3 (Operand.tmp 29), type := 3, pos := _, after := _, guard := some (19, false) }) rfl (by assumption) ?_
  (try simp only [Act.put, List.setIfInBounds_toArray, List.set_cons_zero, List.set_cons_succ])
  refine skH (i := 29) (oi := { dst := some 31, op := Op.binOp BinOp.lss 3 (Operand.tmp 26) (Operand.tmp 30) 3, type := 4, pos := _, after := _, guard := some (19, false) }) rfl (by assumption) ?_
  (try simp only [Act.put, List.setIfInBounds_toArray, List.set_cons_zero, List.set_cons_succ])
  refine tkH (i := 30) (oi := { dst := some 32, op := Op.pick (Operand.tmp 21) (Operand.const (Value.bool true)) (Operand.tmp 31), type := 4, pos := _, after := _, guard := none }) rfl (by assumption) ?_
  (try simp only [Act.put, List.setIfInBounds_toArray, List.set_cons_zero, List.set_cons_succ])
  refine wpAnyH_done (by kernel_rfl) ?_ _
  go_wp2_with fail
  refine bodyPost_ret (results_none rfl _ _ _) rfl ?_
  exact ⟨rfl, HB.out, (Keep.refl w.heap.size [p] w).drew⟩
set_option maxRecDepth 100000 in
set_option maxHeartbeats 4000000 in
theorem kchk_part (w : World) (p : Nat) (F : List Int) (c : Nat) (l : Ly) (K : Sk) (hp : K.ph = 0) (hnm : K.named = true) (hfi : K.fin = true) (hgl : K.got.length ≤ 1000) (hn : F.length ≤ 300) (hgn : Nrm K.got) (hgi : ∀ z, mem K.got z → 0 ≤ z ∧ z < (F.length : Int)) (hgv : Vw w l.W K.got.length 2 (gcs K.got)) (hw : width K.got < F.length) (hb : Blk w p TK (kcs F c l K)) : Calls Try.prog 91 #[ptr p] w fun e w' => e = .returned (.tuple #[]) ∧ Blk w' p TK (kcs F c l K) ∧ Keep w.heap.size [p] w w' := by
  have HB := Lib.hid hb
  have c8 : w.cell? ⟨p, 8, none⟩ = some (.int .i64 0) := by rw [show (.int .i64 0 : Value) = .int .i64 (K.ph : Int) by rw [hp]; rfl]; exact hb.cell 8
  have c11 : w.cell? ⟨p, 11, none⟩ = some (.bool true) := by
    have h := hb.cell 11
    rw [h]
    show some (Value.bool K.named) = _
    rw [hnm]
    try rfl
  have c13 : w.cell? ⟨p, 13, none⟩ = some (.int .i64 F.length) := by
    have h := hb.cell 13
    rw [h]
    show some (Value.int .i64 (szV F K.named)) = _
    rw [hnm]
    try rfl
  have c14 : w.cell? ⟨p, 14, none⟩ = some (.bool true) := by
    have h := hb.cell 14
    rw [h]
    show some (Value.bool K.fin) = _
    rw [hfi]
    try rfl
  have c18 : w.cell? ⟨p, 18, none⟩ = some (.slice l.W K.got.length l.wc) := hb.cell 18
  have HG := Lib.hid hgv
  have HGN := Lib.hid hgn
  have HGI := Lib.hid hgi
  clear hgv hgn hgi
  clear hb
  go_enter Try.func91, Try.ntmps91
  go_upto_region 0 with fail
  refine wp_region_held_drew (S := (fun w' => w'.cell? ⟨p, 8, none⟩ = some (.int .i64 0) ∧ w'.cell? ⟨p, 11, none⟩ = some (.bool true) ∧ w'.cell? ⟨p, 13, none⟩ = some (.int .i64 F.length) ∧ w'.cell? ⟨p, 14, none⟩ = some (.bool true) ∧ w'.cell? ⟨p, 18, none⟩ = some (.slice l.W K.got.length l.wc))) (by kernel_rfl) (by exact ⟨c8, c11, c13, c14, c18⟩) (fun hHeld => ?_)
  refine tkH (i := 0) (oi := { dst := some 2, op := Op.move (Operand.tmp 0), type := 79, pos := _, after := _, guard := none }) rfl (by assumption) ?_
  (try simp only [Act.put, List.setIfInBounds_toArray, List.set_cons_zero, List.set_cons_succ])
  refine tkH (i := 1) (oi := { dst := some 3, op := Op.nilCheck (Operand.tmp 2), type := 0, pos := _, after := _, guard := none }) rfl (by assumption) ?_
  (try simp only [Act.put, List.setIfInBounds_toArray, List.set_cons_zero, List.set_cons_succ])
  refine tkH (i := 2) (oi := { dst := some 4, op := Op.fieldAddr 150 (Operand.tmp 3) 5, type := 0, pos := _, after := _, guard := none }) rfl (by assumption) ?_
  (try simp only [Act.put, List.setIfInBounds_toArray, List.set_cons_zero, List.set_cons_succ])
  refine tkH (i := 3) (oi := { dst := some 5, op := Op.load 3 (Operand.tmp 4), type := 3, pos := _, after := _, guard := none }) rfl (by assumption) ?_
  (try simp only [Act.put, List.setIfInBounds_toArray, List.set_cons_zero, List.set_cons_succ])
  refine tkH (i := 4) (oi := { dst := some 6, op := Op.binOp BinOp.neq 3 (Operand.tmp 5) (Operand.const (Value.int IntKind.i64 0)) 3, type := 4, pos := _, after := _, guard := none }) rfl (by assumption) ?_
  (try simp only [Act.put, List.setIfInBounds_toArray, List.set_cons_zero, List.set_cons_succ])
  refine tkH (i := 5) (oi := { dst := some 7, op := Op.move (Operand.tmp 6), type := 4, pos := _, after := _, guard := none }) rfl (by assumption) ?_
  (try simp only [Act.put, List.setIfInBounds_toArray, List.set_cons_zero, List.set_cons_succ])
  refine tkH (i := 6) (oi := { dst := some 8, op := Op.move (Operand.tmp 0), type := 79, pos := _, after := _, guard := some (5, false) }) rfl (by assumption) ?_
  (try simp only [Act.put, List.setIfInBounds_toArray, List.set_cons_zero, List.set_cons_succ])
  refine tkH (i := 7) (oi := { dst := some 9, op := Op.nilCheck (Operand.tmp 8), type := 0, pos := _, after := _, guard := some (5, false) }) rfl (by assumption) ?_
  (try simp only [Act.put, List.setIfInBounds_toArray, List.set_cons_zero, List.set_cons_succ])
  refine tkH (i := 8) (oi := { dst := some 10, op := Op.fieldAddr 150 (Operand.tmp 9) 8, type := 0, pos := _, after := _, guard := some (5, false) }) rfl (by assumption) ?_
  (try simp only [Act.put, List.setIfInBounds_toArray, List.set_cons_zero, List.set_cons_succ])
  refine tkH (i := 9) (oi := { dst := some 11, op := Op.load 4 (Operand.tmp 10), type := 4, pos := _, after := _, guard := some (5, false) }) rfl (by assumption) ?_
  (try simp only [Act.put, List.setIfInBounds_toArray, List.set_cons_zero, List.set_cons_succ])
  refine tkH (i := 10) (oi := { dst := some 12, op := Op.unOp UnOp.not 4 (Operand.tmp 11), type := 4, pos := _, after := _, guard := some (5, false) }) rfl (by assumption) ?_
  (try simp only [Act.put, List.setIfInBounds_toArray, List.set_cons_zero, List.set_cons_succ])
  refine tkH (i := 11) (oi := { dst := some 13, op := Op.pick (Operand.tmp 7) (Operand.const (Value.bool true)) (Operand.tmp 12), type := 4, pos := _, after := _, guard := none }) rfl (by assumption) ?_
  (try simp only [Act.put, List.setIfInBounds_toArray, List.set_cons_zero, List.set_cons_succ])
  refine tkH (i := 12) (oi := { dst := some 14, op := Op.move (Operand.tmp 13), type := 4, pos := _, after := _, guard := none }) rfl (by assumption) ?_
  (try simp only [Act.put, List.setIfInBounds_toArray, List.set_cons_zero, List.set_cons_succ])
  refine tkH (i := 13) (oi := { dst := some 15, op := Op.move (Operand.tmp 0), type := 79, pos := _, after := _, guard := some (12, false) }) rfl (by assumption) ?_
  (try simp only [Act.put, List.setIfInBounds_toArray, List.set_cons_zero, List.set_cons_succ])
  refine tkH (i := 14) (oi := { dst := some 16, op := Op.nilCheck (Operand.tmp 15), type := 0, pos := _, after := _, guard := some (12, false) }) rfl (by assumption) ?_
  (try simp only [Act.put, List.setIfInBounds_toArray, List.set_cons_zero, List.set_cons_succ])
  refine tkH (i := 15) (oi := { dst := some 17, op := Op.fieldAddr 150 (Operand.tmp 16) 11, type := 0, pos := _, after := _, guard := some (12, false) }) rfl (by assumption) ?_
  (try simp only [Act.put, List.setIfInBounds_toArray, List.set_cons_zero, List.set_cons_succ])
  refine tkH (i := 16) (oi := { dst := some 18, op := Op.load 4 (Operand.tmp 17), type := 4, pos := _, after := _, guard := some (12, false) }) rfl (by assumption) ?_
  (try simp only [Act.put, List.setIfInBounds_toArray, List.set_cons_zero, List.set_cons_succ])
  refine tkH (i := 17) (oi := { dst := some 19, op := Op.unOp UnOp.not 4 (Operand.tmp 18), type := 4, pos := _, after := _, guard := some (12, false) }) rfl (by assumption) ?_
  (try simp only [Act.put, List.setIfInBounds_toArray, List.set_cons_zero, List.set_cons_succ])
  refine tkH (i := 18) (oi := { dst := some 20, op := Op.pick (Operand.tmp 14) (Operand.const (Value.bool true)) (Operand.tmp 19), type := 4, pos := _, after := _, guard := none }) rfl (by assumption) ?_
  (try simp only [Act.put, List.setIfInBounds_toArray, List.set_cons_zero, List.set_cons_succ])
  refine tkH (i := 19) (oi := { dst := some 21, op := Op.move (Operand.tmp 20), type := 4, pos := _, after := _, guard := none }) rfl (by assumption) ?_
  (try simp only [Act.put, List.setIfInBounds_toArray, List.set_cons_zero, List.set_cons_succ])
  refine tkH (i := 20) (oi := { dst := some 22, op := Op.move (Operand.tmp 0), type := 79, pos := _, after := _, guard := some (19, false) }) rfl (by assumption) ?_
  (try simp only [Act.put, List.setIfInBounds_toArray, List.set_cons_zero, List.set_cons_succ])
  refine tkH (i := 21) (oi := { dst := some 23, op := Op.nilCheck (Operand.tmp 22), type := 0, pos := _, after := _, guard := some (19, false) }) rfl (by assumption) ?_
  (try simp only [Act.put, List.setIfInBounds_toArray, List.set_cons_zero, List.set_cons_succ])
  refine tkH (i := 22) (oi := { dst := some 24, op := Op.fieldAddr 150 (Operand.tmp 23) 15, type := 0, pos := _, after := _, guard := some (19, false) }) rfl (by assumption) ?_
  (try simp only [Act.put, List.setIfInBounds_toArray, List.set_cons_zero, List.set_cons_succ])
  refine tkH (i := 23) (oi := { dst := some 25, op := Op.load 83 (Operand.tmp 24), type := 83, pos := _, after := _, guard := some (19, false) }) rfl (by assumption) ?_
  (try simp only [Act.put, List.setIfInBounds_toArray, List.set_cons_zero, List.set_cons_succ])
  refine tkH (i := 25) (oi := { dst := some 27, op := Op.move (Operand.tmp 0), type := 79, pos := _, after := _, guard := some (19, false) }) rfl (by assumption) ?_
  (try simp only [Act.put, List.setIfInBounds_toArray, List.set_cons_zero, List.set_cons_succ])
  refine tkH (i := 26) (oi := { dst := some 28, op := Op.nilCheck (Operand.tmp 27), type := 0, pos := _, after := _, guard := some (19, false) }) rfl (by assumption) ?_
  (try simp only [Act.put, List.setIfInBounds_toArray, List.set_cons_zero, List.set_cons_succ])
  refine tkH (i := 27) (oi := { dst := some 29, op := Op.fieldAddr 150 (Operand.tmp 28) 10, type := 0, pos := _, after := _, guard := some (19, false) }) rfl (by assumption) ?_
  (try simp only [Act.put, List.setIfInBounds_toArray, List.set_cons_zero, List.set_cons_succ])
  refine tkH (i := 28) (oi := { dst := some 30, op := Op.load 3 (Operand.tmp 29), type := 3, pos := _, after := _, guard := some (19, false) }) rfl (by assumption) ?_
  (try simp only [Act.put, List.setIfInBounds_toArray, List.set_cons_zero, List.set_cons_succ])
  refine wpAnyH_ready (rs := [24]) (by kernel_rfl) (by simp) ?_
  refine (AllReadyH.cons (o := { dst := some 26, op := Op.call { callee := Callee.value (Operand.func 134), args := #[Operand.tmp 25], argTypes := #[83] }, type := 3, pos := _, after := _, guard := some (19, false) }) rfl (fun KQ hK => ?_) AllReadyH.nil)
  go_simp
  refine (size_w _ l.W _ l.wc _ F.length (by omega) (by omega) HGN.out HGI.out (by exact HG.out.drew)).mono ?_
  rintro e W1 ⟨rfl, hk1⟩
  have b1 := HB.out.drew.keepS hk1 (by simp)
  have K1 : Hid (Keep w.heap.size [p] w W1) := Lib.hid (((Keep.refl w.heap.size [p] w).drew).trans (hk1.mono (Nat.le_refl _) (by simp)))
  have y8 : W1.cell? ⟨p, 8, none⟩ = some (.int .i64 0) := by rw [show (.int .i64 0 : Value) = .int .i64 (K.ph : Int) by rw [hp]; rfl]; exact b1.cell 8
  have y11 : W1.cell? ⟨p, 11, none⟩ = some (.bool true) := by
    have h := b1.cell 11
    rw [h]
    show some (Value.bool K.named) = _
    rw [hnm]
    try rfl
  have y13 : W1.cell? ⟨p, 13, none⟩ = some (.int .i64 F.length) := by
    have h := b1.cell 13
    rw [h]
    show some (Value.int .i64 (szV F K.named)) = _
    rw [hnm]
    try rfl
  have y14 : W1.cell? ⟨p, 14, none⟩ = some (.bool true) := by
    have h := b1.cell 14
    rw [h]
    show some (Value.bool K.fin) = _
    rw [hfi]
    try rfl
  have yy : (fun w' => w'.cell? ⟨p, 8, none⟩ = some (.int .i64 0) ∧ w'.cell? ⟨p, 11, none⟩ = some (.bool true) ∧ w'.cell? ⟨p, 13, none⟩ = some (.int .i64 F.length) ∧ w'.cell? ⟨p, 14, none⟩ = some (.bool true) ∧ w'.cell? ⟨p, 18, none⟩ = some (.slice l.W K.got.length l.wc)) W1 := ⟨y8, y11, y13, y14, b1.cell 18⟩
  have B1 := Lib.hid b1
  clear hk1 b1
  refine hK.out _ _ (by exact yy) (fun hHeld => ?_)
  clear hK KQ
  (try simp only [Act.put, List.setIfInBounds_toArray, List.set_cons_zero, List.set_cons_succ])
  refine tkH (i := 29) (oi := { dst := some 31, op := Op.binOp BinOp.lss 3 (Operand.tmp 26) (Operand.tmp 30) 3, type := 4, pos := _, after := _, guard := some (19, false) }) rfl (by assumption) ?_
  (try simp only [Act.put, List.setIfInBounds_toArray, List.set_cons_zero, List.set_cons_succ])
  refine tkH (i := 30) (oi := { dst := some 32, op := Op.pick (Operand.tmp 21) (Operand.const (Value.bool true)) (Operand.tmp 31), type := 4, pos := _, after := _, guard := none }) rfl (by assumption) ?_
  (try simp only [Act.put, List.setIfInBounds_toArray, List.set_cons_zero, List.set_cons_succ])
  refine wpAnyH_done (by kernel_rfl) ?_ _
  go_wp2_with fail
  refine bodyPost_ret (results_none rfl _ _ _) rfl ?_
  exact ⟨rfl, B1.out, K1.out⟩
set_option maxRecDepth 100000 in
set_option maxHeartbeats 4000000 in
theorem kchk_whole (w : World) (p : Nat) (F : List Int) (c : Nat) (l : Ly) (K : Sk) (hp : K.ph = 0) (hnm : K.named = true) (hfi : K.fin = true) (hgl : K.got.length ≤ 1000) (hn : F.length ≤ 300) (hgn : Nrm K.got) (hgi : ∀ z, mem K.got z → 0 ≤ z ∧ z < (F.length : Int)) (hgv : Vw w l.W K.got.length 2 (gcs K.got)) (hw : ¬ width K.got < F.length) (hdat : K.dat = F) (ho : Oct F) (hdc : F.length ≤ l.dc) (hd : Vw w l.D F.length 1 (octs F)) (hnd : ∀ g, g ∈ blks l.D → g ∉ [p]) (hb : Blk w p TK (kcs F c l K)) : Calls Try.prog 91 #[ptr p] w fun e w' => e = .returned (.tuple #[]) ∧ Blk w' p TK (kcs F c l { K with ph := 1, nd := false }) ∧ Keep w.heap.size [p] w w' := by
  have HB := Lib.hid hb
  have c8 : w.cell? ⟨p, 8, none⟩ = some (.int .i64 0) := by rw [show (.int .i64 0 : Value) = .int .i64 (K.ph : Int) by rw [hp]; rfl]; exact hb.cell 8
  have c11 : w.cell? ⟨p, 11, none⟩ = some (.bool true) := by
    have h := hb.cell 11
    rw [h]
    show some (Value.bool K.named) = _
    rw [hnm]
    try rfl
  have c13 : w.cell? ⟨p, 13, none⟩ = some (.int .i64 F.length) := by
    have h := hb.cell 13
    rw [h]
    show some (Value.int .i64 (szV F K.named)) = _
    rw [hnm]
    try rfl
  have c14 : w.cell? ⟨p, 14, none⟩ = some (.bool true) := by
    have h := hb.cell 14
    rw [h]
    show some (Value.bool K.fin) = _
    rw [hfi]
    try rfl
  have c18 : w.cell? ⟨p, 18, none⟩ = some (.slice l.W K.got.length l.wc) := hb.cell 18
  have HG := Lib.hid hgv
  have HGN := Lib.hid hgn
  have HGI := Lib.hid hgi
  clear hgv hgn hgi
  have HDL : Hid (K.dat.length = F.length) := Lib.hid (by rw [hdat])
  have HO := Lib.hid ho
  have HD := Lib.hid hd
  have HND := Lib.hid hnd
  clear ho hd hnd hdat
  clear hb
  go_enter Try.func91, Try.ntmps91
  go_upto_region 0 with fail
  refine wp_region_held_drew (S := (fun w' => w'.cell? ⟨p, 8, none⟩ = some (.int .i64 0) ∧ w'.cell? ⟨p, 11, none⟩ = some (.bool true) ∧ w'.cell? ⟨p, 13, none⟩ = some (.int .i64 F.length) ∧ w'.cell? ⟨p, 14, none⟩ = some (.bool true) ∧ w'.cell? ⟨p, 18, none⟩ = some (.slice l.W K.got.length l.wc))) (by kernel_rfl) (by exact ⟨c8, c11, c13, c14, c18⟩) (fun hHeld => ?_)
  refine tkH (i := 0) (oi := { dst := some 2, op := Op.move (Operand.tmp 0), type := 79, pos := _, after := _, guard := none }) rfl (by assumption) ?_
  (try simp only [Act.put, List.setIfInBounds_toArray, List.set_cons_zero, List.set_cons_succ])
  refine tkH (i := 1) (oi := { dst := some 3, op := Op.nilCheck (Operand.tmp 2), type := 0, pos := _, after := _, guard := none }) rfl (by assumption) ?_
  (try simp only [Act.put, List.setIfInBounds_toArray, List.set_cons_zero, List.set_cons_succ])
  refine tkH (i := 2) (oi := { dst := some 4, op := Op.fieldAddr 150 (Operand.tmp 3) 5, type := 0, pos := _, after := _, guard := none }) rfl (by assumption) ?_
  (try simp only [Act.put, List.setIfInBounds_toArray, List.set_cons_zero, List.set_cons_succ])
  refine tkH (i := 3) (oi := { dst := some 5, op := Op.load 3 (Operand.tmp 4), type := 3, pos := _, after := _, guard := none }) rfl (by assumption) ?_
  (try simp only [Act.put, List.setIfInBounds_toArray, List.set_cons_zero, List.set_cons_succ])
  refine tkH (i := 4) (oi := { dst := some 6, op := Op.binOp BinOp.neq 3 (Operand.tmp 5) (Operand.const (Value.int IntKind.i64 0)) 3, type := 4, pos := _, after := _, guard := none }) rfl (by assumption) ?_
  (try simp only [Act.put, List.setIfInBounds_toArray, List.set_cons_zero, List.set_cons_succ])
  refine tkH (i := 5) (oi := { dst := some 7, op := Op.move (Operand.tmp 6), type := 4, pos := _, after := _, guard := none }) rfl (by assumption) ?_
  (try simp only [Act.put, List.setIfInBounds_toArray, List.set_cons_zero, List.set_cons_succ])
  refine tkH (i := 6) (oi := { dst := some 8, op := Op.move (Operand.tmp 0), type := 79, pos := _, after := _, guard := some (5, false) }) rfl (by assumption) ?_
  (try simp only [Act.put, List.setIfInBounds_toArray, List.set_cons_zero, List.set_cons_succ])
  refine tkH (i := 7) (oi := { dst := some 9, op := Op.nilCheck (Operand.tmp 8), type := 0, pos := _, after := _, guard := some (5, false) }) rfl (by assumption) ?_
  (try simp only [Act.put, List.setIfInBounds_toArray, List.set_cons_zero, List.set_cons_succ])
  refine tkH (i := 8) (oi := { dst := some 10, op := Op.fieldAddr 150 (Operand.tmp 9) 8, type := 0, pos := _, after := _, guard := some (5, false) }) rfl (by assumption) ?_
  (try simp only [Act.put, List.setIfInBounds_toArray, List.set_cons_zero, List.set_cons_succ])
  refine tkH (i := 9) (oi := { dst := some 11, op := Op.load 4 (Operand.tmp 10), type := 4, pos := _, after := _, guard := some (5, false) }) rfl (by assumption) ?_
  (try simp only [Act.put, List.setIfInBounds_toArray, List.set_cons_zero, List.set_cons_succ])
  refine tkH (i := 10) (oi := { dst := some 12, op := Op.unOp UnOp.not 4 (Operand.tmp 11), type := 4, pos := _, after := _, guard := some (5, false) }) rfl (by assumption) ?_
  (try simp only [Act.put, List.setIfInBounds_toArray, List.set_cons_zero, List.set_cons_succ])
  refine tkH (i := 11) (oi := { dst := some 13, op := Op.pick (Operand.tmp 7) (Operand.const (Value.bool true)) (Operand.tmp 12), type := 4, pos := _, after := _, guard := none }) rfl (by assumption) ?_
  (try simp only [Act.put, List.setIfInBounds_toArray, List.set_cons_zero, List.set_cons_succ])
  refine tkH (i := 12) (oi := { dst := some 14, op := Op.move (Operand.tmp 13), type := 4, pos := _, after := _, guard := none }) rfl (by assumption) ?_
  (try simp only [Act.put, List.setIfInBounds_toArray, List.set_cons_zero, List.set_cons_succ])
  refine tkH (i := 13) (oi := { dst := some 15, op := Op.move (Operand.tmp 0), type := 79, pos := _, after := _, guard := some (12, false) }) rfl (by assumption) ?_
  (try simp only [Act.put, List.setIfInBounds_toArray, List.set_cons_zero, List.set_cons_succ])
  refine tkH (i := 14) (oi := { dst := some 16, op := Op.nilCheck (Operand.tmp 15), type := 0, pos := _, after := _, guard := some (12, false) }) rfl (by assumption) ?_
  (try simp only [Act.put, List.setIfInBounds_toArray, List.set_cons_zero, List.set_cons_succ])
  refine tkH (i := 15) (oi := { dst := some 17, op := Op.fieldAddr 150 (Operand.tmp 16) 11, type := 0, pos := _, after := _, guard := some (12, false) }) rfl (by assumption) ?_
  (try simp only [Act.put, List.setIfInBounds_toArray, List.set_cons_zero, List.set_cons_succ])
  refine tkH (i := 16) (oi := { dst := some 18, op := Op.load 4 (Operand.tmp 17), type := 4, pos := _, after := _, guard := some (12, false) }) rfl (by assumption) ?_
  (try simp only [Act.put, List.setIfInBounds_toArray, List.set_cons_zero, List.set_cons_succ])
  refine tkH (i := 17) (oi := { dst := some 19, op := Op.unOp UnOp.not 4 (Operand.tmp 18), type := 4, pos := _, after := _, guard := some (12, false) }) rfl (by assumption) ?_
  (try simp only [Act.put, List.setIfInBounds_toArray, List.set_cons_zero, List.set_cons_succ])
  refine tkH (i := 18) (oi := { dst := some 20, op := Op.pick (Operand.tmp 14) (Operand.const (Value.bool true)) (Operand.tmp 19), type := 4, pos := _, after := _, guard := none }) rfl (by assumption) ?_
  (try simp only [Act.put, List.setIfInBounds_toArray, List.set_cons_zero, List.set_cons_succ])
  refine tkH (i := 19) (oi := { dst := some 21, op := Op.move (Operand.tmp 20), type := 4, pos := _, after := _, guard := none }) rfl (by assumption) ?_
  (try simp only [Act.put, List.setIfInBounds_toArray, List.set_cons_zero, List.set_cons_succ])
  refine tkH (i := 20) (oi := { dst := some 22, op := Op.move (Operand.tmp 0), type := 79, pos := _, after := _, guard := some (19, false) }) rfl (by assumption) ?_
  (try simp only [Act.put, List.setIfInBounds_toArray, List.set_cons_zero, List.set_cons_succ])
  refine tkH (i := 21) (oi := { dst := some 23, op := Op.nilCheck (Operand.tmp 22), type := 0, pos := _, after := _, guard := some (19, false) }) rfl (by assumption) ?_
  (try simp only [Act.put, List.setIfInBounds_toArray, List.set_cons_zero, List.set_cons_succ])
  refine tkH (i := 22) (oi := { dst := some 24, op := Op.fieldAddr 150 (Operand.tmp 23) 15, type := 0, pos := _, after := _, guard := some (19, false) }) rfl (by assumption) ?_
  (try simp only [Act.put, List.setIfInBounds_toArray, List.set_cons_zero, List.set_cons_succ])
  refine tkH (i := 23) (oi := { dst := some 25, op := Op.load 83 (Operand.tmp 24), type := 83, pos := _, after := _, guard := some (19, false) }) rfl (by assumption) ?_
  (try simp only [Act.put, List.setIfInBounds_toArray, List.set_cons_zero, List.set_cons_succ])
  refine tkH (i := 25) (oi := { dst := some 27, op := Op.move (Operand.tmp 0), type := 79, pos := _, after := _, guard := some (19, false) }) rfl (by assumption) ?_
  (try simp only [Act.put, List.setIfInBounds_toArray, List.set_cons_zero, List.set_cons_succ])
  refine tkH (i := 26) (oi := { dst := some 28, op := Op.nilCheck (Operand.tmp 27), type := 0, pos := _, after := _, guard := some (19, false) }) rfl (by assumption) ?_
  (try simp only [Act.put, List.setIfInBounds_toArray, List.set_cons_zero, List.set_cons_succ])
  refine tkH (i := 27) (oi := { dst := some 29, op := Op.fieldAddr 150 (Operand.tmp 28) 10, type := 0, pos := _, after := _, guard := some (19, false) }) rfl (by assumption) ?_
  (try simp only [Act.put, List.setIfInBounds_toArray, List.set_cons_zero, List.set_cons_succ])
  refine tkH (i := 28) (oi := { dst := some 30, op := Op.load 3 (Operand.tmp 29), type := 3, pos := _, after := _, guard := some (19, false) }) rfl (by assumption) ?_
  (try simp only [Act.put, List.setIfInBounds_toArray, List.set_cons_zero, List.set_cons_succ])
  refine wpAnyH_ready (rs := [24]) (by kernel_rfl) (by simp) ?_
  refine (AllReadyH.cons (o := { dst := some 26, op := Op.call { callee := Callee.value (Operand.func 134), args := #[Operand.tmp 25], argTypes := #[83] }, type := 3, pos := _, after := _, guard := some (19, false) }) rfl (fun KQ hK => ?_) AllReadyH.nil)
  go_simp
  refine (size_w _ l.W _ l.wc _ F.length (by omega) (by omega) HGN.out HGI.out (by exact HG.out.drew)).mono ?_
  rintro e W1 ⟨rfl, hk1⟩
  have b1 := HB.out.drew.keepS hk1 (by simp)
  have K1 : Hid (Keep w.heap.size [p] w W1) := Lib.hid (((Keep.refl w.heap.size [p] w).drew).trans (hk1.mono (Nat.le_refl _) (by simp)))
  have y8 : W1.cell? ⟨p, 8, none⟩ = some (.int .i64 0) := by rw [show (.int .i64 0 : Value) = .int .i64 (K.ph : Int) by rw [hp]; rfl]; exact b1.cell 8
  have y11 : W1.cell? ⟨p, 11, none⟩ = some (.bool true) := by
    have h := b1.cell 11
    rw [h]
    show some (Value.bool K.named) = _
    rw [hnm]
    try rfl
  have y13 : W1.cell? ⟨p, 13, none⟩ = some (.int .i64 F.length) := by
    have h := b1.cell 13
    rw [h]
    show some (Value.int .i64 (szV F K.named)) = _
    rw [hnm]
    try rfl
  have y14 : W1.cell? ⟨p, 14, none⟩ = some (.bool true) := by
    have h := b1.cell 14
    rw [h]
    show some (Value.bool K.fin) = _
    rw [hfi]
    try rfl
  have yy : (fun w' => w'.cell? ⟨p, 8, none⟩ = some (.int .i64 0) ∧ w'.cell? ⟨p, 11, none⟩ = some (.bool true) ∧ w'.cell? ⟨p, 13, none⟩ = some (.int .i64 F.length) ∧ w'.cell? ⟨p, 14, none⟩ = some (.bool true) ∧ w'.cell? ⟨p, 18, none⟩ = some (.slice l.W K.got.length l.wc)) W1 := ⟨y8, y11, y13, y14, b1.cell 18⟩
  have B1 := Lib.hid b1
  clear hk1 b1
  refine hK.out _ _ (by exact yy) (fun hHeld => ?_)
  clear hK KQ
  (try simp only [Act.put, List.setIfInBounds_toArray, List.set_cons_zero, List.set_cons_succ])
  refine tkH (i := 29) (oi := { dst := some 31, op := Op.binOp BinOp.lss 3 (Operand.tmp 26) (Operand.tmp 30) 3, type := 4, pos := _, after := _, guard := some (19, false) }) rfl (by assumption) ?_
  (try simp only [Act.put, List.setIfInBounds_toArray, List.set_cons_zero, List.set_cons_succ])
  refine tkH (i := 30) (oi := { dst := some 32, op := Op.pick (Operand.tmp 21) (Operand.const (Value.bool true)) (Operand.tmp 31), type := 4, pos := _, after := _, guard := none }) rfl (by assumption) ?_
  (try simp only [Act.put, List.setIfInBounds_toArray, List.set_cons_zero, List.set_cons_succ])
  refine wpAnyH_done (by kernel_rfl) ?_ _
  go_upto_region 1 with fail
  have x16 : W1.cell? ⟨p, 16, none⟩ = some (.int .u32 (sumO F)) := by
    have h := B1.out.cell 16
    rw [h]
    show some (Value.int .u32 (smV F K.fin)) = _
    rw [hfi]
    try rfl
  have x17 : W1.cell? ⟨p, 17, none⟩ = some (.slice l.D F.length l.dc) := by rw [← HDL.out]; exact B1.out.cell 17
  have VD := Lib.hid (HD.out.keepS K1.out HND.out)
  refine wp_region_held_drew (S := (fun w' => w'.cell? ⟨p, 16, none⟩ = some (.int .u32 (sumO F)) ∧ w'.cell? ⟨p, 17, none⟩ = some (.slice l.D F.length l.dc))) (by kernel_rfl) (by exact ⟨x16, x17⟩) (fun hHeld => ?_)
  refine tkH (i := 0) (oi := { dst := some 33, op := Op.move (Operand.tmp 0), type := 79, pos := _, after := _, guard := none }) rfl (by assumption) ?_
  (try simp only [Act.put, List.setIfInBounds_toArray, List.set_cons_zero, List.set_cons_succ])
  refine tkH (i := 1) (oi := { dst := some 34, op := Op.nilCheck (Operand.tmp 33), type := 0, pos := _, after := _, guard := none }) rfl (by assumption) ?_
  (try simp only [Act.put, List.setIfInBounds_toArray, List.set_cons_zero, List.set_cons_succ])
  refine tkH (i := 2) (oi := { dst := some 35, op := Op.fieldAddr 150 (Operand.tmp 34) 14, type := 0, pos := _, after := _, guard := none }) rfl (by assumption) ?_
  (try simp only [Act.put, List.setIfInBounds_toArray, List.set_cons_zero, List.set_cons_succ])
  refine tkH (i := 3) (oi := { dst := some 36, op := Op.load 35 (Operand.tmp 35), type := 35, pos := _, after := _, guard := none }) rfl (by assumption) ?_
  (try simp only [Act.put, List.setIfInBounds_toArray, List.set_cons_zero, List.set_cons_succ])
  refine tkH (i := 5) (oi := { dst := some 38, op := Op.move (Operand.tmp 0), type := 79, pos := _, after := _, guard := none }) rfl (by assumption) ?_
  (try simp only [Act.put, List.setIfInBounds_toArray, List.set_cons_zero, List.set_cons_succ])
  refine tkH (i := 6) (oi := { dst := some 39, op := Op.nilCheck (Operand.tmp 38), type := 0, pos := _, after := _, guard := none }) rfl (by assumption) ?_
  (try simp only [Act.put, List.setIfInBounds_toArray, List.set_cons_zero, List.set_cons_succ])
  refine tkH (i := 7) (oi := { dst := some 40, op := Op.fieldAddr 150 (Operand.tmp 39) 13, type := 0, pos := _, after := _, guard := none }) rfl (by assumption) ?_
  (try simp only [Act.put, List.setIfInBounds_toArray, List.set_cons_zero, List.set_cons_succ])
  refine tkH (i := 8) (oi := { dst := some 41, op := Op.load 82 (Operand.tmp 40), type := 82, pos := _, after := _, guard := none }) rfl (by assumption) ?_
  (try simp only [Act.put, List.setIfInBounds_toArray, List.set_cons_zero, List.set_cons_succ])
  refine wpAnyH_ready (rs := [4]) (by kernel_rfl) (by simp) ?_
  refine (AllReadyH.cons (o := { dst := some 37, op := Op.call { callee := Callee.value (Operand.func 128), args := #[Operand.tmp 36], argTypes := #[35] }, type := 82, pos := _, after := _, guard := none }) rfl (fun KQ hK => ?_) AllReadyH.nil)
  go_simp
  refine (sum_w _ l.D F.length l.dc F (by omega) hdc (by exact VD.out.drew) HO.out).mono ?_
  rintro e W2 ⟨rfl, rfl⟩
  refine hK.out _ _ (by exact ⟨x16, x17⟩) (fun hHeld => ?_)
  clear hK KQ
  (try simp only [Act.put, List.setIfInBounds_toArray, List.set_cons_zero, List.set_cons_succ])
  refine tkH (i := 9) (oi := { dst := some 42, op := Op.binOp BinOp.neq 82 (Operand.tmp 37) (Operand.tmp 41) 82, type := 4, pos := _, after := _, guard := none }) rfl (by assumption) ?_
  (try simp only [Act.put, List.setIfInBounds_toArray, List.set_cons_zero, List.set_cons_succ])
  refine wpAnyH_done (by kernel_rfl) ?_ _
  have c8' : W1.cell? ⟨p, 8, none⟩ = some (.int .i64 (K.ph : Int)) := B1.out.cell 8
  have c22' : W1.cell? ⟨p, 22, none⟩ = some (.bool K.nd) := B1.out.cell 22
  have f8 := B1.out.frozen 8
  have f22 := B1.out.frozen 22
  go_wp2_with fail
  go_end0
  have hb : Blk ((W1.setCell ⟨p, 8, none⟩ (.int .i64 1)).setCell ⟨p, 22, none⟩ (.bool false)).drew p TK (kcs F c l { K with ph := 1, nd := false }) := ((B1.out.set_ 8 _).set_ 22 _).drew
  simp only [hnm, hfi] at hb
  exact ⟨rfl, hb, (((K1.out).set1).set1).drew⟩
/-- the contract of check -/
theorem kchk_w (w : World) (p : Nat) (F : List Int) (c : Nat) (l : Ly) (K : Sk) (hph : K.ph = 0 ∨ K.ph = 1 ∨ K.ph = 2) (hn : F.length ≤ 300) (ho : Oct F) (hgn : Nrm K.got) (hgi : ∀ z, mem K.got z → 0 ≤ z ∧ z < (F.length : Int)) (hdat : ¬ width K.got < F.length → K.dat = F) (h : SkAt w p F c l K) : Calls Try.prog 91 #[ptr p] w fun e w' => e = .returned (.tuple #[]) ∧ SkAt w' p F c l (chk F.length K) ∧ Keep w.heap.size [p] w w' := by
  have hgl : K.got.length ≤ 1000 := by have := nrm_len (a := 0) (N := (F.length : Int)) hgn hgi (by omega); omega
  have same : ∀ {K' : Sk}, K'.dat = K.dat → K'.got = K.got → ∀ {e : Ending} {w' : World}, (e = .returned (.tuple #[]) ∧ Blk w' p TK (kcs F c l K') ∧ Keep w.heap.size [p] w w') → (e = .returned (.tuple #[]) ∧ SkAt w' p F c l K' ∧ Keep w.heap.size [p] w w') := by
    intro K' h1 h2 e w' hh
    exact ⟨hh.1, h.same h1 h2 hh.2.1 hh.2.2, hh.2.2⟩
  have stay : (¬ (K.ph = 0 ∧ K.named = true ∧ K.fin = true ∧ ¬ width K.got < F.length)) → chk F.length K = K := fun hh => if_neg hh
  by_cases h1 : K.ph = 1
  · rw [stay (by omega)]; exact (kchk_p1 w p F c l K h1 h.blk).mono fun _ _ hh => same rfl rfl hh
  by_cases h2 : K.ph = 2
  · rw [stay (by omega)]; exact (kchk_p2 w p F c l K h2 h.blk).mono fun _ _ hh => same rfl rfl hh
  have h0 : K.ph = 0 := by omega
  cases hnm : K.named with
  | false => rw [stay (by rw [hnm]; simp)]; exact (kchk_nn w p F c l K h0 hnm h.blk).mono fun _ _ hh => same rfl rfl hh
  | true =>
    cases hfi : K.fin with
    | false => rw [stay (by rw [hfi]; simp)]; exact (kchk_nf w p F c l K h0 hnm hfi h.blk).mono fun _ _ hh => same rfl rfl hh
    | true =>
      by_cases hw : width K.got < F.length
      · rw [stay (fun k => k.2.2.2 hw)]; exact (kchk_part w p F c l K h0 hnm hfi hgl hn hgn hgi (h.got.vw (by omega)) hw h.blk).mono fun _ _ hh => same rfl rfl hh
      · have e : chk F.length K = { K with ph := 1, nd := false } := if_pos ⟨h0, hnm, hfi, hw⟩
        have hd := hdat hw
        have hv := h.data.vw (by omega)
        have hcap := h.data.cap
        rw [hd] at hv hcap
        rw [e]; exact (kchk_whole w p F c l K h0 hnm hfi hgl hn hgn hgi (h.got.vw (by omega)) hw hd ho hcap.1 hv (fun g hg hm => h.nD (by rw [← List.mem_singleton.1 hm]; exact hg)) h.blk).mono fun _ _ hh => same (K' := { K with ph := 1, nd := false }) rfl rfl hh
end Go.Proofs.Ytfkbcflgbjncdaa
