/- TrackerNone. -/
import Derived.Test.YtcpfdkmdhpclkaaWalkI
namespace Go.Proofs.Ytcpfdkmdhpclkaa
set_option linter.unusedVariables false
set_option linter.unusedSimpArgs false
open Go.RowKit
set_option maxRecDepth 100000 in
set_option maxHeartbeats 4000000 in
theorem none_any (w : World) (a : Ak) (now : Int) : Calls Try.prog 5 #[aagg a, .int .i64 now] w fun e w' => e = .returned (.bool true) ∧ Keep w.heap.size [] w w' := by
  have hbx := Blk.new w 31 (acells a)
  have b0 : (w.alloc (abox a)).cell? ⟨w.heap.size, 0, none⟩ = some (.int .i64 a.src) := hbx.cell 0
  have b1 : (w.alloc (abox a)).cell? ⟨w.heap.size, 1, none⟩ = some (.int .i64 a.num) := hbx.cell 1
  have b2 : (w.alloc (abox a)).cell? ⟨w.heap.size, 2, none⟩ = some (.int .i64 a.stg) := hbx.cell 2
  have b3 : (w.alloc (abox a)).cell? ⟨w.heap.size, 3, none⟩ = some (.int .i64 a.cod) := hbx.cell 3
  clear hbx
  have K0 := Lib.hid ((Keep.refl w.heap.size [] w).alloc (Nat.le_refl _) (abox a))
  go_enter Try.func5, Try.ntmps5
  go_wp2_with fail
  refine (issue_nil _ 1 1 now).mono ?_
  rintro e w1 ⟨rfl, rfl⟩
  go_wp2_with fail
  refine (take_nil _ a now).mono ?_
  rintro e w2 ⟨rfl, hk2⟩
  have K2 : Hid (Keep w.heap.size [] w w2) := Lib.hid (K0.out.chain0 (Nat.le_refl _) hk2)
  clear hk2 b0 b1 b2 b3
  go_wp2_with fail
  refine (stage_nil _ 1 1).mono ?_
  rintro e w3 ⟨rfl, rfl⟩
  go_wp2_with fail
  refine (code_nil _ 1 1).mono ?_
  rintro e w3 ⟨rfl, rfl⟩
  go_wp2_with fail
  refine (overdue_nil _ now).mono ?_
  rintro e w3 ⟨rfl, rfl⟩
  go_wp2_with fail
  refine (open_nil _).mono ?_
  rintro e w3 ⟨rfl, rfl⟩
  go_wp2_with fail
  refine (clone_nil _).mono ?_
  rintro e w3 ⟨rfl, rfl⟩
  go_wp2_with fail
  refine (alive_any _).mono ?_
  rintro e w4 ⟨rfl, hk4⟩
  have K4 : Hid (Keep w.heap.size [] w w4) := Lib.hid (K2.out.chain0 (Nat.le_refl _) hk4)
  clear hk4
  go_wp2_with fail
  go_ret
  exact ⟨rfl, K4.out⟩
end Go.Proofs.Ytcpfdkmdhpclkaa
