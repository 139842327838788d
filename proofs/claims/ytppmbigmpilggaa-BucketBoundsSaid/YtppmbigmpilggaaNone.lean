/- The law BucketNone: its walk. -/
import Derived.Test.YtppmbigmpilggaaClones
namespace Go.Proofs.Ytppmbigmpilggaa
set_option linter.unusedVariables false
set_option linter.unusedSimpArgs false
open Go.RowKit
def Bad (w : World) (v : Value) : Prop := Calls Try.prog 20 #[v] w fun e w' => e = .returned (.bool false) ∧ w = w'
theorem bad_nil (w : World) : Bad w (.pointer none) := ok_nil w
theorem bad_zero (w : World) (g : Nat) (hb : Blk w g 47 #[.bool false, .int .i64 0, .int .i64 0, .int .i64 0, .int .i64 0]) : Bad w (bptr g) := ok_zero w g _ _ _ _ hb
set_option maxHeartbeats 400000 in
theorem take_nil (w : World) (n now : Int) : Calls Try.prog 14 #[.pointer none, .int .i64 n, .int .i64 now] w fun e w' => e = .returned (.bool false) ∧ w = w' := by
  have H := Lib.hid (bad_nil w)
  go_enter Try.func14, Try.ntmps14
  go_wp2_with fail
  refine H.out.mono ?_
  rintro e w' ⟨rfl, rfl⟩
  go_wp2_with fail
  go_ret
  exact ⟨rfl, rfl⟩
set_option maxHeartbeats 400000 in
theorem take_zero (w : World) (g : Nat) (n now : Int) (hb : Blk w g 47 #[.bool false, .int .i64 0, .int .i64 0, .int .i64 0, .int .i64 0]) : Calls Try.prog 14 #[bptr g, .int .i64 n, .int .i64 now] w fun e w' => e = .returned (.bool false) ∧ w = w' := by
  have H := Lib.hid (bad_zero w g hb)
  clear hb
  go_enter Try.func14, Try.ntmps14
  go_wp2_with fail
  refine H.out.mono ?_
  rintro e w' ⟨rfl, rfl⟩
  go_wp2_with fail
  go_ret
  exact ⟨rfl, rfl⟩
set_option maxHeartbeats 400000 in
theorem level_nil (w : World) (now : Int) : Calls Try.prog 12 #[.pointer none, .int .i64 now] w fun e w' => e = .returned (.int .i64 0) ∧ w = w' := by
  have H := Lib.hid (bad_nil w)
  go_enter Try.func12, Try.ntmps12
  go_wp2_with fail
  refine H.out.mono ?_
  rintro e w' ⟨rfl, rfl⟩
  go_wp2_with fail
  go_ret
  exact ⟨rfl, rfl⟩
set_option maxHeartbeats 400000 in
theorem level_zero (w : World) (g : Nat) (now : Int) (hb : Blk w g 47 #[.bool false, .int .i64 0, .int .i64 0, .int .i64 0, .int .i64 0]) : Calls Try.prog 12 #[bptr g, .int .i64 now] w fun e w' => e = .returned (.int .i64 0) ∧ w = w' := by
  have H := Lib.hid (bad_zero w g hb)
  clear hb
  go_enter Try.func12, Try.ntmps12
  go_wp2_with fail
  refine H.out.mono ?_
  rintro e w' ⟨rfl, rfl⟩
  go_wp2_with fail
  go_ret
  exact ⟨rfl, rfl⟩
set_option maxHeartbeats 400000 in
theorem when_nil (w : World) (n now : Int) : Calls Try.prog 15 #[.pointer none, .int .i64 n, .int .i64 now] w fun e w' => e = .returned (.tuple #[.int .i64 0, .bool false]) ∧ w = w' := by
  have H := Lib.hid (bad_nil w)
  go_enter Try.func15, Try.ntmps15
  go_wp2_with fail
  refine H.out.mono ?_
  rintro e w' ⟨rfl, rfl⟩
  go_wp2_with fail
  go_ret2
  exact ⟨rfl, rfl⟩
set_option maxHeartbeats 400000 in
theorem when_zero0 (w : World) (g : Nat) (n now : Int) (hb : Blk w g 47 #[.bool false, .int .i64 0, .int .i64 0, .int .i64 0, .int .i64 0]) : Calls Try.prog 15 #[bptr g, .int .i64 n, .int .i64 now] w fun e w' => e = .returned (.tuple #[.int .i64 0, .bool false]) ∧ w = w' := by
  have H := Lib.hid (bad_zero w g hb)
  clear hb
  go_enter Try.func15, Try.ntmps15
  go_wp2_with fail
  refine H.out.mono ?_
  rintro e w' ⟨rfl, rfl⟩
  go_wp2_with fail
  go_ret2
  exact ⟨rfl, rfl⟩
set_option maxHeartbeats 400000 in
theorem clone_nil (w : World) : Calls Try.prog 16 #[.pointer none] w fun e w' => e = .returned (.pointer none) ∧ w = w' := by
  have H := Lib.hid (bad_nil w)
  go_enter Try.func16, Try.ntmps16
  go_wp2_with fail
  refine H.out.mono ?_
  rintro e w' ⟨rfl, rfl⟩
  go_wp2_with fail
  go_ret
  exact ⟨rfl, rfl⟩
set_option maxHeartbeats 400000 in
theorem clone_zero (w : World) (g : Nat) (hb : Blk w g 47 #[.bool false, .int .i64 0, .int .i64 0, .int .i64 0, .int .i64 0]) : Calls Try.prog 16 #[bptr g] w fun e w' => e = .returned (.pointer none) ∧ w = w' := by
  have H := Lib.hid (bad_zero w g hb)
  clear hb
  go_enter Try.func16, Try.ntmps16
  go_wp2_with fail
  refine H.out.mono ?_
  rintro e w' ⟨rfl, rfl⟩
  go_wp2_with fail
  go_ret
  exact ⟨rfl, rfl⟩

set_option maxHeartbeats 1000000 in
theorem none_any (w : World) (n now : Int) : Calls Try.prog 7 #[.int .i64 n, .int .i64 now] w (LawPost w) := by
  go_enter Try.func7, Try.ntmps7
  go_wp2_with fail
  have HB : Hid (Blk (w.alloc (.cells #[.bool false, .int .i64 0, .int .i64 0, .int .i64 0, .int .i64 0] 47)) w.heap.size 47 #[.bool false, .int .i64 0, .int .i64 0, .int .i64 0, .int .i64 0]) := Blk.new _ _ _
  have HK : Hid (Keep w.heap.size [] w (w.alloc (.cells #[.bool false, .int .i64 0, .int .i64 0, .int .i64 0, .int .i64 0] 47))) := (Keep.refl _ _ _).alloc (Nat.le_refl _) _
  generalize w.alloc _ = W at *
  refine (when_nil _ n now).mono ?_
  rintro e w' ⟨rfl, rfl⟩
  go_wp2_with fail
  refine (when_zero0 _ _ n now HB.out).mono ?_
  rintro e w' ⟨rfl, rfl⟩
  go_wp2_with fail
  refine (take_nil _ n now).mono ?_
  rintro e w' ⟨rfl, rfl⟩
  go_wp2_with fail
  refine (take_zero _ _ n now HB.out).mono ?_
  rintro e w' ⟨rfl, rfl⟩
  go_wp2_with fail
  refine (level_nil _ now).mono ?_
  rintro e w' ⟨rfl, rfl⟩
  go_wp2_with fail
  refine (level_zero _ _ now HB.out).mono ?_
  rintro e w' ⟨rfl, rfl⟩
  go_wp2_with fail
  refine (clone_nil _).mono ?_
  rintro e w' ⟨rfl, rfl⟩
  go_wp2_with fail
  refine (clone_zero _ _ HB.out).mono ?_
  rintro e w' ⟨rfl, rfl⟩
  go_wp2_with fail
  refine (lives_any _).mono ?_
  rintro e w6 ⟨rfl, hk'⟩
  have K6 := Lib.hid hk'
  clear hk'
  go_wp2_with fail
  go_ret
  exact ⟨rfl, HK.out.chain0 (Nat.le_refl _) K6.out⟩
end Go.Proofs.Ytppmbigmpilggaa
