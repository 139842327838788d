/- The contracts of ok, beyond, under of the watch. -/
import Derived.Test.YtmefdiidgnpklaaWalkA
namespace Go.Proofs.Ytmefdiidgnpklaa
set_option linter.unusedVariables false
set_option linter.unusedSimpArgs false
open Go.RowKit
abbrev wcells (W : Wt) : Array Value := #[.bool true, .int .i64 W.l.hl, .int .i64 W.l.sl, .int .i64 W.l.sh, .int .i64 W.l.hh, .int .u64 W.s, .int .i64 W.last, .int .i64 W.c0, .int .i64 W.c1, .int .i64 W.c2, .int .i64 W.c3, .int .i64 W.c4]
abbrev rcells (W : Wt) : Array Value := #[.int .i64 W.l.hl, .int .i64 W.l.sl, .int .i64 W.l.sh, .int .i64 W.l.hh, .int .i64 W.s, .int .i64 W.last, .int .i64 W.c0, .int .i64 W.c1, .int .i64 W.c2, .int .i64 W.c3, .int .i64 W.c4]

theorem u64_sub (a b : Int) (h0 : b ≤ a) (h1 : Fit a) (h2 : Fit b) : IntKind.u64.wrap (IntKind.u64.wrap a - IntKind.u64.wrap b) = a - b := by
  unfold Fit at h1 h2
  simp only [IntKind.wrap_u64]
  omega
theorem u64_id (a : Int) (h0 : 0 ≤ a) (h1 : Fit a) : IntKind.u64.wrap a = a := by
  unfold Fit at h1
  simp only [IntKind.wrap_u64]
  omega

set_option maxHeartbeats 400000 in
theorem ok_any (w : World) (g : Nat) (W : Wt) (hb : Blk w g 42 (wcells W)) :
    Calls Try.prog 20 #[bptr g] w fun e w' => e = .returned (.bool true) ∧ w = w' := by
  have h0 : w.cell? ⟨g, 0, none⟩ = some (.bool true) := hb.cell 0
  clear hb
  go_enter Try.func20, Try.ntmps20
  go_wp2
  go_ret
  exact ⟨rfl, rfl⟩

set_option maxHeartbeats 400000 in
theorem beyond_any (w : World) (g : Nat) (W : Wt) (v lim : Int) (hs : 0 ≤ W.s) (h1 : Fit v) (h2 : Fit lim) (hb : Blk w g 42 (wcells W)) :
    Calls Try.prog 26 #[bptr g, .int .i64 v, .int .i64 lim] w fun e w' => e = .returned (.bool (decide (lim + W.s ≤ v))) ∧ w = w' := by
  have h5 : w.cell? ⟨g, 5, none⟩ = some (.int .u64 W.s) := hb.cell 5
  clear hb
  by_cases hv : lim ≤ v
  · have hE := u64_sub v lim hv h1 h2
    clear h1 h2
    by_cases hc : W.s ≤ v - lim
    · have HD : Hid (decide (lim + W.s ≤ v) = true) := by unfold Hid; simp; omega
      go_enter Try.func26, Try.ntmps26
      go_wp2
      go_ret
      exact ⟨by rw [HD.out]; rfl, rfl⟩
    · have HD : Hid (decide (lim + W.s ≤ v) = false) := by unfold Hid; simp; omega
      go_enter Try.func26, Try.ntmps26
      go_wp2
      go_ret
      exact ⟨by rw [HD.out]; rfl, rfl⟩
  · have HD : Hid (decide (lim + W.s ≤ v) = false) := by unfold Hid; simp; omega
    clear h1 h2
    go_enter Try.func26, Try.ntmps26
    go_wp2
    go_ret
    exact ⟨by rw [HD.out]; rfl, rfl⟩

set_option maxHeartbeats 400000 in
theorem under_any (w : World) (g : Nat) (W : Wt) (v lim : Int) (hs : 0 ≤ W.s) (h1 : Fit v) (h2 : Fit lim) (hb : Blk w g 42 (wcells W)) :
    Calls Try.prog 27 #[bptr g, .int .i64 v, .int .i64 lim] w fun e w' => e = .returned (.bool (decide (v ≤ lim - W.s))) ∧ w = w' := by
  have h5 : w.cell? ⟨g, 5, none⟩ = some (.int .u64 W.s) := hb.cell 5
  clear hb
  by_cases hv : v ≤ lim
  · have hE := u64_sub lim v hv h2 h1
    clear h1 h2
    by_cases hc : W.s ≤ lim - v
    · have HD : Hid (decide (v ≤ lim - W.s) = true) := by unfold Hid; simp; omega
      go_enter Try.func27, Try.ntmps27
      go_wp2
      go_ret
      exact ⟨by rw [HD.out]; rfl, rfl⟩
    · have HD : Hid (decide (v ≤ lim - W.s) = false) := by unfold Hid; simp; omega
      go_enter Try.func27, Try.ntmps27
      go_wp2
      go_ret
      exact ⟨by rw [HD.out]; rfl, rfl⟩
  · have HD : Hid (decide (v ≤ lim - W.s) = false) := by unfold Hid; simp; omega
    clear h1 h2
    go_enter Try.func27, Try.ntmps27
    go_wp2
    go_ret
    exact ⟨by rw [HD.out]; rfl, rfl⟩
end Go.Proofs.Ytmefdiidgnpklaa
