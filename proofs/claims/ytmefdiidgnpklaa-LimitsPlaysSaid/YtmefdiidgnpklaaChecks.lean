/- The law LimitsChecks: its walk. -/
import Derived.Test.YtmefdiidgnpklaaLives
import Derived.Deep.RegionHeld3
import Derived.StillTactics
namespace Go.Proofs.Ytmefdiidgnpklaa
set_option linter.unusedVariables false
set_option linter.unusedSimpArgs false
open Go.RowKit
def LawPost (w : World) (e : Ending) (w' : World) : Prop := e = .returned (.bool true) ∧ Keep w.heap.size [] w w'
abbrev lcells (l : Li) : Array Value := #[.int .i64 l.hl, .int .i64 l.sl, .int .i64 l.sh, .int .i64 l.hh]
theorem box4 {w : World} {b : Nat} {l : Li} (h : Blk w b 23 (lcells l)) :
    w.cell? ⟨b, 0, none⟩ = some (.int .i64 l.hl) ∧ w.cell? ⟨b, 1, none⟩ = some (.int .i64 l.sl) ∧ w.cell? ⟨b, 2, none⟩ = some (.int .i64 l.sh) ∧ w.cell? ⟨b, 3, none⟩ = some (.int .i64 l.hh) :=
  ⟨h.cell 0, h.cell 1, h.cell 2, h.cell 3⟩
theorem valid_k (w : World) (l : Li) : Calls Try.prog 8 #[lagg l] w fun e w' => e = .returned (.bool l.valid) ∧ Keep w.heap.size [] w w' :=
  (valid_any w l).mono fun _ _ ⟨h1, h2⟩ => ⟨h1, h2 ▸ keep_a1 w _⟩
theorem rvalid_k (w : World) (l : Li) : Calls Try.prog 9 #[lagg l] w fun e w' => e = .returned (.bool l.valid) ∧ Keep w.heap.size [] w w' :=
  (rvalid_any w l).mono fun _ _ ⟨h1, h2⟩ => ⟨h1, h2 ▸ keep_a1 w _⟩
theorem check_k (w : World) (l : Li) (v : Int) : Calls Try.prog 10 #[lagg l, .int .i64 v] w fun e w' => e = .returned (.int .i64 (l.check v)) ∧ Keep w.heap.size [] w w' :=
  (check_any w l v).mono fun _ _ ⟨h1, h2⟩ => ⟨h1, h2 ▸ keep_a2 w _ _⟩
theorem rcheck_k (w : World) (l : Li) (v : Int) : Calls Try.prog 11 #[lagg l, .int .i64 v] w fun e w' => e = .returned (.int .i64 (l.check v)) ∧ Keep w.heap.size [] w w' :=
  (rcheck_any w l v).mono fun _ _ ⟨h1, h2⟩ => ⟨h1, h2 ▸ keep_a2 w _ _⟩

set_option maxHeartbeats 2000000 in
theorem checks_any (w : World) (l : Li) (v : Int) : Calls Try.prog 3 #[lagg l, .int .i64 v] w (LawPost w) := by
  go_enter Try.func3, Try.ntmps3
  go_wp2_with fail
  obtain ⟨W0, hW⟩ : ∃ W0, W0 = w.alloc (lbox l) := ⟨_, rfl⟩
  have H0 : Hid (Blk W0 w.heap.size 23 (lcells l)) := by rw [hW]; exact Blk.new _ _ _
  have K0 : Hid (Keep w.heap.size [] w W0) := by rw [hW]; exact keep_a1 w _
  have HQ : Hid (w.alloc (.cells #[.int .i64 l.hl, .int .i64 l.sl, .int .i64 l.sh, .int .i64 l.hh] 23) = W0) := hW.symm
  rw [HQ.out]
  clear hW HQ
  go_region_held3 (fun w' => w'.cell? ⟨w.heap.size, 0, none⟩ = some (.int .i64 l.hl) ∧ w'.cell? ⟨w.heap.size, 1, none⟩ = some (.int .i64 l.sl) ∧ w'.cell? ⟨w.heap.size, 2, none⟩ = some (.int .i64 l.sh) ∧ w'.cell? ⟨w.heap.size, 3, none⟩ = some (.int .i64 l.hh))
    (first | exact box4 H0.out | exact box4 H1.out | exact box4 H2.out | exact box4 H3.out | exact box4 H4.out | exact box4 H5.out)
    (first
      | (go_at_call 8
         refine (valid_k _ l).mono ?_
         rintro e W1 ⟨rfl, hk⟩
         have K1 : Hid (Keep w.heap.size [] w W1) := K0.out.chain0 (Nat.le_refl _) hk.undrew
         have H1 := Lib.hid (H0.out.keepS hk.undrew (by simp))
         clear hk)
      | (go_at_call 9
         refine (rvalid_k _ l).mono ?_
         rintro e W2 ⟨rfl, hk⟩
         have K2 : Hid (Keep w.heap.size [] w W2) := K1.out.chain0 (Nat.le_refl _) hk
         have H2 := Lib.hid (H1.out.keepS hk (by simp))
         clear hk)
      | (go_at_call 10
         refine (check_k _ l v).mono ?_
         rintro e W3 ⟨rfl, hk⟩
         have K3 : Hid (Keep w.heap.size [] w W3) := K2.out.chain0 (Nat.le_refl _) hk
         have H3 := Lib.hid (H2.out.keepS hk (by simp))
         clear hk)
      | (go_at_call 11
         refine (rcheck_k _ l v).mono ?_
         rintro e W4 ⟨rfl, hk⟩
         have K4 : Hid (Keep w.heap.size [] w W4) := K3.out.chain0 (Nat.le_refl _) hk
         have H4 := Lib.hid (H3.out.keepS hk (by simp))
         clear hk)
      | (go_at_call 12
         refine (lives_any _).mono ?_
         rintro e W5 ⟨rfl, hk⟩
         have K5 : Hid (Keep w.heap.size [] w W5) := K4.out.chain0 (Nat.le_refl _) hk
         have H5 := Lib.hid (H4.out.keepS hk (by simp))
         clear hk))
  go_wp2_with fail
  go_ret
  exact ⟨rfl, K5.out⟩
end Go.Proofs.Ytmefdiidgnpklaa
