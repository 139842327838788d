/- The law package's function lives: the chapter's examples. -/
import Derived.Test.YtppmbigmpilggaaWalkD
namespace Go.Proofs.Ytppmbigmpilggaa
set_option linter.unusedVariables false
set_option linter.unusedSimpArgs false
open Go.RowKit
theorem linv (l t : Int) (h : 0 ≤ l ∧ l ≤ 10 ∧ 0 ≤ t ∧ t ≤ 1000) : Bu.Inv ⟨2, 10, l, t⟩ :=
  ⟨by simp, by simp, by simp, by simp, by simp only; omega, by simp only; omega, by simp only; omega, by simp only; omega⟩
theorem lc0 (w : World) (g : Nat) (hb : Blk w g 47 (bcells ⟨2, 10, 10, 0⟩)) :
    Calls Try.prog 14 #[bptr g, .int .i64 7, .int .i64 0] w (TakePost w g 47 (bcells ⟨2, 10, 3, 0⟩) (.bool true)) :=
  take_any w g ⟨2, 10, 10, 0⟩ (linv _ _ (by omega)) 7 0 hb
theorem lc1 (w : World) (g : Nat) (hb : Blk w g 47 (bcells ⟨2, 10, 3, 0⟩)) :
    Calls Try.prog 12 #[bptr g, .int .i64 0] w (TakePost w g 47 (bcells ⟨2, 10, 3, 0⟩) (.int .i64 3)) :=
  level_any w g ⟨2, 10, 3, 0⟩ (linv _ _ (by omega)) 0 hb
theorem lc2 (w : World) (g : Nat) (hb : Blk w g 47 (bcells ⟨2, 10, 3, 0⟩)) :
    Calls Try.prog 14 #[bptr g, .int .i64 7, .int .i64 1] w (TakePost w g 47 (bcells ⟨2, 10, 5, 1⟩) (.bool false)) :=
  take_any w g ⟨2, 10, 3, 0⟩ (linv _ _ (by omega)) 7 1 hb
theorem lc3 (w : World) (g : Nat) (hb : Blk w g 47 (bcells ⟨2, 10, 5, 1⟩)) :
    Calls Try.prog 12 #[bptr g, .int .i64 1] w (TakePost w g 47 (bcells ⟨2, 10, 5, 1⟩) (.int .i64 5)) :=
  level_any w g ⟨2, 10, 5, 1⟩ (linv _ _ (by omega)) 1 hb
theorem lc4 (w : World) (g : Nat) (hb : Blk w g 47 (bcells ⟨2, 10, 5, 1⟩)) :
    Calls Try.prog 15 #[bptr g, .int .i64 7, .int .i64 1] w (TakePost w g 47 (bcells ⟨2, 10, 5, 1⟩) (.tuple #[.int .i64 2, .bool true])) :=
  when_any w g ⟨2, 10, 5, 1⟩ (linv _ _ (by omega)) 7 1 hb
theorem lc5 (w : World) (g : Nat) (hb : Blk w g 47 (bcells ⟨2, 10, 5, 1⟩)) :
    Calls Try.prog 14 #[bptr g, .int .i64 7, .int .i64 2] w (TakePost w g 47 (bcells ⟨2, 10, 0, 2⟩) (.bool true)) :=
  take_any w g ⟨2, 10, 5, 1⟩ (linv _ _ (by omega)) 7 2 hb
theorem lc6 (w : World) (g : Nat) (hb : Blk w g 47 (bcells ⟨2, 10, 0, 2⟩)) :
    Calls Try.prog 15 #[bptr g, .int .i64 11, .int .i64 2] w (TakePost w g 47 (bcells ⟨2, 10, 0, 2⟩) (.tuple #[.int .i64 0, .bool false])) :=
  when_any w g ⟨2, 10, 0, 2⟩ (linv _ _ (by omega)) 11 2 hb
theorem lc7 (w : World) (g : Nat) (hb : Blk w g 47 (bcells ⟨2, 10, 0, 2⟩)) :
    Calls Try.prog 12 #[bptr g, .int .i64 5] w (TakePost w g 47 (bcells ⟨2, 10, 6, 5⟩) (.int .i64 6)) :=
  level_any w g ⟨2, 10, 0, 2⟩ (linv _ _ (by omega)) 5 hb
theorem lc8 (w : World) (g : Nat) (hb : Blk w g 47 (bcells ⟨2, 10, 6, 5⟩)) :
    Calls Try.prog 12 #[bptr g, .int .i64 3] w (TakePost w g 47 (bcells ⟨2, 10, 6, 5⟩) (.int .i64 6)) :=
  level_any w g ⟨2, 10, 6, 5⟩ (linv _ _ (by omega)) 3 hb
theorem lkeep {B g : Nat} {w w1 w2 : World} (h : Keep B [] w w1) (hk : Keep w1.heap.size [g] w1 w2) (hg : w.heap.size ≤ g ∧ B ≤ w.heap.size) : Keep B [] w w2 :=
  h.trans (hk.mono (Nat.le_trans hg.2 h.size) (fun x hx hm => by simp at hm; omega))

set_option maxHeartbeats 1000000 in
theorem lives_any (w : World) : Calls Try.prog 10 #[] w fun e w' => e = .returned (.bool true) ∧ Keep w.heap.size [] w w' := by
  go_enter Try.func10, Try.ntmps10
  go_wp2_with fail
  refine (new_any _ 2 10).mono ?_
  rintro e w0 ⟨g, rfl, hg, hb', hk'⟩
  have B0 : Hid (Blk w0 g 47 (bcells ⟨2, 10, 10, 0⟩)) := hb'
  have K0 : Hid (Keep w.heap.size [] w w0) := hk'
  have G : Hid (w.heap.size ≤ g ∧ w.heap.size ≤ w.heap.size) := ⟨hg, Nat.le_refl _⟩
  clear hb' hk' hg
  go_wp2_with fail
  refine (lc0 _ g B0.out).mono ?_
  rintro e w1 ⟨rfl, hb', hk'⟩
  have B1 := Lib.hid hb'
  have K1 : Hid (Keep w.heap.size [] w w1) := lkeep K0.out hk' G.out
  clear hb' hk' B0 K0
  go_wp2_with fail
  refine (lc1 _ g B1.out).mono ?_
  rintro e w2 ⟨rfl, hb', hk'⟩
  have B2 := Lib.hid hb'
  have K2 : Hid (Keep w.heap.size [] w w2) := lkeep K1.out hk' G.out
  clear hb' hk' B1 K1
  go_wp2_with fail
  refine (lc2 _ g B2.out).mono ?_
  rintro e w3 ⟨rfl, hb', hk'⟩
  have B3 := Lib.hid hb'
  have K3 : Hid (Keep w.heap.size [] w w3) := lkeep K2.out hk' G.out
  clear hb' hk' B2 K2
  go_wp2_with fail
  refine (lc3 _ g B3.out).mono ?_
  rintro e w4 ⟨rfl, hb', hk'⟩
  have B4 := Lib.hid hb'
  have K4 : Hid (Keep w.heap.size [] w w4) := lkeep K3.out hk' G.out
  clear hb' hk' B3 K3
  go_wp2_with fail
  refine (lc4 _ g B4.out).mono ?_
  rintro e w5 ⟨rfl, hb', hk'⟩
  have B5 := Lib.hid hb'
  have K5 : Hid (Keep w.heap.size [] w w5) := lkeep K4.out hk' G.out
  clear hb' hk' B4 K4
  go_wp2_with fail
  refine (lc5 _ g B5.out).mono ?_
  rintro e w6 ⟨rfl, hb', hk'⟩
  have B6 := Lib.hid hb'
  have K6 : Hid (Keep w.heap.size [] w w6) := lkeep K5.out hk' G.out
  clear hb' hk' B5 K5
  go_wp2_with fail
  refine (lc6 _ g B6.out).mono ?_
  rintro e w7 ⟨rfl, hb', hk'⟩
  have B7 := Lib.hid hb'
  have K7 : Hid (Keep w.heap.size [] w w7) := lkeep K6.out hk' G.out
  clear hb' hk' B6 K6
  go_wp2_with fail
  refine (lc7 _ g B7.out).mono ?_
  rintro e w8 ⟨rfl, hb', hk'⟩
  have B8 := Lib.hid hb'
  have K8 : Hid (Keep w.heap.size [] w w8) := lkeep K7.out hk' G.out
  clear hb' hk' B7 K7
  go_wp2_with fail
  refine (lc8 _ g B8.out).mono ?_
  rintro e w9 ⟨rfl, hb', hk'⟩
  have B9 := Lib.hid hb'
  have K9 : Hid (Keep w.heap.size [] w w9) := lkeep K8.out hk' G.out
  clear hb' hk' B8 K8
  go_wp2_with fail
  go_ret
  exact ⟨rfl, K9.out⟩
end Go.Proofs.Ytppmbigmpilggaa
