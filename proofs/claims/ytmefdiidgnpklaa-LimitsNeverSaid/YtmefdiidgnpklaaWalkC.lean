/- The contracts of low, high and next of the watch and of its reference. -/
import Derived.Test.YtmefdiidgnpklaaWalkB
namespace Go.Proofs.Ytmefdiidgnpklaa
set_option linter.unusedVariables false
set_option linter.unusedSimpArgs false
open Go.RowKit
theorem low_1 (W : Wt) (v : Int) (h : W.last = 3) (h1 : v < W.l.hl + W.s) : W.low v = 3 := if_pos ⟨h, h1⟩
theorem low_2 (W : Wt) (v : Int) (h : ¬ (W.last = 3 ∧ v < W.l.hl + W.s)) (h1 : v < W.l.sl + W.s) : W.low v = 1 := by rw [Wt.low, if_neg h, if_pos h1]
theorem low_3 (W : Wt) (v : Int) (h : ¬ (W.last = 3 ∧ v < W.l.hl + W.s)) (h1 : ¬ v < W.l.sl + W.s) : W.low v = 0 := by rw [Wt.low, if_neg h, if_neg h1]
theorem high_1 (W : Wt) (v : Int) (h : W.last = 4) (h1 : W.l.hh - W.s < v) : W.high v = 4 := if_pos ⟨h, h1⟩
theorem high_2 (W : Wt) (v : Int) (h : ¬ (W.last = 4 ∧ W.l.hh - W.s < v)) (h1 : W.l.sh - W.s < v) : W.high v = 2 := by rw [Wt.high, if_neg h, if_pos h1]
theorem high_3 (W : Wt) (v : Int) (h : ¬ (W.last = 4 ∧ W.l.hh - W.s < v)) (h1 : ¬ W.l.sh - W.s < v) : W.high v = 0 := by rw [Wt.high, if_neg h, if_neg h1]
theorem beyond_v (w : World) (g : Nat) (W : Wt) (v lim : Int) (b : Bool) (hs : 0 ≤ W.s) (h1 : Fit v) (h2 : Fit lim) (hb : Blk w g 42 (wcells W)) (h : decide (lim + W.s ≤ v) = b) :
    Calls Try.prog 26 #[bptr g, .int .i64 v, .int .i64 lim] w fun e w' => e = .returned (.bool b) ∧ w = w' := h ▸ beyond_any w g W v lim hs h1 h2 hb
theorem under_v (w : World) (g : Nat) (W : Wt) (v lim : Int) (b : Bool) (hs : 0 ≤ W.s) (h1 : Fit v) (h2 : Fit lim) (hb : Blk w g 42 (wcells W)) (h : decide (v ≤ lim - W.s) = b) :
    Calls Try.prog 27 #[bptr g, .int .i64 v, .int .i64 lim] w fun e w' => e = .returned (.bool b) ∧ w = w' := h ▸ under_any w g W v lim hs h1 h2 hb
theorem inv_bd (W : Wt) (h : W.Inv) : (-9223372036854775808 ≤ W.l.hl + W.s ∧ W.l.hl + W.s ≤ 9223372036854775807) ∧ (-9223372036854775808 ≤ W.l.sl + W.s ∧ W.l.sl + W.s ≤ 9223372036854775807) ∧
    (-9223372036854775808 ≤ W.l.sh - W.s ∧ W.l.sh - W.s ≤ 9223372036854775807) ∧ (-9223372036854775808 ≤ W.l.hh - W.s ∧ W.l.hh - W.s ≤ 9223372036854775807) := by
  obtain ⟨⟨a, b, c, d⟩, h1, h2, h3, h4, _⟩ := h
  have hv := (valid_iff W.l).1 h1
  unfold Fit at a b c d
  omega
set_option maxHeartbeats 1000000 in
theorem low_any (w : World) (g : Nat) (W : Wt) (hi : W.Inv) (v : Int) (hv : Fit v) (hb : Blk w g 42 (wcells W)) :
    Calls Try.prog 24 #[bptr g, .int .i64 v] w fun e w' => e = .returned (.int .i64 (W.low v)) ∧ w = w' := by
  have q1 : w.cell? ⟨g, 1, none⟩ = some (.int .i64 W.l.hl) := hb.cell 1
  have q2 : w.cell? ⟨g, 2, none⟩ = some (.int .i64 W.l.sl) := hb.cell 2
  have q6 : w.cell? ⟨g, 6, none⟩ = some (.int .i64 W.last) := hb.cell 6
  have HB := Lib.hid hb
  have HI := Lib.hid hi
  have HF := Lib.hid hv
  clear hb hi hv
  by_cases hl : W.last = 3
  · have hl' : (W.last == 3) = true := beq_iff_eq.2 hl
    by_cases h1 : v < W.l.hl + W.s
    · have HV := Lib.hid (low_1 W v hl h1)
      clear hl
      go_enter Try.func24, Try.ntmps24
      go_wp2_with fail
      refine (beyond_v _ g W v W.l.hl false HI.out.s0 HF.out HI.out.fit.a HB.out (by first | (simp only [decide_eq_true_eq]; omega) | (simp only [decide_eq_false_iff_not]; omega))).mono ?_
      rintro e w' ⟨rfl, rfl⟩
      go_wp2_with fail
      go_ret
      exact ⟨by rw [HV.out]; rfl, rfl⟩
    · by_cases h2 : v < W.l.sl + W.s
      · have HV := Lib.hid (low_2 W v (fun h => h1 h.2) h2)
        clear hl
        go_enter Try.func24, Try.ntmps24
        go_wp2_with fail
        refine (beyond_v _ g W v W.l.hl true HI.out.s0 HF.out HI.out.fit.a HB.out (by first | (simp only [decide_eq_true_eq]; omega) | (simp only [decide_eq_false_iff_not]; omega))).mono ?_
        rintro e w' ⟨rfl, rfl⟩
        go_wp2_with fail
        refine (beyond_v _ g W v W.l.sl false HI.out.s0 HF.out HI.out.fit.b HB.out (by first | (simp only [decide_eq_true_eq]; omega) | (simp only [decide_eq_false_iff_not]; omega))).mono ?_
        rintro e w' ⟨rfl, rfl⟩
        go_wp2_with fail
        go_ret
        exact ⟨by rw [HV.out]; rfl, rfl⟩
      · have HV := Lib.hid (low_3 W v (fun h => h1 h.2) h2)
        clear hl
        go_enter Try.func24, Try.ntmps24
        go_wp2_with fail
        refine (beyond_v _ g W v W.l.hl true HI.out.s0 HF.out HI.out.fit.a HB.out (by first | (simp only [decide_eq_true_eq]; omega) | (simp only [decide_eq_false_iff_not]; omega))).mono ?_
        rintro e w' ⟨rfl, rfl⟩
        go_wp2_with fail
        refine (beyond_v _ g W v W.l.sl true HI.out.s0 HF.out HI.out.fit.b HB.out (by first | (simp only [decide_eq_true_eq]; omega) | (simp only [decide_eq_false_iff_not]; omega))).mono ?_
        rintro e w' ⟨rfl, rfl⟩
        go_wp2_with fail
        go_ret
        exact ⟨by rw [HV.out]; rfl, rfl⟩
  · have hl' : (W.last == 3) = false := beq_eq_false_iff_ne.2 hl
    by_cases h2 : v < W.l.sl + W.s
    · have HV := Lib.hid (low_2 W v (fun h => hl h.1) h2)
      clear hl
      go_enter Try.func24, Try.ntmps24
      go_wp2_with fail
      refine (beyond_v _ g W v W.l.sl false HI.out.s0 HF.out HI.out.fit.b HB.out (by first | (simp only [decide_eq_true_eq]; omega) | (simp only [decide_eq_false_iff_not]; omega))).mono ?_
      rintro e w' ⟨rfl, rfl⟩
      go_wp2_with fail
      go_ret
      exact ⟨by rw [HV.out]; rfl, rfl⟩
    · have HV := Lib.hid (low_3 W v (fun h => hl h.1) h2)
      clear hl
      go_enter Try.func24, Try.ntmps24
      go_wp2_with fail
      refine (beyond_v _ g W v W.l.sl true HI.out.s0 HF.out HI.out.fit.b HB.out (by first | (simp only [decide_eq_true_eq]; omega) | (simp only [decide_eq_false_iff_not]; omega))).mono ?_
      rintro e w' ⟨rfl, rfl⟩
      go_wp2_with fail
      go_ret
      exact ⟨by rw [HV.out]; rfl, rfl⟩
set_option maxHeartbeats 1000000 in
theorem high_any (w : World) (g : Nat) (W : Wt) (hi : W.Inv) (v : Int) (hv : Fit v) (hb : Blk w g 42 (wcells W)) :
    Calls Try.prog 25 #[bptr g, .int .i64 v] w fun e w' => e = .returned (.int .i64 (W.high v)) ∧ w = w' := by
  have q3 : w.cell? ⟨g, 3, none⟩ = some (.int .i64 W.l.sh) := hb.cell 3
  have q4 : w.cell? ⟨g, 4, none⟩ = some (.int .i64 W.l.hh) := hb.cell 4
  have q6 : w.cell? ⟨g, 6, none⟩ = some (.int .i64 W.last) := hb.cell 6
  have HB := Lib.hid hb
  have HI := Lib.hid hi
  have HF := Lib.hid hv
  clear hb hi hv
  by_cases hl : W.last = 4
  · have hl' : (W.last == 4) = true := beq_iff_eq.2 hl
    by_cases h1 : W.l.hh - W.s < v
    · have HV := Lib.hid (high_1 W v hl h1)
      clear hl
      go_enter Try.func25, Try.ntmps25
      go_wp2_with fail
      refine (under_v _ g W v W.l.hh false HI.out.s0 HF.out HI.out.fit.d HB.out (by first | (simp only [decide_eq_true_eq]; omega) | (simp only [decide_eq_false_iff_not]; omega))).mono ?_
      rintro e w' ⟨rfl, rfl⟩
      go_wp2_with fail
      go_ret
      exact ⟨by rw [HV.out]; rfl, rfl⟩
    · by_cases h2 : W.l.sh - W.s < v
      · have HV := Lib.hid (high_2 W v (fun h => h1 h.2) h2)
        clear hl
        go_enter Try.func25, Try.ntmps25
        go_wp2_with fail
        refine (under_v _ g W v W.l.hh true HI.out.s0 HF.out HI.out.fit.d HB.out (by first | (simp only [decide_eq_true_eq]; omega) | (simp only [decide_eq_false_iff_not]; omega))).mono ?_
        rintro e w' ⟨rfl, rfl⟩
        go_wp2_with fail
        refine (under_v _ g W v W.l.sh false HI.out.s0 HF.out HI.out.fit.c HB.out (by first | (simp only [decide_eq_true_eq]; omega) | (simp only [decide_eq_false_iff_not]; omega))).mono ?_
        rintro e w' ⟨rfl, rfl⟩
        go_wp2_with fail
        go_ret
        exact ⟨by rw [HV.out]; rfl, rfl⟩
      · have HV := Lib.hid (high_3 W v (fun h => h1 h.2) h2)
        clear hl
        go_enter Try.func25, Try.ntmps25
        go_wp2_with fail
        refine (under_v _ g W v W.l.hh true HI.out.s0 HF.out HI.out.fit.d HB.out (by first | (simp only [decide_eq_true_eq]; omega) | (simp only [decide_eq_false_iff_not]; omega))).mono ?_
        rintro e w' ⟨rfl, rfl⟩
        go_wp2_with fail
        refine (under_v _ g W v W.l.sh true HI.out.s0 HF.out HI.out.fit.c HB.out (by first | (simp only [decide_eq_true_eq]; omega) | (simp only [decide_eq_false_iff_not]; omega))).mono ?_
        rintro e w' ⟨rfl, rfl⟩
        go_wp2_with fail
        go_ret
        exact ⟨by rw [HV.out]; rfl, rfl⟩
  · have hl' : (W.last == 4) = false := beq_eq_false_iff_ne.2 hl
    by_cases h2 : W.l.sh - W.s < v
    · have HV := Lib.hid (high_2 W v (fun h => hl h.1) h2)
      clear hl
      go_enter Try.func25, Try.ntmps25
      go_wp2_with fail
      refine (under_v _ g W v W.l.sh false HI.out.s0 HF.out HI.out.fit.c HB.out (by first | (simp only [decide_eq_true_eq]; omega) | (simp only [decide_eq_false_iff_not]; omega))).mono ?_
      rintro e w' ⟨rfl, rfl⟩
      go_wp2_with fail
      go_ret
      exact ⟨by rw [HV.out]; rfl, rfl⟩
    · have HV := Lib.hid (high_3 W v (fun h => hl h.1) h2)
      clear hl
      go_enter Try.func25, Try.ntmps25
      go_wp2_with fail
      refine (under_v _ g W v W.l.sh true HI.out.s0 HF.out HI.out.fit.c HB.out (by first | (simp only [decide_eq_true_eq]; omega) | (simp only [decide_eq_false_iff_not]; omega))).mono ?_
      rintro e w' ⟨rfl, rfl⟩
      go_wp2_with fail
      go_ret
      exact ⟨by rw [HV.out]; rfl, rfl⟩
set_option maxHeartbeats 1000000 in
theorem rlow_any (w : World) (g : Nat) (W : Wt) (hi : W.Inv) (v : Int) (hb : Blk w g 35 (rcells W)) :
    Calls Try.prog 22 #[bptr g, .int .i64 v] w fun e w' => e = .returned (.int .i64 (W.low v)) ∧ Keep w.heap.size [] w w' ∧ w'.heap = w.heap := by
  have q0 : w.cell? ⟨g, 0, none⟩ = some (.int .i64 W.l.hl) := hb.cell 0
  have q1 : w.cell? ⟨g, 1, none⟩ = some (.int .i64 W.l.sl) := hb.cell 1
  have q4 : w.cell? ⟨g, 4, none⟩ = some (.int .i64 W.s) := hb.cell 4
  have q5 : w.cell? ⟨g, 5, none⟩ = some (.int .i64 W.last) := hb.cell 5
  obtain ⟨⟨b1, b2⟩, ⟨b3, b4⟩, ⟨b5, b6⟩, b7, b8⟩ := inv_bd W hi
  clear hb hi
  by_cases hl : W.last = 3
  · have hl' : (W.last == 3) = true := beq_iff_eq.2 hl
    by_cases h1 : v < W.l.hl + W.s
    · have HV := Lib.hid (low_1 W v hl h1)
      clear hl
      go_enter Try.func22, Try.ntmps22
      go_wp2_with fail
      go_quiet (fail)
      go_wp2_with fail
      go_ret
      exact ⟨by rw [HV.out]; rfl, by first | exact (Keep.refl _ _ _).drewN _ | exact ((Keep.refl _ _ _).drewN _).drewN _, rfl⟩
    · by_cases h2 : v < W.l.sl + W.s
      · have HV := Lib.hid (low_2 W v (fun h => h1 h.2) h2)
        clear hl
        go_enter Try.func22, Try.ntmps22
        go_wp2_with fail
        go_quiet (fail)
        go_wp2_with fail
        go_quiet (fail)
        go_wp2_with fail
        go_ret
        exact ⟨by rw [HV.out]; rfl, by first | exact (Keep.refl _ _ _).drewN _ | exact ((Keep.refl _ _ _).drewN _).drewN _, rfl⟩
      · have HV := Lib.hid (low_3 W v (fun h => h1 h.2) h2)
        clear hl
        go_enter Try.func22, Try.ntmps22
        go_wp2_with fail
        go_quiet (fail)
        go_wp2_with fail
        go_quiet (fail)
        go_wp2_with fail
        go_ret
        exact ⟨by rw [HV.out]; rfl, by first | exact (Keep.refl _ _ _).drewN _ | exact ((Keep.refl _ _ _).drewN _).drewN _, rfl⟩
  · have hl' : (W.last == 3) = false := beq_eq_false_iff_ne.2 hl
    by_cases h2 : v < W.l.sl + W.s
    · have HV := Lib.hid (low_2 W v (fun h => hl h.1) h2)
      clear hl
      go_enter Try.func22, Try.ntmps22
      go_wp2_with fail
      go_quiet (fail)
      go_wp2_with fail
      go_quiet (fail)
      go_wp2_with fail
      go_ret
      exact ⟨by rw [HV.out]; rfl, by first | exact (Keep.refl _ _ _).drewN _ | exact ((Keep.refl _ _ _).drewN _).drewN _, rfl⟩
    · have HV := Lib.hid (low_3 W v (fun h => hl h.1) h2)
      clear hl
      go_enter Try.func22, Try.ntmps22
      go_wp2_with fail
      go_quiet (fail)
      go_wp2_with fail
      go_quiet (fail)
      go_wp2_with fail
      go_ret
      exact ⟨by rw [HV.out]; rfl, by first | exact (Keep.refl _ _ _).drewN _ | exact ((Keep.refl _ _ _).drewN _).drewN _, rfl⟩
set_option maxHeartbeats 1000000 in
theorem rhigh_any (w : World) (g : Nat) (W : Wt) (hi : W.Inv) (v : Int) (hb : Blk w g 35 (rcells W)) :
    Calls Try.prog 23 #[bptr g, .int .i64 v] w fun e w' => e = .returned (.int .i64 (W.high v)) ∧ Keep w.heap.size [] w w' ∧ w'.heap = w.heap := by
  have q2 : w.cell? ⟨g, 2, none⟩ = some (.int .i64 W.l.sh) := hb.cell 2
  have q3 : w.cell? ⟨g, 3, none⟩ = some (.int .i64 W.l.hh) := hb.cell 3
  have q4 : w.cell? ⟨g, 4, none⟩ = some (.int .i64 W.s) := hb.cell 4
  have q5 : w.cell? ⟨g, 5, none⟩ = some (.int .i64 W.last) := hb.cell 5
  obtain ⟨⟨b1, b2⟩, ⟨b3, b4⟩, ⟨b5, b6⟩, b7, b8⟩ := inv_bd W hi
  clear hb hi
  by_cases hl : W.last = 4
  · have hl' : (W.last == 4) = true := beq_iff_eq.2 hl
    by_cases h1 : W.l.hh - W.s < v
    · have HV := Lib.hid (high_1 W v hl h1)
      clear hl
      go_enter Try.func23, Try.ntmps23
      go_wp2_with fail
      go_quiet (fail)
      go_wp2_with fail
      go_ret
      exact ⟨by rw [HV.out]; rfl, by first | exact (Keep.refl _ _ _).drewN _ | exact ((Keep.refl _ _ _).drewN _).drewN _, rfl⟩
    · by_cases h2 : W.l.sh - W.s < v
      · have HV := Lib.hid (high_2 W v (fun h => h1 h.2) h2)
        clear hl
        go_enter Try.func23, Try.ntmps23
        go_wp2_with fail
        go_quiet (fail)
        go_wp2_with fail
        go_quiet (fail)
        go_wp2_with fail
        go_ret
        exact ⟨by rw [HV.out]; rfl, by first | exact (Keep.refl _ _ _).drewN _ | exact ((Keep.refl _ _ _).drewN _).drewN _, rfl⟩
      · have HV := Lib.hid (high_3 W v (fun h => h1 h.2) h2)
        clear hl
        go_enter Try.func23, Try.ntmps23
        go_wp2_with fail
        go_quiet (fail)
        go_wp2_with fail
        go_quiet (fail)
        go_wp2_with fail
        go_ret
        exact ⟨by rw [HV.out]; rfl, by first | exact (Keep.refl _ _ _).drewN _ | exact ((Keep.refl _ _ _).drewN _).drewN _, rfl⟩
  · have hl' : (W.last == 4) = false := beq_eq_false_iff_ne.2 hl
    by_cases h2 : W.l.sh - W.s < v
    · have HV := Lib.hid (high_2 W v (fun h => hl h.1) h2)
      clear hl
      go_enter Try.func23, Try.ntmps23
      go_wp2_with fail
      go_quiet (fail)
      go_wp2_with fail
      go_quiet (fail)
      go_wp2_with fail
      go_ret
      exact ⟨by rw [HV.out]; rfl, by first | exact (Keep.refl _ _ _).drewN _ | exact ((Keep.refl _ _ _).drewN _).drewN _, rfl⟩
    · have HV := Lib.hid (high_3 W v (fun h => hl h.1) h2)
      clear hl
      go_enter Try.func23, Try.ntmps23
      go_wp2_with fail
      go_quiet (fail)
      go_wp2_with fail
      go_quiet (fail)
      go_wp2_with fail
      go_ret
      exact ⟨by rw [HV.out]; rfl, by first | exact (Keep.refl _ _ _).drewN _ | exact ((Keep.refl _ _ _).drewN _).drewN _, rfl⟩
end Go.Proofs.Ytmefdiidgnpklaa
