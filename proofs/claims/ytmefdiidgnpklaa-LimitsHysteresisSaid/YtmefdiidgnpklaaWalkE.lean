/- The contract of Feed of the reference's watch. -/
import Derived.Test.YtmefdiidgnpklaaWalkD
namespace Go.Proofs.Ytmefdiidgnpklaa
set_option linter.unusedVariables false
set_option linter.unusedSimpArgs false
open Go.RowKit
theorem rlow_n (w : World) (g : Nat) (W : Wt) (hi : W.Inv) (v : Int) (hb : Blk w g 35 (rcells W)) (n : Nat) (h : W.low v = (n : Int)) :
    Calls Try.prog 22 #[bptr g, .int .i64 v] w fun e w' => e = .returned (.int .i64 (n : Int)) ∧ Keep w.heap.size [] w w' ∧ w'.heap = w.heap := h ▸ rlow_any w g W hi v hb
theorem rhigh_n (w : World) (g : Nat) (W : Wt) (hi : W.Inv) (v : Int) (hb : Blk w g 35 (rcells W)) (n : Nat) (h : W.high v = (n : Int)) :
    Calls Try.prog 23 #[bptr g, .int .i64 v] w fun e w' => e = .returned (.int .i64 (n : Int)) ∧ Keep w.heap.size [] w w' ∧ w'.heap = w.heap := h ▸ rhigh_any w g W hi v hb

set_option maxHeartbeats 4000000 in
theorem rfeed_0 (w : World) (g : Nat) (W : Wt) (hi : W.Inv) (hl : W.last = 0) (v : Int) (hb : Blk w g 35 (rcells W)) :
    Calls Try.prog 16 #[bptr g, .int .i64 v] w (FeedPost w g 35 (rcells (W.feed v)) (.int .i64 (W.next v))) := by
  obtain ⟨n, hn, he⟩ := next_nat W v
  have hf : W.feed v = W.bump n := by rw [Wt.feed, he]; simp
  rw [hf, he]
  have q0 : w.cell? ⟨g, 0, none⟩ = some (.int .i64 W.l.hl) := hb.cell 0
  have q1 : w.cell? ⟨g, 1, none⟩ = some (.int .i64 W.l.sl) := hb.cell 1
  have q2 : w.cell? ⟨g, 2, none⟩ = some (.int .i64 W.l.sh) := hb.cell 2
  have q3 : w.cell? ⟨g, 3, none⟩ = some (.int .i64 W.l.hh) := hb.cell 3
  have q5 : w.cell? ⟨g, 5, none⟩ = some (.int .i64 0) := (hb.cell 5).trans (by rw [← hl]; rfl)
  have HB := Lib.hid hb
  have HI := Lib.hid hi
  have HL := Lib.hid hl
  clear hf
  rcases check_cases W.l v with hx | hx | hx | hx | hx
  · have hn0 : W.next v = 0 := by simp [Wt.next, hl, hx]
    obtain rfl : n = 0 := by omega
    clear hn0
    have HX := Lib.hid hx
    clear hb hi he hl hx
    go_enter Try.func16, Try.ntmps16
    go_wp2_with fail
    refine (rcheck_v _ W.l v 0 HX.out).mono ?_
    rintro e w1 ⟨rfl, hw⟩
    have HB1 : Hid (Blk w1 g 35 (rcells W)) := by rw [← hw]; exact (HB.out.alloc _).alloc _
    have HK1 : Hid (Keep w.heap.size [] w w1) := by rw [← hw]; exact keep_box2 w W.l
    have q5' : w1.cell? ⟨g, 5, none⟩ = some (.int .i64 0) := (HB1.out.cell 5).trans (by rw [← HL.out]; rfl)
    have f5' := HB1.out.frozen 5
    clear hw q5 q0 q1 q2 q3
    go_wp2_with fail
    obtain ⟨W1, hW⟩ : ∃ W1, W1 = w1.setCell ⟨g, 5, none⟩ (.int .i64 0) := ⟨_, rfl⟩
    have HB3 : Hid (Blk W1 g 35 ((rcells W).setIfInBounds 5 (.int .i64 0))) := by rw [hW]; exact HB1.out.set_ 5 _
    have HK3 : Hid (Keep w.heap.size [g] w W1) := by rw [hW]; exact (HK1.out.mono (Nat.le_refl _) (by simp)).set1
    have p6 : W1.cell? ⟨g, 6, none⟩ = some (.int .i64 (W.cnt 0)) := by rw [hW, World.cell?_setCell_other _ _ _ _ (by intro e; injection e; omega)]; exact rcell_cnt HB1.out hn
    have e6 := HB3.out.frozen (6)
    rw [← hW]
    clear hW
    go_region
    all_goals go_wp2_with fail
    all_goals go_ret
    all_goals exact ⟨rfl, by rw [← rset hn]; exact HB3.out.set_ (6 + 0) _, HK3.out.drew.set1⟩
  · have hn0 : W.next v = 1 := by simp [Wt.next, hl, hx]
    obtain rfl : n = 1 := by omega
    clear hn0
    have HX := Lib.hid hx
    clear hb hi he hl hx
    go_enter Try.func16, Try.ntmps16
    go_wp2_with fail
    refine (rcheck_v _ W.l v 1 HX.out).mono ?_
    rintro e w1 ⟨rfl, hw⟩
    have HB1 : Hid (Blk w1 g 35 (rcells W)) := by rw [← hw]; exact (HB.out.alloc _).alloc _
    have HK1 : Hid (Keep w.heap.size [] w w1) := by rw [← hw]; exact keep_box2 w W.l
    have q5' : w1.cell? ⟨g, 5, none⟩ = some (.int .i64 0) := (HB1.out.cell 5).trans (by rw [← HL.out]; rfl)
    have f5' := HB1.out.frozen 5
    clear hw q5 q0 q1 q2 q3
    go_wp2_with fail
    obtain ⟨W1, hW⟩ : ∃ W1, W1 = w1.setCell ⟨g, 5, none⟩ (.int .i64 1) := ⟨_, rfl⟩
    have HB3 : Hid (Blk W1 g 35 ((rcells W).setIfInBounds 5 (.int .i64 1))) := by rw [hW]; exact HB1.out.set_ 5 _
    have HK3 : Hid (Keep w.heap.size [g] w W1) := by rw [hW]; exact (HK1.out.mono (Nat.le_refl _) (by simp)).set1
    have p6 : W1.cell? ⟨g, 7, none⟩ = some (.int .i64 (W.cnt 1)) := by rw [hW, World.cell?_setCell_other _ _ _ _ (by intro e; injection e; omega)]; exact rcell_cnt HB1.out hn
    have e6 := HB3.out.frozen (7)
    rw [← hW]
    clear hW
    go_region
    all_goals go_wp2_with fail
    all_goals go_ret
    all_goals exact ⟨rfl, by rw [← rset hn]; exact HB3.out.set_ (6 + 1) _, HK3.out.drew.set1⟩
  · have hn0 : W.next v = 2 := by simp [Wt.next, hl, hx]
    obtain rfl : n = 2 := by omega
    clear hn0
    have HX := Lib.hid hx
    clear hb hi he hl hx
    go_enter Try.func16, Try.ntmps16
    go_wp2_with fail
    refine (rcheck_v _ W.l v 2 HX.out).mono ?_
    rintro e w1 ⟨rfl, hw⟩
    have HB1 : Hid (Blk w1 g 35 (rcells W)) := by rw [← hw]; exact (HB.out.alloc _).alloc _
    have HK1 : Hid (Keep w.heap.size [] w w1) := by rw [← hw]; exact keep_box2 w W.l
    have q5' : w1.cell? ⟨g, 5, none⟩ = some (.int .i64 0) := (HB1.out.cell 5).trans (by rw [← HL.out]; rfl)
    have f5' := HB1.out.frozen 5
    clear hw q5 q0 q1 q2 q3
    go_wp2_with fail
    obtain ⟨W1, hW⟩ : ∃ W1, W1 = w1.setCell ⟨g, 5, none⟩ (.int .i64 2) := ⟨_, rfl⟩
    have HB3 : Hid (Blk W1 g 35 ((rcells W).setIfInBounds 5 (.int .i64 2))) := by rw [hW]; exact HB1.out.set_ 5 _
    have HK3 : Hid (Keep w.heap.size [g] w W1) := by rw [hW]; exact (HK1.out.mono (Nat.le_refl _) (by simp)).set1
    have p6 : W1.cell? ⟨g, 8, none⟩ = some (.int .i64 (W.cnt 2)) := by rw [hW, World.cell?_setCell_other _ _ _ _ (by intro e; injection e; omega)]; exact rcell_cnt HB1.out hn
    have e6 := HB3.out.frozen (8)
    rw [← hW]
    clear hW
    go_region
    all_goals go_wp2_with fail
    all_goals go_ret
    all_goals exact ⟨rfl, by rw [← rset hn]; exact HB3.out.set_ (6 + 2) _, HK3.out.drew.set1⟩
  · have hn0 : W.next v = 3 := by simp [Wt.next, hl, hx]
    obtain rfl : n = 3 := by omega
    clear hn0
    have HX := Lib.hid hx
    clear hb hi he hl hx
    go_enter Try.func16, Try.ntmps16
    go_wp2_with fail
    refine (rcheck_v _ W.l v 3 HX.out).mono ?_
    rintro e w1 ⟨rfl, hw⟩
    have HB1 : Hid (Blk w1 g 35 (rcells W)) := by rw [← hw]; exact (HB.out.alloc _).alloc _
    have HK1 : Hid (Keep w.heap.size [] w w1) := by rw [← hw]; exact keep_box2 w W.l
    have q5' : w1.cell? ⟨g, 5, none⟩ = some (.int .i64 0) := (HB1.out.cell 5).trans (by rw [← HL.out]; rfl)
    have f5' := HB1.out.frozen 5
    clear hw q5 q0 q1 q2 q3
    go_wp2_with fail
    obtain ⟨W1, hW⟩ : ∃ W1, W1 = w1.setCell ⟨g, 5, none⟩ (.int .i64 3) := ⟨_, rfl⟩
    have HB3 : Hid (Blk W1 g 35 ((rcells W).setIfInBounds 5 (.int .i64 3))) := by rw [hW]; exact HB1.out.set_ 5 _
    have HK3 : Hid (Keep w.heap.size [g] w W1) := by rw [hW]; exact (HK1.out.mono (Nat.le_refl _) (by simp)).set1
    have p6 : W1.cell? ⟨g, 9, none⟩ = some (.int .i64 (W.cnt 3)) := by rw [hW, World.cell?_setCell_other _ _ _ _ (by intro e; injection e; omega)]; exact rcell_cnt HB1.out hn
    have e6 := HB3.out.frozen (9)
    rw [← hW]
    clear hW
    go_region
    all_goals go_wp2_with fail
    all_goals go_ret
    all_goals exact ⟨rfl, by rw [← rset hn]; exact HB3.out.set_ (6 + 3) _, HK3.out.drew.set1⟩
  · have hn0 : W.next v = 4 := by simp [Wt.next, hl, hx]
    obtain rfl : n = 4 := by omega
    clear hn0
    have HX := Lib.hid hx
    clear hb hi he hl hx
    go_enter Try.func16, Try.ntmps16
    go_wp2_with fail
    refine (rcheck_v _ W.l v 4 HX.out).mono ?_
    rintro e w1 ⟨rfl, hw⟩
    have HB1 : Hid (Blk w1 g 35 (rcells W)) := by rw [← hw]; exact (HB.out.alloc _).alloc _
    have HK1 : Hid (Keep w.heap.size [] w w1) := by rw [← hw]; exact keep_box2 w W.l
    have q5' : w1.cell? ⟨g, 5, none⟩ = some (.int .i64 0) := (HB1.out.cell 5).trans (by rw [← HL.out]; rfl)
    have f5' := HB1.out.frozen 5
    clear hw q5 q0 q1 q2 q3
    go_wp2_with fail
    obtain ⟨W1, hW⟩ : ∃ W1, W1 = w1.setCell ⟨g, 5, none⟩ (.int .i64 4) := ⟨_, rfl⟩
    have HB3 : Hid (Blk W1 g 35 ((rcells W).setIfInBounds 5 (.int .i64 4))) := by rw [hW]; exact HB1.out.set_ 5 _
    have HK3 : Hid (Keep w.heap.size [g] w W1) := by rw [hW]; exact (HK1.out.mono (Nat.le_refl _) (by simp)).set1
    have p6 : W1.cell? ⟨g, 10, none⟩ = some (.int .i64 (W.cnt 4)) := by rw [hW, World.cell?_setCell_other _ _ _ _ (by intro e; injection e; omega)]; exact rcell_cnt HB1.out hn
    have e6 := HB3.out.frozen (10)
    rw [← hW]
    clear hW
    go_region
    all_goals go_wp2_with fail
    all_goals go_ret
    all_goals exact ⟨rfl, by rw [← rset hn]; exact HB3.out.set_ (6 + 4) _, HK3.out.drew.set1⟩
set_option maxHeartbeats 4000000 in
theorem rfeed_1 (w : World) (g : Nat) (W : Wt) (hi : W.Inv) (hl : W.last = 1) (v : Int) (hb : Blk w g 35 (rcells W)) :
    Calls Try.prog 16 #[bptr g, .int .i64 v] w (FeedPost w g 35 (rcells (W.feed v)) (.int .i64 (W.next v))) := by
  obtain ⟨n, hn, he⟩ := next_nat W v
  have hf : W.feed v = W.bump n := by rw [Wt.feed, he]; simp
  rw [hf, he]
  have q0 : w.cell? ⟨g, 0, none⟩ = some (.int .i64 W.l.hl) := hb.cell 0
  have q1 : w.cell? ⟨g, 1, none⟩ = some (.int .i64 W.l.sl) := hb.cell 1
  have q2 : w.cell? ⟨g, 2, none⟩ = some (.int .i64 W.l.sh) := hb.cell 2
  have q3 : w.cell? ⟨g, 3, none⟩ = some (.int .i64 W.l.hh) := hb.cell 3
  have q5 : w.cell? ⟨g, 5, none⟩ = some (.int .i64 1) := (hb.cell 5).trans (by rw [← hl]; rfl)
  have HB := Lib.hid hb
  have HI := Lib.hid hi
  have HL := Lib.hid hl
  clear hf
  rcases check_cases W.l v with hx | hx | hx | hx | hx
  · have HV : Hid (W.low v = (n : Int)) := by unfold Hid; rw [← he]; simp [Wt.next, hl, hx]
    have HX := Lib.hid hx
    clear hb hi he hl hx
    go_enter Try.func16, Try.ntmps16
    go_wp2_with fail
    refine (rcheck_v _ W.l v 0 HX.out).mono ?_
    rintro e w1 ⟨rfl, hw⟩
    have HB1 : Hid (Blk w1 g 35 (rcells W)) := by rw [← hw]; exact (HB.out.alloc _).alloc _
    have HK1 : Hid (Keep w.heap.size [] w w1) := by rw [← hw]; exact keep_box2 w W.l
    have q5' : w1.cell? ⟨g, 5, none⟩ = some (.int .i64 1) := (HB1.out.cell 5).trans (by rw [← HL.out]; rfl)
    have f5' := HB1.out.frozen 5
    clear hw q5 q0 q1 q2 q3
    go_wp2_with fail
    refine (rlow_n _ g W HI.out v HB1.out n HV.out).mono ?_
    rintro e w2 ⟨rfl, hk2, hh2⟩
    have HB2 : Hid (Blk w2 g 35 (rcells W)) := by unfold Hid Blk; rw [hh2]; exact HB1.out
    have HK2 : Hid (Keep w.heap.size [] w w2) := HK1.out.chain0 (Nat.le_refl _) hk2
    have f5 := HB2.out.frozen 5
    have q5 : w2.cell? ⟨g, 5, none⟩ = some (.int .i64 W.last) := HB2.out.cell 5
    have hb2 := HB2.out
    clear hk2 hh2 q5' f5'
    go_wp2_with fail
    obtain ⟨W1, hW⟩ : ∃ W1, W1 = w2.setCell ⟨g, 5, none⟩ (.int .i64 (n : Int)) := ⟨_, rfl⟩
    have HB3 : Hid (Blk W1 g 35 ((rcells W).setIfInBounds 5 (.int .i64 (n : Int)))) := by rw [hW]; exact HB2.out.set_ 5 _
    have HK3 : Hid (Keep w.heap.size [g] w W1) := by rw [hW]; exact (HK2.out.mono (Nat.le_refl _) (by simp)).set1
    have p6 : W1.cell? ⟨g, 6 + n, none⟩ = some (.int .i64 (W.cnt n)) := by rw [hW, World.cell?_setCell_other _ _ _ _ (by intro e; injection e; omega)]; exact rcell_cnt HB2.out hn
    have e6 := HB3.out.frozen (6 + n)
    rw [← hW]
    clear hW
    go_region
    all_goals go_wp2_with fail
    all_goals go_ret
    all_goals exact ⟨rfl, by rw [← rset hn]; exact HB3.out.set_ (6 + n) _, HK3.out.drew.set1⟩
  · have hn0 : W.next v = 1 := by simp [Wt.next, hl, hx]
    obtain rfl : n = 1 := by omega
    clear hn0
    have HX := Lib.hid hx
    clear hb hi he hl hx
    go_enter Try.func16, Try.ntmps16
    go_wp2_with fail
    refine (rcheck_v _ W.l v 1 HX.out).mono ?_
    rintro e w1 ⟨rfl, hw⟩
    have HB1 : Hid (Blk w1 g 35 (rcells W)) := by rw [← hw]; exact (HB.out.alloc _).alloc _
    have HK1 : Hid (Keep w.heap.size [] w w1) := by rw [← hw]; exact keep_box2 w W.l
    have q5' : w1.cell? ⟨g, 5, none⟩ = some (.int .i64 1) := (HB1.out.cell 5).trans (by rw [← HL.out]; rfl)
    have f5' := HB1.out.frozen 5
    clear hw q5 q0 q1 q2 q3
    go_wp2_with fail
    obtain ⟨W1, hW⟩ : ∃ W1, W1 = w1.setCell ⟨g, 5, none⟩ (.int .i64 1) := ⟨_, rfl⟩
    have HB3 : Hid (Blk W1 g 35 ((rcells W).setIfInBounds 5 (.int .i64 1))) := by rw [hW]; exact HB1.out.set_ 5 _
    have HK3 : Hid (Keep w.heap.size [g] w W1) := by rw [hW]; exact (HK1.out.mono (Nat.le_refl _) (by simp)).set1
    have p6 : W1.cell? ⟨g, 7, none⟩ = some (.int .i64 (W.cnt 1)) := by rw [hW, World.cell?_setCell_other _ _ _ _ (by intro e; injection e; omega)]; exact rcell_cnt HB1.out hn
    have e6 := HB3.out.frozen (7)
    rw [← hW]
    clear hW
    go_region
    all_goals go_wp2_with fail
    all_goals go_ret
    all_goals exact ⟨rfl, by rw [← rset hn]; exact HB3.out.set_ (6 + 1) _, HK3.out.drew.set1⟩
  · have hn0 : W.next v = 2 := by simp [Wt.next, hl, hx]
    obtain rfl : n = 2 := by omega
    clear hn0
    have HX := Lib.hid hx
    clear hb hi he hl hx
    go_enter Try.func16, Try.ntmps16
    go_wp2_with fail
    refine (rcheck_v _ W.l v 2 HX.out).mono ?_
    rintro e w1 ⟨rfl, hw⟩
    have HB1 : Hid (Blk w1 g 35 (rcells W)) := by rw [← hw]; exact (HB.out.alloc _).alloc _
    have HK1 : Hid (Keep w.heap.size [] w w1) := by rw [← hw]; exact keep_box2 w W.l
    have q5' : w1.cell? ⟨g, 5, none⟩ = some (.int .i64 1) := (HB1.out.cell 5).trans (by rw [← HL.out]; rfl)
    have f5' := HB1.out.frozen 5
    clear hw q5 q0 q1 q2 q3
    go_wp2_with fail
    obtain ⟨W1, hW⟩ : ∃ W1, W1 = w1.setCell ⟨g, 5, none⟩ (.int .i64 2) := ⟨_, rfl⟩
    have HB3 : Hid (Blk W1 g 35 ((rcells W).setIfInBounds 5 (.int .i64 2))) := by rw [hW]; exact HB1.out.set_ 5 _
    have HK3 : Hid (Keep w.heap.size [g] w W1) := by rw [hW]; exact (HK1.out.mono (Nat.le_refl _) (by simp)).set1
    have p6 : W1.cell? ⟨g, 8, none⟩ = some (.int .i64 (W.cnt 2)) := by rw [hW, World.cell?_setCell_other _ _ _ _ (by intro e; injection e; omega)]; exact rcell_cnt HB1.out hn
    have e6 := HB3.out.frozen (8)
    rw [← hW]
    clear hW
    go_region
    all_goals go_wp2_with fail
    all_goals go_ret
    all_goals exact ⟨rfl, by rw [← rset hn]; exact HB3.out.set_ (6 + 2) _, HK3.out.drew.set1⟩
  · have hn0 : W.next v = 3 := by simp [Wt.next, hl, hx]
    obtain rfl : n = 3 := by omega
    clear hn0
    have HX := Lib.hid hx
    clear hb hi he hl hx
    go_enter Try.func16, Try.ntmps16
    go_wp2_with fail
    refine (rcheck_v _ W.l v 3 HX.out).mono ?_
    rintro e w1 ⟨rfl, hw⟩
    have HB1 : Hid (Blk w1 g 35 (rcells W)) := by rw [← hw]; exact (HB.out.alloc _).alloc _
    have HK1 : Hid (Keep w.heap.size [] w w1) := by rw [← hw]; exact keep_box2 w W.l
    have q5' : w1.cell? ⟨g, 5, none⟩ = some (.int .i64 1) := (HB1.out.cell 5).trans (by rw [← HL.out]; rfl)
    have f5' := HB1.out.frozen 5
    clear hw q5 q0 q1 q2 q3
    go_wp2_with fail
    obtain ⟨W1, hW⟩ : ∃ W1, W1 = w1.setCell ⟨g, 5, none⟩ (.int .i64 3) := ⟨_, rfl⟩
    have HB3 : Hid (Blk W1 g 35 ((rcells W).setIfInBounds 5 (.int .i64 3))) := by rw [hW]; exact HB1.out.set_ 5 _
    have HK3 : Hid (Keep w.heap.size [g] w W1) := by rw [hW]; exact (HK1.out.mono (Nat.le_refl _) (by simp)).set1
    have p6 : W1.cell? ⟨g, 9, none⟩ = some (.int .i64 (W.cnt 3)) := by rw [hW, World.cell?_setCell_other _ _ _ _ (by intro e; injection e; omega)]; exact rcell_cnt HB1.out hn
    have e6 := HB3.out.frozen (9)
    rw [← hW]
    clear hW
    go_region
    all_goals go_wp2_with fail
    all_goals go_ret
    all_goals exact ⟨rfl, by rw [← rset hn]; exact HB3.out.set_ (6 + 3) _, HK3.out.drew.set1⟩
  · have hn0 : W.next v = 4 := by simp [Wt.next, hl, hx]
    obtain rfl : n = 4 := by omega
    clear hn0
    have HX := Lib.hid hx
    clear hb hi he hl hx
    go_enter Try.func16, Try.ntmps16
    go_wp2_with fail
    refine (rcheck_v _ W.l v 4 HX.out).mono ?_
    rintro e w1 ⟨rfl, hw⟩
    have HB1 : Hid (Blk w1 g 35 (rcells W)) := by rw [← hw]; exact (HB.out.alloc _).alloc _
    have HK1 : Hid (Keep w.heap.size [] w w1) := by rw [← hw]; exact keep_box2 w W.l
    have q5' : w1.cell? ⟨g, 5, none⟩ = some (.int .i64 1) := (HB1.out.cell 5).trans (by rw [← HL.out]; rfl)
    have f5' := HB1.out.frozen 5
    clear hw q5 q0 q1 q2 q3
    go_wp2_with fail
    obtain ⟨W1, hW⟩ : ∃ W1, W1 = w1.setCell ⟨g, 5, none⟩ (.int .i64 4) := ⟨_, rfl⟩
    have HB3 : Hid (Blk W1 g 35 ((rcells W).setIfInBounds 5 (.int .i64 4))) := by rw [hW]; exact HB1.out.set_ 5 _
    have HK3 : Hid (Keep w.heap.size [g] w W1) := by rw [hW]; exact (HK1.out.mono (Nat.le_refl _) (by simp)).set1
    have p6 : W1.cell? ⟨g, 10, none⟩ = some (.int .i64 (W.cnt 4)) := by rw [hW, World.cell?_setCell_other _ _ _ _ (by intro e; injection e; omega)]; exact rcell_cnt HB1.out hn
    have e6 := HB3.out.frozen (10)
    rw [← hW]
    clear hW
    go_region
    all_goals go_wp2_with fail
    all_goals go_ret
    all_goals exact ⟨rfl, by rw [← rset hn]; exact HB3.out.set_ (6 + 4) _, HK3.out.drew.set1⟩
set_option maxHeartbeats 4000000 in
theorem rfeed_2 (w : World) (g : Nat) (W : Wt) (hi : W.Inv) (hl : W.last = 2) (v : Int) (hb : Blk w g 35 (rcells W)) :
    Calls Try.prog 16 #[bptr g, .int .i64 v] w (FeedPost w g 35 (rcells (W.feed v)) (.int .i64 (W.next v))) := by
  obtain ⟨n, hn, he⟩ := next_nat W v
  have hf : W.feed v = W.bump n := by rw [Wt.feed, he]; simp
  rw [hf, he]
  have q0 : w.cell? ⟨g, 0, none⟩ = some (.int .i64 W.l.hl) := hb.cell 0
  have q1 : w.cell? ⟨g, 1, none⟩ = some (.int .i64 W.l.sl) := hb.cell 1
  have q2 : w.cell? ⟨g, 2, none⟩ = some (.int .i64 W.l.sh) := hb.cell 2
  have q3 : w.cell? ⟨g, 3, none⟩ = some (.int .i64 W.l.hh) := hb.cell 3
  have q5 : w.cell? ⟨g, 5, none⟩ = some (.int .i64 2) := (hb.cell 5).trans (by rw [← hl]; rfl)
  have HB := Lib.hid hb
  have HI := Lib.hid hi
  have HL := Lib.hid hl
  clear hf
  rcases check_cases W.l v with hx | hx | hx | hx | hx
  · have HV : Hid (W.high v = (n : Int)) := by unfold Hid; rw [← he]; simp [Wt.next, hl, hx]
    have HX := Lib.hid hx
    clear hb hi he hl hx
    go_enter Try.func16, Try.ntmps16
    go_wp2_with fail
    refine (rcheck_v _ W.l v 0 HX.out).mono ?_
    rintro e w1 ⟨rfl, hw⟩
    have HB1 : Hid (Blk w1 g 35 (rcells W)) := by rw [← hw]; exact (HB.out.alloc _).alloc _
    have HK1 : Hid (Keep w.heap.size [] w w1) := by rw [← hw]; exact keep_box2 w W.l
    have q5' : w1.cell? ⟨g, 5, none⟩ = some (.int .i64 2) := (HB1.out.cell 5).trans (by rw [← HL.out]; rfl)
    have f5' := HB1.out.frozen 5
    clear hw q5 q0 q1 q2 q3
    go_wp2_with fail
    refine (rhigh_n _ g W HI.out v HB1.out n HV.out).mono ?_
    rintro e w2 ⟨rfl, hk2, hh2⟩
    have HB2 : Hid (Blk w2 g 35 (rcells W)) := by unfold Hid Blk; rw [hh2]; exact HB1.out
    have HK2 : Hid (Keep w.heap.size [] w w2) := HK1.out.chain0 (Nat.le_refl _) hk2
    have f5 := HB2.out.frozen 5
    have q5 : w2.cell? ⟨g, 5, none⟩ = some (.int .i64 W.last) := HB2.out.cell 5
    have hb2 := HB2.out
    clear hk2 hh2 q5' f5'
    go_wp2_with fail
    obtain ⟨W1, hW⟩ : ∃ W1, W1 = w2.setCell ⟨g, 5, none⟩ (.int .i64 (n : Int)) := ⟨_, rfl⟩
    have HB3 : Hid (Blk W1 g 35 ((rcells W).setIfInBounds 5 (.int .i64 (n : Int)))) := by rw [hW]; exact HB2.out.set_ 5 _
    have HK3 : Hid (Keep w.heap.size [g] w W1) := by rw [hW]; exact (HK2.out.mono (Nat.le_refl _) (by simp)).set1
    have p6 : W1.cell? ⟨g, 6 + n, none⟩ = some (.int .i64 (W.cnt n)) := by rw [hW, World.cell?_setCell_other _ _ _ _ (by intro e; injection e; omega)]; exact rcell_cnt HB2.out hn
    have e6 := HB3.out.frozen (6 + n)
    rw [← hW]
    clear hW
    go_region
    all_goals go_wp2_with fail
    all_goals go_ret
    all_goals exact ⟨rfl, by rw [← rset hn]; exact HB3.out.set_ (6 + n) _, HK3.out.drew.set1⟩
  · have hn0 : W.next v = 1 := by simp [Wt.next, hl, hx]
    obtain rfl : n = 1 := by omega
    clear hn0
    have HX := Lib.hid hx
    clear hb hi he hl hx
    go_enter Try.func16, Try.ntmps16
    go_wp2_with fail
    refine (rcheck_v _ W.l v 1 HX.out).mono ?_
    rintro e w1 ⟨rfl, hw⟩
    have HB1 : Hid (Blk w1 g 35 (rcells W)) := by rw [← hw]; exact (HB.out.alloc _).alloc _
    have HK1 : Hid (Keep w.heap.size [] w w1) := by rw [← hw]; exact keep_box2 w W.l
    have q5' : w1.cell? ⟨g, 5, none⟩ = some (.int .i64 2) := (HB1.out.cell 5).trans (by rw [← HL.out]; rfl)
    have f5' := HB1.out.frozen 5
    clear hw q5 q0 q1 q2 q3
    go_wp2_with fail
    obtain ⟨W1, hW⟩ : ∃ W1, W1 = w1.setCell ⟨g, 5, none⟩ (.int .i64 1) := ⟨_, rfl⟩
    have HB3 : Hid (Blk W1 g 35 ((rcells W).setIfInBounds 5 (.int .i64 1))) := by rw [hW]; exact HB1.out.set_ 5 _
    have HK3 : Hid (Keep w.heap.size [g] w W1) := by rw [hW]; exact (HK1.out.mono (Nat.le_refl _) (by simp)).set1
    have p6 : W1.cell? ⟨g, 7, none⟩ = some (.int .i64 (W.cnt 1)) := by rw [hW, World.cell?_setCell_other _ _ _ _ (by intro e; injection e; omega)]; exact rcell_cnt HB1.out hn
    have e6 := HB3.out.frozen (7)
    rw [← hW]
    clear hW
    go_region
    all_goals go_wp2_with fail
    all_goals go_ret
    all_goals exact ⟨rfl, by rw [← rset hn]; exact HB3.out.set_ (6 + 1) _, HK3.out.drew.set1⟩
  · have hn0 : W.next v = 2 := by simp [Wt.next, hl, hx]
    obtain rfl : n = 2 := by omega
    clear hn0
    have HX := Lib.hid hx
    clear hb hi he hl hx
    go_enter Try.func16, Try.ntmps16
    go_wp2_with fail
    refine (rcheck_v _ W.l v 2 HX.out).mono ?_
    rintro e w1 ⟨rfl, hw⟩
    have HB1 : Hid (Blk w1 g 35 (rcells W)) := by rw [← hw]; exact (HB.out.alloc _).alloc _
    have HK1 : Hid (Keep w.heap.size [] w w1) := by rw [← hw]; exact keep_box2 w W.l
    have q5' : w1.cell? ⟨g, 5, none⟩ = some (.int .i64 2) := (HB1.out.cell 5).trans (by rw [← HL.out]; rfl)
    have f5' := HB1.out.frozen 5
    clear hw q5 q0 q1 q2 q3
    go_wp2_with fail
    obtain ⟨W1, hW⟩ : ∃ W1, W1 = w1.setCell ⟨g, 5, none⟩ (.int .i64 2) := ⟨_, rfl⟩
    have HB3 : Hid (Blk W1 g 35 ((rcells W).setIfInBounds 5 (.int .i64 2))) := by rw [hW]; exact HB1.out.set_ 5 _
    have HK3 : Hid (Keep w.heap.size [g] w W1) := by rw [hW]; exact (HK1.out.mono (Nat.le_refl _) (by simp)).set1
    have p6 : W1.cell? ⟨g, 8, none⟩ = some (.int .i64 (W.cnt 2)) := by rw [hW, World.cell?_setCell_other _ _ _ _ (by intro e; injection e; omega)]; exact rcell_cnt HB1.out hn
    have e6 := HB3.out.frozen (8)
    rw [← hW]
    clear hW
    go_region
    all_goals go_wp2_with fail
    all_goals go_ret
    all_goals exact ⟨rfl, by rw [← rset hn]; exact HB3.out.set_ (6 + 2) _, HK3.out.drew.set1⟩
  · have hn0 : W.next v = 3 := by simp [Wt.next, hl, hx]
    obtain rfl : n = 3 := by omega
    clear hn0
    have HX := Lib.hid hx
    clear hb hi he hl hx
    go_enter Try.func16, Try.ntmps16
    go_wp2_with fail
    refine (rcheck_v _ W.l v 3 HX.out).mono ?_
    rintro e w1 ⟨rfl, hw⟩
    have HB1 : Hid (Blk w1 g 35 (rcells W)) := by rw [← hw]; exact (HB.out.alloc _).alloc _
    have HK1 : Hid (Keep w.heap.size [] w w1) := by rw [← hw]; exact keep_box2 w W.l
    have q5' : w1.cell? ⟨g, 5, none⟩ = some (.int .i64 2) := (HB1.out.cell 5).trans (by rw [← HL.out]; rfl)
    have f5' := HB1.out.frozen 5
    clear hw q5 q0 q1 q2 q3
    go_wp2_with fail
    obtain ⟨W1, hW⟩ : ∃ W1, W1 = w1.setCell ⟨g, 5, none⟩ (.int .i64 3) := ⟨_, rfl⟩
    have HB3 : Hid (Blk W1 g 35 ((rcells W).setIfInBounds 5 (.int .i64 3))) := by rw [hW]; exact HB1.out.set_ 5 _
    have HK3 : Hid (Keep w.heap.size [g] w W1) := by rw [hW]; exact (HK1.out.mono (Nat.le_refl _) (by simp)).set1
    have p6 : W1.cell? ⟨g, 9, none⟩ = some (.int .i64 (W.cnt 3)) := by rw [hW, World.cell?_setCell_other _ _ _ _ (by intro e; injection e; omega)]; exact rcell_cnt HB1.out hn
    have e6 := HB3.out.frozen (9)
    rw [← hW]
    clear hW
    go_region
    all_goals go_wp2_with fail
    all_goals go_ret
    all_goals exact ⟨rfl, by rw [← rset hn]; exact HB3.out.set_ (6 + 3) _, HK3.out.drew.set1⟩
  · have hn0 : W.next v = 4 := by simp [Wt.next, hl, hx]
    obtain rfl : n = 4 := by omega
    clear hn0
    have HX := Lib.hid hx
    clear hb hi he hl hx
    go_enter Try.func16, Try.ntmps16
    go_wp2_with fail
    refine (rcheck_v _ W.l v 4 HX.out).mono ?_
    rintro e w1 ⟨rfl, hw⟩
    have HB1 : Hid (Blk w1 g 35 (rcells W)) := by rw [← hw]; exact (HB.out.alloc _).alloc _
    have HK1 : Hid (Keep w.heap.size [] w w1) := by rw [← hw]; exact keep_box2 w W.l
    have q5' : w1.cell? ⟨g, 5, none⟩ = some (.int .i64 2) := (HB1.out.cell 5).trans (by rw [← HL.out]; rfl)
    have f5' := HB1.out.frozen 5
    clear hw q5 q0 q1 q2 q3
    go_wp2_with fail
    obtain ⟨W1, hW⟩ : ∃ W1, W1 = w1.setCell ⟨g, 5, none⟩ (.int .i64 4) := ⟨_, rfl⟩
    have HB3 : Hid (Blk W1 g 35 ((rcells W).setIfInBounds 5 (.int .i64 4))) := by rw [hW]; exact HB1.out.set_ 5 _
    have HK3 : Hid (Keep w.heap.size [g] w W1) := by rw [hW]; exact (HK1.out.mono (Nat.le_refl _) (by simp)).set1
    have p6 : W1.cell? ⟨g, 10, none⟩ = some (.int .i64 (W.cnt 4)) := by rw [hW, World.cell?_setCell_other _ _ _ _ (by intro e; injection e; omega)]; exact rcell_cnt HB1.out hn
    have e6 := HB3.out.frozen (10)
    rw [← hW]
    clear hW
    go_region
    all_goals go_wp2_with fail
    all_goals go_ret
    all_goals exact ⟨rfl, by rw [← rset hn]; exact HB3.out.set_ (6 + 4) _, HK3.out.drew.set1⟩
set_option maxHeartbeats 4000000 in
theorem rfeed_3 (w : World) (g : Nat) (W : Wt) (hi : W.Inv) (hl : W.last = 3) (v : Int) (hb : Blk w g 35 (rcells W)) :
    Calls Try.prog 16 #[bptr g, .int .i64 v] w (FeedPost w g 35 (rcells (W.feed v)) (.int .i64 (W.next v))) := by
  obtain ⟨n, hn, he⟩ := next_nat W v
  have hf : W.feed v = W.bump n := by rw [Wt.feed, he]; simp
  rw [hf, he]
  have q0 : w.cell? ⟨g, 0, none⟩ = some (.int .i64 W.l.hl) := hb.cell 0
  have q1 : w.cell? ⟨g, 1, none⟩ = some (.int .i64 W.l.sl) := hb.cell 1
  have q2 : w.cell? ⟨g, 2, none⟩ = some (.int .i64 W.l.sh) := hb.cell 2
  have q3 : w.cell? ⟨g, 3, none⟩ = some (.int .i64 W.l.hh) := hb.cell 3
  have q5 : w.cell? ⟨g, 5, none⟩ = some (.int .i64 3) := (hb.cell 5).trans (by rw [← hl]; rfl)
  have HB := Lib.hid hb
  have HI := Lib.hid hi
  have HL := Lib.hid hl
  clear hf
  rcases check_cases W.l v with hx | hx | hx | hx | hx
  · have HV : Hid (W.low v = (n : Int)) := by unfold Hid; rw [← he]; simp [Wt.next, hl, hx]
    have HX := Lib.hid hx
    clear hb hi he hl hx
    go_enter Try.func16, Try.ntmps16
    go_wp2_with fail
    refine (rcheck_v _ W.l v 0 HX.out).mono ?_
    rintro e w1 ⟨rfl, hw⟩
    have HB1 : Hid (Blk w1 g 35 (rcells W)) := by rw [← hw]; exact (HB.out.alloc _).alloc _
    have HK1 : Hid (Keep w.heap.size [] w w1) := by rw [← hw]; exact keep_box2 w W.l
    have q5' : w1.cell? ⟨g, 5, none⟩ = some (.int .i64 3) := (HB1.out.cell 5).trans (by rw [← HL.out]; rfl)
    have f5' := HB1.out.frozen 5
    clear hw q5 q0 q1 q2 q3
    go_wp2_with fail
    refine (rlow_n _ g W HI.out v HB1.out n HV.out).mono ?_
    rintro e w2 ⟨rfl, hk2, hh2⟩
    have HB2 : Hid (Blk w2 g 35 (rcells W)) := by unfold Hid Blk; rw [hh2]; exact HB1.out
    have HK2 : Hid (Keep w.heap.size [] w w2) := HK1.out.chain0 (Nat.le_refl _) hk2
    have f5 := HB2.out.frozen 5
    have q5 : w2.cell? ⟨g, 5, none⟩ = some (.int .i64 W.last) := HB2.out.cell 5
    have hb2 := HB2.out
    clear hk2 hh2 q5' f5'
    go_wp2_with fail
    obtain ⟨W1, hW⟩ : ∃ W1, W1 = w2.setCell ⟨g, 5, none⟩ (.int .i64 (n : Int)) := ⟨_, rfl⟩
    have HB3 : Hid (Blk W1 g 35 ((rcells W).setIfInBounds 5 (.int .i64 (n : Int)))) := by rw [hW]; exact HB2.out.set_ 5 _
    have HK3 : Hid (Keep w.heap.size [g] w W1) := by rw [hW]; exact (HK2.out.mono (Nat.le_refl _) (by simp)).set1
    have p6 : W1.cell? ⟨g, 6 + n, none⟩ = some (.int .i64 (W.cnt n)) := by rw [hW, World.cell?_setCell_other _ _ _ _ (by intro e; injection e; omega)]; exact rcell_cnt HB2.out hn
    have e6 := HB3.out.frozen (6 + n)
    rw [← hW]
    clear hW
    go_region
    all_goals go_wp2_with fail
    all_goals go_ret
    all_goals exact ⟨rfl, by rw [← rset hn]; exact HB3.out.set_ (6 + n) _, HK3.out.drew.set1⟩
  · have HV : Hid (W.low v = (n : Int)) := by unfold Hid; rw [← he]; simp [Wt.next, hl, hx]
    have HX := Lib.hid hx
    clear hb hi he hl hx
    go_enter Try.func16, Try.ntmps16
    go_wp2_with fail
    refine (rcheck_v _ W.l v 1 HX.out).mono ?_
    rintro e w1 ⟨rfl, hw⟩
    have HB1 : Hid (Blk w1 g 35 (rcells W)) := by rw [← hw]; exact (HB.out.alloc _).alloc _
    have HK1 : Hid (Keep w.heap.size [] w w1) := by rw [← hw]; exact keep_box2 w W.l
    have q5' : w1.cell? ⟨g, 5, none⟩ = some (.int .i64 3) := (HB1.out.cell 5).trans (by rw [← HL.out]; rfl)
    have f5' := HB1.out.frozen 5
    clear hw q5 q0 q1 q2 q3
    go_wp2_with fail
    refine (rlow_n _ g W HI.out v HB1.out n HV.out).mono ?_
    rintro e w2 ⟨rfl, hk2, hh2⟩
    have HB2 : Hid (Blk w2 g 35 (rcells W)) := by unfold Hid Blk; rw [hh2]; exact HB1.out
    have HK2 : Hid (Keep w.heap.size [] w w2) := HK1.out.chain0 (Nat.le_refl _) hk2
    have f5 := HB2.out.frozen 5
    have q5 : w2.cell? ⟨g, 5, none⟩ = some (.int .i64 W.last) := HB2.out.cell 5
    have hb2 := HB2.out
    clear hk2 hh2 q5' f5'
    go_wp2_with fail
    obtain ⟨W1, hW⟩ : ∃ W1, W1 = w2.setCell ⟨g, 5, none⟩ (.int .i64 (n : Int)) := ⟨_, rfl⟩
    have HB3 : Hid (Blk W1 g 35 ((rcells W).setIfInBounds 5 (.int .i64 (n : Int)))) := by rw [hW]; exact HB2.out.set_ 5 _
    have HK3 : Hid (Keep w.heap.size [g] w W1) := by rw [hW]; exact (HK2.out.mono (Nat.le_refl _) (by simp)).set1
    have p6 : W1.cell? ⟨g, 6 + n, none⟩ = some (.int .i64 (W.cnt n)) := by rw [hW, World.cell?_setCell_other _ _ _ _ (by intro e; injection e; omega)]; exact rcell_cnt HB2.out hn
    have e6 := HB3.out.frozen (6 + n)
    rw [← hW]
    clear hW
    go_region
    all_goals go_wp2_with fail
    all_goals go_ret
    all_goals exact ⟨rfl, by rw [← rset hn]; exact HB3.out.set_ (6 + n) _, HK3.out.drew.set1⟩
  · have hn0 : W.next v = 2 := by simp [Wt.next, hl, hx]
    obtain rfl : n = 2 := by omega
    clear hn0
    have HX := Lib.hid hx
    clear hb hi he hl hx
    go_enter Try.func16, Try.ntmps16
    go_wp2_with fail
    refine (rcheck_v _ W.l v 2 HX.out).mono ?_
    rintro e w1 ⟨rfl, hw⟩
    have HB1 : Hid (Blk w1 g 35 (rcells W)) := by rw [← hw]; exact (HB.out.alloc _).alloc _
    have HK1 : Hid (Keep w.heap.size [] w w1) := by rw [← hw]; exact keep_box2 w W.l
    have q5' : w1.cell? ⟨g, 5, none⟩ = some (.int .i64 3) := (HB1.out.cell 5).trans (by rw [← HL.out]; rfl)
    have f5' := HB1.out.frozen 5
    clear hw q5 q0 q1 q2 q3
    go_wp2_with fail
    obtain ⟨W1, hW⟩ : ∃ W1, W1 = w1.setCell ⟨g, 5, none⟩ (.int .i64 2) := ⟨_, rfl⟩
    have HB3 : Hid (Blk W1 g 35 ((rcells W).setIfInBounds 5 (.int .i64 2))) := by rw [hW]; exact HB1.out.set_ 5 _
    have HK3 : Hid (Keep w.heap.size [g] w W1) := by rw [hW]; exact (HK1.out.mono (Nat.le_refl _) (by simp)).set1
    have p6 : W1.cell? ⟨g, 8, none⟩ = some (.int .i64 (W.cnt 2)) := by rw [hW, World.cell?_setCell_other _ _ _ _ (by intro e; injection e; omega)]; exact rcell_cnt HB1.out hn
    have e6 := HB3.out.frozen (8)
    rw [← hW]
    clear hW
    go_region
    all_goals go_wp2_with fail
    all_goals go_ret
    all_goals exact ⟨rfl, by rw [← rset hn]; exact HB3.out.set_ (6 + 2) _, HK3.out.drew.set1⟩
  · have hn0 : W.next v = 3 := by simp [Wt.next, hl, hx]
    obtain rfl : n = 3 := by omega
    clear hn0
    have HX := Lib.hid hx
    clear hb hi he hl hx
    go_enter Try.func16, Try.ntmps16
    go_wp2_with fail
    refine (rcheck_v _ W.l v 3 HX.out).mono ?_
    rintro e w1 ⟨rfl, hw⟩
    have HB1 : Hid (Blk w1 g 35 (rcells W)) := by rw [← hw]; exact (HB.out.alloc _).alloc _
    have HK1 : Hid (Keep w.heap.size [] w w1) := by rw [← hw]; exact keep_box2 w W.l
    have q5' : w1.cell? ⟨g, 5, none⟩ = some (.int .i64 3) := (HB1.out.cell 5).trans (by rw [← HL.out]; rfl)
    have f5' := HB1.out.frozen 5
    clear hw q5 q0 q1 q2 q3
    go_wp2_with fail
    obtain ⟨W1, hW⟩ : ∃ W1, W1 = w1.setCell ⟨g, 5, none⟩ (.int .i64 3) := ⟨_, rfl⟩
    have HB3 : Hid (Blk W1 g 35 ((rcells W).setIfInBounds 5 (.int .i64 3))) := by rw [hW]; exact HB1.out.set_ 5 _
    have HK3 : Hid (Keep w.heap.size [g] w W1) := by rw [hW]; exact (HK1.out.mono (Nat.le_refl _) (by simp)).set1
    have p6 : W1.cell? ⟨g, 9, none⟩ = some (.int .i64 (W.cnt 3)) := by rw [hW, World.cell?_setCell_other _ _ _ _ (by intro e; injection e; omega)]; exact rcell_cnt HB1.out hn
    have e6 := HB3.out.frozen (9)
    rw [← hW]
    clear hW
    go_region
    all_goals go_wp2_with fail
    all_goals go_ret
    all_goals exact ⟨rfl, by rw [← rset hn]; exact HB3.out.set_ (6 + 3) _, HK3.out.drew.set1⟩
  · have hn0 : W.next v = 4 := by simp [Wt.next, hl, hx]
    obtain rfl : n = 4 := by omega
    clear hn0
    have HX := Lib.hid hx
    clear hb hi he hl hx
    go_enter Try.func16, Try.ntmps16
    go_wp2_with fail
    refine (rcheck_v _ W.l v 4 HX.out).mono ?_
    rintro e w1 ⟨rfl, hw⟩
    have HB1 : Hid (Blk w1 g 35 (rcells W)) := by rw [← hw]; exact (HB.out.alloc _).alloc _
    have HK1 : Hid (Keep w.heap.size [] w w1) := by rw [← hw]; exact keep_box2 w W.l
    have q5' : w1.cell? ⟨g, 5, none⟩ = some (.int .i64 3) := (HB1.out.cell 5).trans (by rw [← HL.out]; rfl)
    have f5' := HB1.out.frozen 5
    clear hw q5 q0 q1 q2 q3
    go_wp2_with fail
    obtain ⟨W1, hW⟩ : ∃ W1, W1 = w1.setCell ⟨g, 5, none⟩ (.int .i64 4) := ⟨_, rfl⟩
    have HB3 : Hid (Blk W1 g 35 ((rcells W).setIfInBounds 5 (.int .i64 4))) := by rw [hW]; exact HB1.out.set_ 5 _
    have HK3 : Hid (Keep w.heap.size [g] w W1) := by rw [hW]; exact (HK1.out.mono (Nat.le_refl _) (by simp)).set1
    have p6 : W1.cell? ⟨g, 10, none⟩ = some (.int .i64 (W.cnt 4)) := by rw [hW, World.cell?_setCell_other _ _ _ _ (by intro e; injection e; omega)]; exact rcell_cnt HB1.out hn
    have e6 := HB3.out.frozen (10)
    rw [← hW]
    clear hW
    go_region
    all_goals go_wp2_with fail
    all_goals go_ret
    all_goals exact ⟨rfl, by rw [← rset hn]; exact HB3.out.set_ (6 + 4) _, HK3.out.drew.set1⟩
set_option maxHeartbeats 4000000 in
theorem rfeed_4 (w : World) (g : Nat) (W : Wt) (hi : W.Inv) (hl : W.last = 4) (v : Int) (hb : Blk w g 35 (rcells W)) :
    Calls Try.prog 16 #[bptr g, .int .i64 v] w (FeedPost w g 35 (rcells (W.feed v)) (.int .i64 (W.next v))) := by
  obtain ⟨n, hn, he⟩ := next_nat W v
  have hf : W.feed v = W.bump n := by rw [Wt.feed, he]; simp
  rw [hf, he]
  have q0 : w.cell? ⟨g, 0, none⟩ = some (.int .i64 W.l.hl) := hb.cell 0
  have q1 : w.cell? ⟨g, 1, none⟩ = some (.int .i64 W.l.sl) := hb.cell 1
  have q2 : w.cell? ⟨g, 2, none⟩ = some (.int .i64 W.l.sh) := hb.cell 2
  have q3 : w.cell? ⟨g, 3, none⟩ = some (.int .i64 W.l.hh) := hb.cell 3
  have q5 : w.cell? ⟨g, 5, none⟩ = some (.int .i64 4) := (hb.cell 5).trans (by rw [← hl]; rfl)
  have HB := Lib.hid hb
  have HI := Lib.hid hi
  have HL := Lib.hid hl
  clear hf
  rcases check_cases W.l v with hx | hx | hx | hx | hx
  · have HV : Hid (W.high v = (n : Int)) := by unfold Hid; rw [← he]; simp [Wt.next, hl, hx]
    have HX := Lib.hid hx
    clear hb hi he hl hx
    go_enter Try.func16, Try.ntmps16
    go_wp2_with fail
    refine (rcheck_v _ W.l v 0 HX.out).mono ?_
    rintro e w1 ⟨rfl, hw⟩
    have HB1 : Hid (Blk w1 g 35 (rcells W)) := by rw [← hw]; exact (HB.out.alloc _).alloc _
    have HK1 : Hid (Keep w.heap.size [] w w1) := by rw [← hw]; exact keep_box2 w W.l
    have q5' : w1.cell? ⟨g, 5, none⟩ = some (.int .i64 4) := (HB1.out.cell 5).trans (by rw [← HL.out]; rfl)
    have f5' := HB1.out.frozen 5
    clear hw q5 q0 q1 q2 q3
    go_wp2_with fail
    refine (rhigh_n _ g W HI.out v HB1.out n HV.out).mono ?_
    rintro e w2 ⟨rfl, hk2, hh2⟩
    have HB2 : Hid (Blk w2 g 35 (rcells W)) := by unfold Hid Blk; rw [hh2]; exact HB1.out
    have HK2 : Hid (Keep w.heap.size [] w w2) := HK1.out.chain0 (Nat.le_refl _) hk2
    have f5 := HB2.out.frozen 5
    have q5 : w2.cell? ⟨g, 5, none⟩ = some (.int .i64 W.last) := HB2.out.cell 5
    have hb2 := HB2.out
    clear hk2 hh2 q5' f5'
    go_wp2_with fail
    obtain ⟨W1, hW⟩ : ∃ W1, W1 = w2.setCell ⟨g, 5, none⟩ (.int .i64 (n : Int)) := ⟨_, rfl⟩
    have HB3 : Hid (Blk W1 g 35 ((rcells W).setIfInBounds 5 (.int .i64 (n : Int)))) := by rw [hW]; exact HB2.out.set_ 5 _
    have HK3 : Hid (Keep w.heap.size [g] w W1) := by rw [hW]; exact (HK2.out.mono (Nat.le_refl _) (by simp)).set1
    have p6 : W1.cell? ⟨g, 6 + n, none⟩ = some (.int .i64 (W.cnt n)) := by rw [hW, World.cell?_setCell_other _ _ _ _ (by intro e; injection e; omega)]; exact rcell_cnt HB2.out hn
    have e6 := HB3.out.frozen (6 + n)
    rw [← hW]
    clear hW
    go_region
    all_goals go_wp2_with fail
    all_goals go_ret
    all_goals exact ⟨rfl, by rw [← rset hn]; exact HB3.out.set_ (6 + n) _, HK3.out.drew.set1⟩
  · have hn0 : W.next v = 1 := by simp [Wt.next, hl, hx]
    obtain rfl : n = 1 := by omega
    clear hn0
    have HX := Lib.hid hx
    clear hb hi he hl hx
    go_enter Try.func16, Try.ntmps16
    go_wp2_with fail
    refine (rcheck_v _ W.l v 1 HX.out).mono ?_
    rintro e w1 ⟨rfl, hw⟩
    have HB1 : Hid (Blk w1 g 35 (rcells W)) := by rw [← hw]; exact (HB.out.alloc _).alloc _
    have HK1 : Hid (Keep w.heap.size [] w w1) := by rw [← hw]; exact keep_box2 w W.l
    have q5' : w1.cell? ⟨g, 5, none⟩ = some (.int .i64 4) := (HB1.out.cell 5).trans (by rw [← HL.out]; rfl)
    have f5' := HB1.out.frozen 5
    clear hw q5 q0 q1 q2 q3
    go_wp2_with fail
    obtain ⟨W1, hW⟩ : ∃ W1, W1 = w1.setCell ⟨g, 5, none⟩ (.int .i64 1) := ⟨_, rfl⟩
    have HB3 : Hid (Blk W1 g 35 ((rcells W).setIfInBounds 5 (.int .i64 1))) := by rw [hW]; exact HB1.out.set_ 5 _
    have HK3 : Hid (Keep w.heap.size [g] w W1) := by rw [hW]; exact (HK1.out.mono (Nat.le_refl _) (by simp)).set1
    have p6 : W1.cell? ⟨g, 7, none⟩ = some (.int .i64 (W.cnt 1)) := by rw [hW, World.cell?_setCell_other _ _ _ _ (by intro e; injection e; omega)]; exact rcell_cnt HB1.out hn
    have e6 := HB3.out.frozen (7)
    rw [← hW]
    clear hW
    go_region
    all_goals go_wp2_with fail
    all_goals go_ret
    all_goals exact ⟨rfl, by rw [← rset hn]; exact HB3.out.set_ (6 + 1) _, HK3.out.drew.set1⟩
  · have HV : Hid (W.high v = (n : Int)) := by unfold Hid; rw [← he]; simp [Wt.next, hl, hx]
    have HX := Lib.hid hx
    clear hb hi he hl hx
    go_enter Try.func16, Try.ntmps16
    go_wp2_with fail
    refine (rcheck_v _ W.l v 2 HX.out).mono ?_
    rintro e w1 ⟨rfl, hw⟩
    have HB1 : Hid (Blk w1 g 35 (rcells W)) := by rw [← hw]; exact (HB.out.alloc _).alloc _
    have HK1 : Hid (Keep w.heap.size [] w w1) := by rw [← hw]; exact keep_box2 w W.l
    have q5' : w1.cell? ⟨g, 5, none⟩ = some (.int .i64 4) := (HB1.out.cell 5).trans (by rw [← HL.out]; rfl)
    have f5' := HB1.out.frozen 5
    clear hw q5 q0 q1 q2 q3
    go_wp2_with fail
    refine (rhigh_n _ g W HI.out v HB1.out n HV.out).mono ?_
    rintro e w2 ⟨rfl, hk2, hh2⟩
    have HB2 : Hid (Blk w2 g 35 (rcells W)) := by unfold Hid Blk; rw [hh2]; exact HB1.out
    have HK2 : Hid (Keep w.heap.size [] w w2) := HK1.out.chain0 (Nat.le_refl _) hk2
    have f5 := HB2.out.frozen 5
    have q5 : w2.cell? ⟨g, 5, none⟩ = some (.int .i64 W.last) := HB2.out.cell 5
    have hb2 := HB2.out
    clear hk2 hh2 q5' f5'
    go_wp2_with fail
    obtain ⟨W1, hW⟩ : ∃ W1, W1 = w2.setCell ⟨g, 5, none⟩ (.int .i64 (n : Int)) := ⟨_, rfl⟩
    have HB3 : Hid (Blk W1 g 35 ((rcells W).setIfInBounds 5 (.int .i64 (n : Int)))) := by rw [hW]; exact HB2.out.set_ 5 _
    have HK3 : Hid (Keep w.heap.size [g] w W1) := by rw [hW]; exact (HK2.out.mono (Nat.le_refl _) (by simp)).set1
    have p6 : W1.cell? ⟨g, 6 + n, none⟩ = some (.int .i64 (W.cnt n)) := by rw [hW, World.cell?_setCell_other _ _ _ _ (by intro e; injection e; omega)]; exact rcell_cnt HB2.out hn
    have e6 := HB3.out.frozen (6 + n)
    rw [← hW]
    clear hW
    go_region
    all_goals go_wp2_with fail
    all_goals go_ret
    all_goals exact ⟨rfl, by rw [← rset hn]; exact HB3.out.set_ (6 + n) _, HK3.out.drew.set1⟩
  · have hn0 : W.next v = 3 := by simp [Wt.next, hl, hx]
    obtain rfl : n = 3 := by omega
    clear hn0
    have HX := Lib.hid hx
    clear hb hi he hl hx
    go_enter Try.func16, Try.ntmps16
    go_wp2_with fail
    refine (rcheck_v _ W.l v 3 HX.out).mono ?_
    rintro e w1 ⟨rfl, hw⟩
    have HB1 : Hid (Blk w1 g 35 (rcells W)) := by rw [← hw]; exact (HB.out.alloc _).alloc _
    have HK1 : Hid (Keep w.heap.size [] w w1) := by rw [← hw]; exact keep_box2 w W.l
    have q5' : w1.cell? ⟨g, 5, none⟩ = some (.int .i64 4) := (HB1.out.cell 5).trans (by rw [← HL.out]; rfl)
    have f5' := HB1.out.frozen 5
    clear hw q5 q0 q1 q2 q3
    go_wp2_with fail
    obtain ⟨W1, hW⟩ : ∃ W1, W1 = w1.setCell ⟨g, 5, none⟩ (.int .i64 3) := ⟨_, rfl⟩
    have HB3 : Hid (Blk W1 g 35 ((rcells W).setIfInBounds 5 (.int .i64 3))) := by rw [hW]; exact HB1.out.set_ 5 _
    have HK3 : Hid (Keep w.heap.size [g] w W1) := by rw [hW]; exact (HK1.out.mono (Nat.le_refl _) (by simp)).set1
    have p6 : W1.cell? ⟨g, 9, none⟩ = some (.int .i64 (W.cnt 3)) := by rw [hW, World.cell?_setCell_other _ _ _ _ (by intro e; injection e; omega)]; exact rcell_cnt HB1.out hn
    have e6 := HB3.out.frozen (9)
    rw [← hW]
    clear hW
    go_region
    all_goals go_wp2_with fail
    all_goals go_ret
    all_goals exact ⟨rfl, by rw [← rset hn]; exact HB3.out.set_ (6 + 3) _, HK3.out.drew.set1⟩
  · have hn0 : W.next v = 4 := by simp [Wt.next, hl, hx]
    obtain rfl : n = 4 := by omega
    clear hn0
    have HX := Lib.hid hx
    clear hb hi he hl hx
    go_enter Try.func16, Try.ntmps16
    go_wp2_with fail
    refine (rcheck_v _ W.l v 4 HX.out).mono ?_
    rintro e w1 ⟨rfl, hw⟩
    have HB1 : Hid (Blk w1 g 35 (rcells W)) := by rw [← hw]; exact (HB.out.alloc _).alloc _
    have HK1 : Hid (Keep w.heap.size [] w w1) := by rw [← hw]; exact keep_box2 w W.l
    have q5' : w1.cell? ⟨g, 5, none⟩ = some (.int .i64 4) := (HB1.out.cell 5).trans (by rw [← HL.out]; rfl)
    have f5' := HB1.out.frozen 5
    clear hw q5 q0 q1 q2 q3
    go_wp2_with fail
    obtain ⟨W1, hW⟩ : ∃ W1, W1 = w1.setCell ⟨g, 5, none⟩ (.int .i64 4) := ⟨_, rfl⟩
    have HB3 : Hid (Blk W1 g 35 ((rcells W).setIfInBounds 5 (.int .i64 4))) := by rw [hW]; exact HB1.out.set_ 5 _
    have HK3 : Hid (Keep w.heap.size [g] w W1) := by rw [hW]; exact (HK1.out.mono (Nat.le_refl _) (by simp)).set1
    have p6 : W1.cell? ⟨g, 10, none⟩ = some (.int .i64 (W.cnt 4)) := by rw [hW, World.cell?_setCell_other _ _ _ _ (by intro e; injection e; omega)]; exact rcell_cnt HB1.out hn
    have e6 := HB3.out.frozen (10)
    rw [← hW]
    clear hW
    go_region
    all_goals go_wp2_with fail
    all_goals go_ret
    all_goals exact ⟨rfl, by rw [← rset hn]; exact HB3.out.set_ (6 + 4) _, HK3.out.drew.set1⟩
theorem rfeed_any (w : World) (g : Nat) (W : Wt) (hi : W.Inv) (v : Int) (hb : Blk w g 35 (rcells W)) :
    Calls Try.prog 16 #[bptr g, .int .i64 v] w (FeedPost w g 35 (rcells (W.feed v)) (.int .i64 (W.next v))) := by
  rcases hi.last with h | h | h | h | h
  · exact rfeed_0 w g W hi h v hb
  · exact rfeed_1 w g W hi h v hb
  · exact rfeed_2 w g W hi h v hb
  · exact rfeed_3 w g W hi h v hb
  · exact rfeed_4 w g W hi h v hb
end Go.Proofs.Ytmefdiidgnpklaa
