/- The contracts of next and Feed of the watch and of its reference. -/
import Derived.Test.YtmefdiidgnpklaaWalkC
namespace Go.Proofs.Ytmefdiidgnpklaa
set_option linter.unusedVariables false
set_option linter.unusedSimpArgs false
open Go.RowKit
def Wt.cnt (W : Wt) : Nat → Int
  | 0 => W.c0
  | 1 => W.c1
  | 2 => W.c2
  | 3 => W.c3
  | _ => W.c4
/-- one result more -/
def Wt.bump (W : Wt) (n : Nat) : Wt :=
  { W with last := n, c0 := if n = 0 then wrap64 (W.c0 + 1) else W.c0, c1 := if n = 1 then wrap64 (W.c1 + 1) else W.c1, c2 := if n = 2 then wrap64 (W.c2 + 1) else W.c2,
           c3 := if n = 3 then wrap64 (W.c3 + 1) else W.c3, c4 := if n = 4 then wrap64 (W.c4 + 1) else W.c4 }
def Wt.feed (W : Wt) (v : Int) : Wt := W.bump (W.next v).toNat
theorem next_nat (W : Wt) (v : Int) : ∃ n : Nat, n < 5 ∧ W.next v = (n : Int) := by
  rcases next_cases W v with h | h | h | h | h <;> rw [h]
  · exact ⟨0, by omega, rfl⟩
  · exact ⟨1, by omega, rfl⟩
  · exact ⟨2, by omega, rfl⟩
  · exact ⟨3, by omega, rfl⟩
  · exact ⟨4, by omega, rfl⟩
theorem bump_inv {W : Wt} (h : W.Inv) (n : Nat) (hn : n < 5) : (W.bump n).Inv :=
  ⟨h.fit, h.ok, h.s0, h.s1, h.s2, by simp only [Wt.bump]; omega⟩
theorem feed_inv {W : Wt} (h : W.Inv) (v : Int) : (W.feed v).Inv := by
  obtain ⟨n, hn, e⟩ := next_nat W v
  rw [Wt.feed, e]
  exact bump_inv h _ (by omega)
theorem lt5 {n : Nat} (h : n < 5) : n = 0 ∨ n = 1 ∨ n = 2 ∨ n = 3 ∨ n = 4 := by omega
theorem wcell_cnt {w : World} {g : Nat} {W : Wt} (hb : Blk w g 42 (wcells W)) {n : Nat} (hn : n < 5) : w.cell? ⟨g, 7 + n, none⟩ = some (.int .i64 (W.cnt n)) := by
  rw [hb.cell]
  rcases lt5 hn with rfl | rfl | rfl | rfl | rfl <;> rfl
theorem rcell_cnt {w : World} {g : Nat} {W : Wt} (hb : Blk w g 35 (rcells W)) {n : Nat} (hn : n < 5) : w.cell? ⟨g, 6 + n, none⟩ = some (.int .i64 (W.cnt n)) := by
  rw [hb.cell]
  rcases lt5 hn with rfl | rfl | rfl | rfl | rfl <;> rfl
theorem wset {W : Wt} {n : Nat} (hn : n < 5) : ((wcells W).setIfInBounds 6 (.int .i64 (n : Int))).setIfInBounds (7 + n) (.int .i64 (wrap64 (W.cnt n + 1))) = wcells (W.bump n) := by
  rcases lt5 hn with rfl | rfl | rfl | rfl | rfl <;> rfl
theorem rset {W : Wt} {n : Nat} (hn : n < 5) : ((rcells W).setIfInBounds 5 (.int .i64 (n : Int))).setIfInBounds (6 + n) (.int .i64 (wrap64 (W.cnt n + 1))) = rcells (W.bump n) := by
  rcases lt5 hn with rfl | rfl | rfl | rfl | rfl <;> rfl
def NextPost (w : World) (v : Value) (e : Ending) (w' : World) : Prop := e = .returned v ∧ Keep w.heap.size [] w w'
def FeedPost (w : World) (g : Nat) (t : TypeId) (cs : Array Value) (v : Value) (e : Ending) (w' : World) : Prop := e = .returned v ∧ Blk w' g t cs ∧ Keep w.heap.size [g] w w'
theorem keep_box2 (w : World) (l : Li) : Keep w.heap.size [] w ((w.alloc (lbox l)).alloc (lbox l)) := ((Keep.refl _ _ _).alloc (Nat.le_refl _) _).alloc (by simp) _

set_option maxHeartbeats 2000000 in
theorem next_0 (w : World) (g : Nat) (W : Wt) (hi : W.Inv) (hl : W.last = 0) (v : Int) (hv : Fit v) (hb : Blk w g 42 (wcells W)) :
    Calls Try.prog 21 #[bptr g, .int .i64 v] w (NextPost w (.int .i64 (W.next v))) := by
  have q1 : w.cell? ⟨g, 1, none⟩ = some (.int .i64 W.l.hl) := hb.cell 1
  have q2 : w.cell? ⟨g, 2, none⟩ = some (.int .i64 W.l.sl) := hb.cell 2
  have q3 : w.cell? ⟨g, 3, none⟩ = some (.int .i64 W.l.sh) := hb.cell 3
  have q4 : w.cell? ⟨g, 4, none⟩ = some (.int .i64 W.l.hh) := hb.cell 4
  have q6 : w.cell? ⟨g, 6, none⟩ = some (.int .i64 0) := (hb.cell 6).trans (by rw [← hl]; rfl)
  have HB := Lib.hid hb
  have HI := Lib.hid hi
  have HF := Lib.hid hv
  have HL := Lib.hid hl
  rcases check_cases W.l v with hx | hx | hx | hx | hx
  · have HV : Hid (W.next v = 0) := by unfold Hid; simp [Wt.next, hl, hx]
    have HX := Lib.hid hx
    clear hb hi hv hl hx
    go_enter Try.func21, Try.ntmps21
    go_wp2_with fail
    refine (check_v _ W.l v 0 HX.out).mono ?_
    rintro e w1 ⟨rfl, hw⟩
    have HB1 : Hid (Blk w1 g 42 (wcells W)) := by rw [← hw]; exact (HB.out.alloc _).alloc _
    have HK1 : Hid (Keep w.heap.size [] w w1) := by rw [← hw]; exact keep_box2 w W.l
    have q6' : w1.cell? ⟨g, 6, none⟩ = some (.int .i64 0) := (HB1.out.cell 6).trans (by rw [← HL.out]; rfl)
    clear hw q6 q1 q2 q3 q4
    go_wp2_with fail
    go_ret
    exact ⟨by rw [HV.out]; rfl, HK1.out⟩
  · have HV : Hid (W.next v = 1) := by unfold Hid; simp [Wt.next, hl, hx]
    have HX := Lib.hid hx
    clear hb hi hv hl hx
    go_enter Try.func21, Try.ntmps21
    go_wp2_with fail
    refine (check_v _ W.l v 1 HX.out).mono ?_
    rintro e w1 ⟨rfl, hw⟩
    have HB1 : Hid (Blk w1 g 42 (wcells W)) := by rw [← hw]; exact (HB.out.alloc _).alloc _
    have HK1 : Hid (Keep w.heap.size [] w w1) := by rw [← hw]; exact keep_box2 w W.l
    have q6' : w1.cell? ⟨g, 6, none⟩ = some (.int .i64 0) := (HB1.out.cell 6).trans (by rw [← HL.out]; rfl)
    clear hw q6 q1 q2 q3 q4
    go_wp2_with fail
    go_ret
    exact ⟨by rw [HV.out]; rfl, HK1.out⟩
  · have HV : Hid (W.next v = 2) := by unfold Hid; simp [Wt.next, hl, hx]
    have HX := Lib.hid hx
    clear hb hi hv hl hx
    go_enter Try.func21, Try.ntmps21
    go_wp2_with fail
    refine (check_v _ W.l v 2 HX.out).mono ?_
    rintro e w1 ⟨rfl, hw⟩
    have HB1 : Hid (Blk w1 g 42 (wcells W)) := by rw [← hw]; exact (HB.out.alloc _).alloc _
    have HK1 : Hid (Keep w.heap.size [] w w1) := by rw [← hw]; exact keep_box2 w W.l
    have q6' : w1.cell? ⟨g, 6, none⟩ = some (.int .i64 0) := (HB1.out.cell 6).trans (by rw [← HL.out]; rfl)
    clear hw q6 q1 q2 q3 q4
    go_wp2_with fail
    go_ret
    exact ⟨by rw [HV.out]; rfl, HK1.out⟩
  · have HV : Hid (W.next v = 3) := by unfold Hid; simp [Wt.next, hl, hx]
    have HX := Lib.hid hx
    clear hb hi hv hl hx
    go_enter Try.func21, Try.ntmps21
    go_wp2_with fail
    refine (check_v _ W.l v 3 HX.out).mono ?_
    rintro e w1 ⟨rfl, hw⟩
    have HB1 : Hid (Blk w1 g 42 (wcells W)) := by rw [← hw]; exact (HB.out.alloc _).alloc _
    have HK1 : Hid (Keep w.heap.size [] w w1) := by rw [← hw]; exact keep_box2 w W.l
    have q6' : w1.cell? ⟨g, 6, none⟩ = some (.int .i64 0) := (HB1.out.cell 6).trans (by rw [← HL.out]; rfl)
    clear hw q6 q1 q2 q3 q4
    go_wp2_with fail
    go_ret
    exact ⟨by rw [HV.out]; rfl, HK1.out⟩
  · have HV : Hid (W.next v = 4) := by unfold Hid; simp [Wt.next, hl, hx]
    have HX := Lib.hid hx
    clear hb hi hv hl hx
    go_enter Try.func21, Try.ntmps21
    go_wp2_with fail
    refine (check_v _ W.l v 4 HX.out).mono ?_
    rintro e w1 ⟨rfl, hw⟩
    have HB1 : Hid (Blk w1 g 42 (wcells W)) := by rw [← hw]; exact (HB.out.alloc _).alloc _
    have HK1 : Hid (Keep w.heap.size [] w w1) := by rw [← hw]; exact keep_box2 w W.l
    have q6' : w1.cell? ⟨g, 6, none⟩ = some (.int .i64 0) := (HB1.out.cell 6).trans (by rw [← HL.out]; rfl)
    clear hw q6 q1 q2 q3 q4
    go_wp2_with fail
    go_ret
    exact ⟨by rw [HV.out]; rfl, HK1.out⟩
set_option maxHeartbeats 2000000 in
theorem next_1 (w : World) (g : Nat) (W : Wt) (hi : W.Inv) (hl : W.last = 1) (v : Int) (hv : Fit v) (hb : Blk w g 42 (wcells W)) :
    Calls Try.prog 21 #[bptr g, .int .i64 v] w (NextPost w (.int .i64 (W.next v))) := by
  have q1 : w.cell? ⟨g, 1, none⟩ = some (.int .i64 W.l.hl) := hb.cell 1
  have q2 : w.cell? ⟨g, 2, none⟩ = some (.int .i64 W.l.sl) := hb.cell 2
  have q3 : w.cell? ⟨g, 3, none⟩ = some (.int .i64 W.l.sh) := hb.cell 3
  have q4 : w.cell? ⟨g, 4, none⟩ = some (.int .i64 W.l.hh) := hb.cell 4
  have q6 : w.cell? ⟨g, 6, none⟩ = some (.int .i64 1) := (hb.cell 6).trans (by rw [← hl]; rfl)
  have HB := Lib.hid hb
  have HI := Lib.hid hi
  have HF := Lib.hid hv
  have HL := Lib.hid hl
  rcases check_cases W.l v with hx | hx | hx | hx | hx
  · have HV : Hid (W.next v = W.low v) := by unfold Hid; simp [Wt.next, hl, hx]
    have HX := Lib.hid hx
    clear hb hi hv hl hx
    go_enter Try.func21, Try.ntmps21
    go_wp2_with fail
    refine (check_v _ W.l v 0 HX.out).mono ?_
    rintro e w1 ⟨rfl, hw⟩
    have HB1 : Hid (Blk w1 g 42 (wcells W)) := by rw [← hw]; exact (HB.out.alloc _).alloc _
    have HK1 : Hid (Keep w.heap.size [] w w1) := by rw [← hw]; exact keep_box2 w W.l
    have q6' : w1.cell? ⟨g, 6, none⟩ = some (.int .i64 1) := (HB1.out.cell 6).trans (by rw [← HL.out]; rfl)
    clear hw q6 q1 q2 q3 q4
    go_wp2_with fail
    refine (low_any _ g W HI.out v HF.out HB1.out).mono ?_
    rintro e w' ⟨rfl, rfl⟩
    go_wp2_with fail
    go_ret
    exact ⟨by rw [HV.out]; rfl, HK1.out⟩
  · have HV : Hid (W.next v = 1) := by unfold Hid; simp [Wt.next, hl, hx]
    have HX := Lib.hid hx
    clear hb hi hv hl hx
    go_enter Try.func21, Try.ntmps21
    go_wp2_with fail
    refine (check_v _ W.l v 1 HX.out).mono ?_
    rintro e w1 ⟨rfl, hw⟩
    have HB1 : Hid (Blk w1 g 42 (wcells W)) := by rw [← hw]; exact (HB.out.alloc _).alloc _
    have HK1 : Hid (Keep w.heap.size [] w w1) := by rw [← hw]; exact keep_box2 w W.l
    have q6' : w1.cell? ⟨g, 6, none⟩ = some (.int .i64 1) := (HB1.out.cell 6).trans (by rw [← HL.out]; rfl)
    clear hw q6 q1 q2 q3 q4
    go_wp2_with fail
    go_ret
    exact ⟨by rw [HV.out]; rfl, HK1.out⟩
  · have HV : Hid (W.next v = 2) := by unfold Hid; simp [Wt.next, hl, hx]
    have HX := Lib.hid hx
    clear hb hi hv hl hx
    go_enter Try.func21, Try.ntmps21
    go_wp2_with fail
    refine (check_v _ W.l v 2 HX.out).mono ?_
    rintro e w1 ⟨rfl, hw⟩
    have HB1 : Hid (Blk w1 g 42 (wcells W)) := by rw [← hw]; exact (HB.out.alloc _).alloc _
    have HK1 : Hid (Keep w.heap.size [] w w1) := by rw [← hw]; exact keep_box2 w W.l
    have q6' : w1.cell? ⟨g, 6, none⟩ = some (.int .i64 1) := (HB1.out.cell 6).trans (by rw [← HL.out]; rfl)
    clear hw q6 q1 q2 q3 q4
    go_wp2_with fail
    go_ret
    exact ⟨by rw [HV.out]; rfl, HK1.out⟩
  · have HV : Hid (W.next v = 3) := by unfold Hid; simp [Wt.next, hl, hx]
    have HX := Lib.hid hx
    clear hb hi hv hl hx
    go_enter Try.func21, Try.ntmps21
    go_wp2_with fail
    refine (check_v _ W.l v 3 HX.out).mono ?_
    rintro e w1 ⟨rfl, hw⟩
    have HB1 : Hid (Blk w1 g 42 (wcells W)) := by rw [← hw]; exact (HB.out.alloc _).alloc _
    have HK1 : Hid (Keep w.heap.size [] w w1) := by rw [← hw]; exact keep_box2 w W.l
    have q6' : w1.cell? ⟨g, 6, none⟩ = some (.int .i64 1) := (HB1.out.cell 6).trans (by rw [← HL.out]; rfl)
    clear hw q6 q1 q2 q3 q4
    go_wp2_with fail
    go_ret
    exact ⟨by rw [HV.out]; rfl, HK1.out⟩
  · have HV : Hid (W.next v = 4) := by unfold Hid; simp [Wt.next, hl, hx]
    have HX := Lib.hid hx
    clear hb hi hv hl hx
    go_enter Try.func21, Try.ntmps21
    go_wp2_with fail
    refine (check_v _ W.l v 4 HX.out).mono ?_
    rintro e w1 ⟨rfl, hw⟩
    have HB1 : Hid (Blk w1 g 42 (wcells W)) := by rw [← hw]; exact (HB.out.alloc _).alloc _
    have HK1 : Hid (Keep w.heap.size [] w w1) := by rw [← hw]; exact keep_box2 w W.l
    have q6' : w1.cell? ⟨g, 6, none⟩ = some (.int .i64 1) := (HB1.out.cell 6).trans (by rw [← HL.out]; rfl)
    clear hw q6 q1 q2 q3 q4
    go_wp2_with fail
    go_ret
    exact ⟨by rw [HV.out]; rfl, HK1.out⟩
set_option maxHeartbeats 2000000 in
theorem next_2 (w : World) (g : Nat) (W : Wt) (hi : W.Inv) (hl : W.last = 2) (v : Int) (hv : Fit v) (hb : Blk w g 42 (wcells W)) :
    Calls Try.prog 21 #[bptr g, .int .i64 v] w (NextPost w (.int .i64 (W.next v))) := by
  have q1 : w.cell? ⟨g, 1, none⟩ = some (.int .i64 W.l.hl) := hb.cell 1
  have q2 : w.cell? ⟨g, 2, none⟩ = some (.int .i64 W.l.sl) := hb.cell 2
  have q3 : w.cell? ⟨g, 3, none⟩ = some (.int .i64 W.l.sh) := hb.cell 3
  have q4 : w.cell? ⟨g, 4, none⟩ = some (.int .i64 W.l.hh) := hb.cell 4
  have q6 : w.cell? ⟨g, 6, none⟩ = some (.int .i64 2) := (hb.cell 6).trans (by rw [← hl]; rfl)
  have HB := Lib.hid hb
  have HI := Lib.hid hi
  have HF := Lib.hid hv
  have HL := Lib.hid hl
  rcases check_cases W.l v with hx | hx | hx | hx | hx
  · have HV : Hid (W.next v = W.high v) := by unfold Hid; simp [Wt.next, hl, hx]
    have HX := Lib.hid hx
    clear hb hi hv hl hx
    go_enter Try.func21, Try.ntmps21
    go_wp2_with fail
    refine (check_v _ W.l v 0 HX.out).mono ?_
    rintro e w1 ⟨rfl, hw⟩
    have HB1 : Hid (Blk w1 g 42 (wcells W)) := by rw [← hw]; exact (HB.out.alloc _).alloc _
    have HK1 : Hid (Keep w.heap.size [] w w1) := by rw [← hw]; exact keep_box2 w W.l
    have q6' : w1.cell? ⟨g, 6, none⟩ = some (.int .i64 2) := (HB1.out.cell 6).trans (by rw [← HL.out]; rfl)
    clear hw q6 q1 q2 q3 q4
    go_wp2_with fail
    refine (high_any _ g W HI.out v HF.out HB1.out).mono ?_
    rintro e w' ⟨rfl, rfl⟩
    go_wp2_with fail
    go_ret
    exact ⟨by rw [HV.out]; rfl, HK1.out⟩
  · have HV : Hid (W.next v = 1) := by unfold Hid; simp [Wt.next, hl, hx]
    have HX := Lib.hid hx
    clear hb hi hv hl hx
    go_enter Try.func21, Try.ntmps21
    go_wp2_with fail
    refine (check_v _ W.l v 1 HX.out).mono ?_
    rintro e w1 ⟨rfl, hw⟩
    have HB1 : Hid (Blk w1 g 42 (wcells W)) := by rw [← hw]; exact (HB.out.alloc _).alloc _
    have HK1 : Hid (Keep w.heap.size [] w w1) := by rw [← hw]; exact keep_box2 w W.l
    have q6' : w1.cell? ⟨g, 6, none⟩ = some (.int .i64 2) := (HB1.out.cell 6).trans (by rw [← HL.out]; rfl)
    clear hw q6 q1 q2 q3 q4
    go_wp2_with fail
    go_ret
    exact ⟨by rw [HV.out]; rfl, HK1.out⟩
  · have HV : Hid (W.next v = 2) := by unfold Hid; simp [Wt.next, hl, hx]
    have HX := Lib.hid hx
    clear hb hi hv hl hx
    go_enter Try.func21, Try.ntmps21
    go_wp2_with fail
    refine (check_v _ W.l v 2 HX.out).mono ?_
    rintro e w1 ⟨rfl, hw⟩
    have HB1 : Hid (Blk w1 g 42 (wcells W)) := by rw [← hw]; exact (HB.out.alloc _).alloc _
    have HK1 : Hid (Keep w.heap.size [] w w1) := by rw [← hw]; exact keep_box2 w W.l
    have q6' : w1.cell? ⟨g, 6, none⟩ = some (.int .i64 2) := (HB1.out.cell 6).trans (by rw [← HL.out]; rfl)
    clear hw q6 q1 q2 q3 q4
    go_wp2_with fail
    go_ret
    exact ⟨by rw [HV.out]; rfl, HK1.out⟩
  · have HV : Hid (W.next v = 3) := by unfold Hid; simp [Wt.next, hl, hx]
    have HX := Lib.hid hx
    clear hb hi hv hl hx
    go_enter Try.func21, Try.ntmps21
    go_wp2_with fail
    refine (check_v _ W.l v 3 HX.out).mono ?_
    rintro e w1 ⟨rfl, hw⟩
    have HB1 : Hid (Blk w1 g 42 (wcells W)) := by rw [← hw]; exact (HB.out.alloc _).alloc _
    have HK1 : Hid (Keep w.heap.size [] w w1) := by rw [← hw]; exact keep_box2 w W.l
    have q6' : w1.cell? ⟨g, 6, none⟩ = some (.int .i64 2) := (HB1.out.cell 6).trans (by rw [← HL.out]; rfl)
    clear hw q6 q1 q2 q3 q4
    go_wp2_with fail
    go_ret
    exact ⟨by rw [HV.out]; rfl, HK1.out⟩
  · have HV : Hid (W.next v = 4) := by unfold Hid; simp [Wt.next, hl, hx]
    have HX := Lib.hid hx
    clear hb hi hv hl hx
    go_enter Try.func21, Try.ntmps21
    go_wp2_with fail
    refine (check_v _ W.l v 4 HX.out).mono ?_
    rintro e w1 ⟨rfl, hw⟩
    have HB1 : Hid (Blk w1 g 42 (wcells W)) := by rw [← hw]; exact (HB.out.alloc _).alloc _
    have HK1 : Hid (Keep w.heap.size [] w w1) := by rw [← hw]; exact keep_box2 w W.l
    have q6' : w1.cell? ⟨g, 6, none⟩ = some (.int .i64 2) := (HB1.out.cell 6).trans (by rw [← HL.out]; rfl)
    clear hw q6 q1 q2 q3 q4
    go_wp2_with fail
    go_ret
    exact ⟨by rw [HV.out]; rfl, HK1.out⟩
set_option maxHeartbeats 2000000 in
theorem next_3 (w : World) (g : Nat) (W : Wt) (hi : W.Inv) (hl : W.last = 3) (v : Int) (hv : Fit v) (hb : Blk w g 42 (wcells W)) :
    Calls Try.prog 21 #[bptr g, .int .i64 v] w (NextPost w (.int .i64 (W.next v))) := by
  have q1 : w.cell? ⟨g, 1, none⟩ = some (.int .i64 W.l.hl) := hb.cell 1
  have q2 : w.cell? ⟨g, 2, none⟩ = some (.int .i64 W.l.sl) := hb.cell 2
  have q3 : w.cell? ⟨g, 3, none⟩ = some (.int .i64 W.l.sh) := hb.cell 3
  have q4 : w.cell? ⟨g, 4, none⟩ = some (.int .i64 W.l.hh) := hb.cell 4
  have q6 : w.cell? ⟨g, 6, none⟩ = some (.int .i64 3) := (hb.cell 6).trans (by rw [← hl]; rfl)
  have HB := Lib.hid hb
  have HI := Lib.hid hi
  have HF := Lib.hid hv
  have HL := Lib.hid hl
  rcases check_cases W.l v with hx | hx | hx | hx | hx
  · have HV : Hid (W.next v = W.low v) := by unfold Hid; simp [Wt.next, hl, hx]
    have HX := Lib.hid hx
    clear hb hi hv hl hx
    go_enter Try.func21, Try.ntmps21
    go_wp2_with fail
    refine (check_v _ W.l v 0 HX.out).mono ?_
    rintro e w1 ⟨rfl, hw⟩
    have HB1 : Hid (Blk w1 g 42 (wcells W)) := by rw [← hw]; exact (HB.out.alloc _).alloc _
    have HK1 : Hid (Keep w.heap.size [] w w1) := by rw [← hw]; exact keep_box2 w W.l
    have q6' : w1.cell? ⟨g, 6, none⟩ = some (.int .i64 3) := (HB1.out.cell 6).trans (by rw [← HL.out]; rfl)
    clear hw q6 q1 q2 q3 q4
    go_wp2_with fail
    refine (low_any _ g W HI.out v HF.out HB1.out).mono ?_
    rintro e w' ⟨rfl, rfl⟩
    go_wp2_with fail
    go_ret
    exact ⟨by rw [HV.out]; rfl, HK1.out⟩
  · have HV : Hid (W.next v = W.low v) := by unfold Hid; simp [Wt.next, hl, hx]
    have HX := Lib.hid hx
    clear hb hi hv hl hx
    go_enter Try.func21, Try.ntmps21
    go_wp2_with fail
    refine (check_v _ W.l v 1 HX.out).mono ?_
    rintro e w1 ⟨rfl, hw⟩
    have HB1 : Hid (Blk w1 g 42 (wcells W)) := by rw [← hw]; exact (HB.out.alloc _).alloc _
    have HK1 : Hid (Keep w.heap.size [] w w1) := by rw [← hw]; exact keep_box2 w W.l
    have q6' : w1.cell? ⟨g, 6, none⟩ = some (.int .i64 3) := (HB1.out.cell 6).trans (by rw [← HL.out]; rfl)
    clear hw q6 q1 q2 q3 q4
    go_wp2_with fail
    refine (low_any _ g W HI.out v HF.out HB1.out).mono ?_
    rintro e w' ⟨rfl, rfl⟩
    go_wp2_with fail
    go_ret
    exact ⟨by rw [HV.out]; rfl, HK1.out⟩
  · have HV : Hid (W.next v = 2) := by unfold Hid; simp [Wt.next, hl, hx]
    have HX := Lib.hid hx
    clear hb hi hv hl hx
    go_enter Try.func21, Try.ntmps21
    go_wp2_with fail
    refine (check_v _ W.l v 2 HX.out).mono ?_
    rintro e w1 ⟨rfl, hw⟩
    have HB1 : Hid (Blk w1 g 42 (wcells W)) := by rw [← hw]; exact (HB.out.alloc _).alloc _
    have HK1 : Hid (Keep w.heap.size [] w w1) := by rw [← hw]; exact keep_box2 w W.l
    have q6' : w1.cell? ⟨g, 6, none⟩ = some (.int .i64 3) := (HB1.out.cell 6).trans (by rw [← HL.out]; rfl)
    clear hw q6 q1 q2 q3 q4
    go_wp2_with fail
    go_ret
    exact ⟨by rw [HV.out]; rfl, HK1.out⟩
  · have HV : Hid (W.next v = 3) := by unfold Hid; simp [Wt.next, hl, hx]
    have HX := Lib.hid hx
    clear hb hi hv hl hx
    go_enter Try.func21, Try.ntmps21
    go_wp2_with fail
    refine (check_v _ W.l v 3 HX.out).mono ?_
    rintro e w1 ⟨rfl, hw⟩
    have HB1 : Hid (Blk w1 g 42 (wcells W)) := by rw [← hw]; exact (HB.out.alloc _).alloc _
    have HK1 : Hid (Keep w.heap.size [] w w1) := by rw [← hw]; exact keep_box2 w W.l
    have q6' : w1.cell? ⟨g, 6, none⟩ = some (.int .i64 3) := (HB1.out.cell 6).trans (by rw [← HL.out]; rfl)
    clear hw q6 q1 q2 q3 q4
    go_wp2_with fail
    go_ret
    exact ⟨by rw [HV.out]; rfl, HK1.out⟩
  · have HV : Hid (W.next v = 4) := by unfold Hid; simp [Wt.next, hl, hx]
    have HX := Lib.hid hx
    clear hb hi hv hl hx
    go_enter Try.func21, Try.ntmps21
    go_wp2_with fail
    refine (check_v _ W.l v 4 HX.out).mono ?_
    rintro e w1 ⟨rfl, hw⟩
    have HB1 : Hid (Blk w1 g 42 (wcells W)) := by rw [← hw]; exact (HB.out.alloc _).alloc _
    have HK1 : Hid (Keep w.heap.size [] w w1) := by rw [← hw]; exact keep_box2 w W.l
    have q6' : w1.cell? ⟨g, 6, none⟩ = some (.int .i64 3) := (HB1.out.cell 6).trans (by rw [← HL.out]; rfl)
    clear hw q6 q1 q2 q3 q4
    go_wp2_with fail
    go_ret
    exact ⟨by rw [HV.out]; rfl, HK1.out⟩
set_option maxHeartbeats 2000000 in
theorem next_4 (w : World) (g : Nat) (W : Wt) (hi : W.Inv) (hl : W.last = 4) (v : Int) (hv : Fit v) (hb : Blk w g 42 (wcells W)) :
    Calls Try.prog 21 #[bptr g, .int .i64 v] w (NextPost w (.int .i64 (W.next v))) := by
  have q1 : w.cell? ⟨g, 1, none⟩ = some (.int .i64 W.l.hl) := hb.cell 1
  have q2 : w.cell? ⟨g, 2, none⟩ = some (.int .i64 W.l.sl) := hb.cell 2
  have q3 : w.cell? ⟨g, 3, none⟩ = some (.int .i64 W.l.sh) := hb.cell 3
  have q4 : w.cell? ⟨g, 4, none⟩ = some (.int .i64 W.l.hh) := hb.cell 4
  have q6 : w.cell? ⟨g, 6, none⟩ = some (.int .i64 4) := (hb.cell 6).trans (by rw [← hl]; rfl)
  have HB := Lib.hid hb
  have HI := Lib.hid hi
  have HF := Lib.hid hv
  have HL := Lib.hid hl
  rcases check_cases W.l v with hx | hx | hx | hx | hx
  · have HV : Hid (W.next v = W.high v) := by unfold Hid; simp [Wt.next, hl, hx]
    have HX := Lib.hid hx
    clear hb hi hv hl hx
    go_enter Try.func21, Try.ntmps21
    go_wp2_with fail
    refine (check_v _ W.l v 0 HX.out).mono ?_
    rintro e w1 ⟨rfl, hw⟩
    have HB1 : Hid (Blk w1 g 42 (wcells W)) := by rw [← hw]; exact (HB.out.alloc _).alloc _
    have HK1 : Hid (Keep w.heap.size [] w w1) := by rw [← hw]; exact keep_box2 w W.l
    have q6' : w1.cell? ⟨g, 6, none⟩ = some (.int .i64 4) := (HB1.out.cell 6).trans (by rw [← HL.out]; rfl)
    clear hw q6 q1 q2 q3 q4
    go_wp2_with fail
    refine (high_any _ g W HI.out v HF.out HB1.out).mono ?_
    rintro e w' ⟨rfl, rfl⟩
    go_wp2_with fail
    go_ret
    exact ⟨by rw [HV.out]; rfl, HK1.out⟩
  · have HV : Hid (W.next v = 1) := by unfold Hid; simp [Wt.next, hl, hx]
    have HX := Lib.hid hx
    clear hb hi hv hl hx
    go_enter Try.func21, Try.ntmps21
    go_wp2_with fail
    refine (check_v _ W.l v 1 HX.out).mono ?_
    rintro e w1 ⟨rfl, hw⟩
    have HB1 : Hid (Blk w1 g 42 (wcells W)) := by rw [← hw]; exact (HB.out.alloc _).alloc _
    have HK1 : Hid (Keep w.heap.size [] w w1) := by rw [← hw]; exact keep_box2 w W.l
    have q6' : w1.cell? ⟨g, 6, none⟩ = some (.int .i64 4) := (HB1.out.cell 6).trans (by rw [← HL.out]; rfl)
    clear hw q6 q1 q2 q3 q4
    go_wp2_with fail
    go_ret
    exact ⟨by rw [HV.out]; rfl, HK1.out⟩
  · have HV : Hid (W.next v = W.high v) := by unfold Hid; simp [Wt.next, hl, hx]
    have HX := Lib.hid hx
    clear hb hi hv hl hx
    go_enter Try.func21, Try.ntmps21
    go_wp2_with fail
    refine (check_v _ W.l v 2 HX.out).mono ?_
    rintro e w1 ⟨rfl, hw⟩
    have HB1 : Hid (Blk w1 g 42 (wcells W)) := by rw [← hw]; exact (HB.out.alloc _).alloc _
    have HK1 : Hid (Keep w.heap.size [] w w1) := by rw [← hw]; exact keep_box2 w W.l
    have q6' : w1.cell? ⟨g, 6, none⟩ = some (.int .i64 4) := (HB1.out.cell 6).trans (by rw [← HL.out]; rfl)
    clear hw q6 q1 q2 q3 q4
    go_wp2_with fail
    refine (high_any _ g W HI.out v HF.out HB1.out).mono ?_
    rintro e w' ⟨rfl, rfl⟩
    go_wp2_with fail
    go_ret
    exact ⟨by rw [HV.out]; rfl, HK1.out⟩
  · have HV : Hid (W.next v = 3) := by unfold Hid; simp [Wt.next, hl, hx]
    have HX := Lib.hid hx
    clear hb hi hv hl hx
    go_enter Try.func21, Try.ntmps21
    go_wp2_with fail
    refine (check_v _ W.l v 3 HX.out).mono ?_
    rintro e w1 ⟨rfl, hw⟩
    have HB1 : Hid (Blk w1 g 42 (wcells W)) := by rw [← hw]; exact (HB.out.alloc _).alloc _
    have HK1 : Hid (Keep w.heap.size [] w w1) := by rw [← hw]; exact keep_box2 w W.l
    have q6' : w1.cell? ⟨g, 6, none⟩ = some (.int .i64 4) := (HB1.out.cell 6).trans (by rw [← HL.out]; rfl)
    clear hw q6 q1 q2 q3 q4
    go_wp2_with fail
    go_ret
    exact ⟨by rw [HV.out]; rfl, HK1.out⟩
  · have HV : Hid (W.next v = 4) := by unfold Hid; simp [Wt.next, hl, hx]
    have HX := Lib.hid hx
    clear hb hi hv hl hx
    go_enter Try.func21, Try.ntmps21
    go_wp2_with fail
    refine (check_v _ W.l v 4 HX.out).mono ?_
    rintro e w1 ⟨rfl, hw⟩
    have HB1 : Hid (Blk w1 g 42 (wcells W)) := by rw [← hw]; exact (HB.out.alloc _).alloc _
    have HK1 : Hid (Keep w.heap.size [] w w1) := by rw [← hw]; exact keep_box2 w W.l
    have q6' : w1.cell? ⟨g, 6, none⟩ = some (.int .i64 4) := (HB1.out.cell 6).trans (by rw [← HL.out]; rfl)
    clear hw q6 q1 q2 q3 q4
    go_wp2_with fail
    go_ret
    exact ⟨by rw [HV.out]; rfl, HK1.out⟩
theorem next_any (w : World) (g : Nat) (W : Wt) (hi : W.Inv) (v : Int) (hv : Fit v) (hb : Blk w g 42 (wcells W)) :
    Calls Try.prog 21 #[bptr g, .int .i64 v] w (NextPost w (.int .i64 (W.next v))) := by
  rcases hi.last with h | h | h | h | h
  · exact next_0 w g W hi h v hv hb
  · exact next_1 w g W hi h v hv hb
  · exact next_2 w g W hi h v hv hb
  · exact next_3 w g W hi h v hv hb
  · exact next_4 w g W hi h v hv hb
theorem next_v (w : World) (g : Nat) (W : Wt) (hi : W.Inv) (v : Int) (hv : Fit v) (hb : Blk w g 42 (wcells W)) (n : Nat) (h : W.next v = (n : Int)) :
    Calls Try.prog 21 #[bptr g, .int .i64 v] w (NextPost w (.int .i64 (n : Int))) := h ▸ next_any w g W hi v hv hb

set_option maxHeartbeats 2000000 in
theorem feed_any (w : World) (g : Nat) (W : Wt) (hi : W.Inv) (v : Int) (hv : Fit v) (hb : Blk w g 42 (wcells W)) :
    Calls Try.prog 15 #[bptr g, .int .i64 v] w (FeedPost w g 42 (wcells (W.feed v)) (.int .i64 (W.next v))) := by
  obtain ⟨n, hn, he⟩ := next_nat W v
  have hf : W.feed v = W.bump n := by rw [Wt.feed, he]; simp
  rw [hf, he]
  have HB := Lib.hid hb
  have HI := Lib.hid hi
  have HF := Lib.hid hv
  have HE := Lib.hid he
  clear hb hi hv he hf
  go_enter Try.func15, Try.ntmps15
  go_wp2_with fail
  refine (ok_any _ g W HB.out).mono ?_
  rintro e w' ⟨rfl, rfl⟩
  go_wp2_with fail
  refine (next_v _ g W HI.out v HF.out HB.out n HE.out).mono ?_
  rintro e w1 ⟨rfl, hk⟩
  have hb1 := HB.out.keepS hk (by simp)
  have q6 : w1.cell? ⟨g, 6, none⟩ = some (.int .i64 W.last) := hb1.cell 6
  have q7 : w1.cell? ⟨g, 7 + n, none⟩ = some (.int .i64 (W.cnt n)) := wcell_cnt hb1 hn
  have f6 := hb1.frozen 6
  have f7 := hb1.frozen (7 + n)
  have HB1 := Lib.hid hb1
  have HK1 := Lib.hid hk
  clear hb1 hk
  go_wp2_with fail
  obtain ⟨W1, hW⟩ : ∃ W1, W1 = w1.setCell ⟨g, 6, none⟩ (.int .i64 (n : Int)) := ⟨_, rfl⟩
  have HB2 : Hid (Blk W1 g 42 ((wcells W).setIfInBounds 6 (.int .i64 (n : Int)))) := by rw [hW]; exact HB1.out.set_ 6 _
  have HK2 : Hid (Keep w.heap.size [g] w W1) := by rw [hW]; exact (HK1.out.mono (Nat.le_refl _) (by simp)).set1
  have p6 : W1.cell? ⟨g, 6, none⟩ = some (.int .i64 (n : Int)) := HB2.out.cell 6
  have p7 : W1.cell? ⟨g, 7 + n, none⟩ = some (.int .i64 (W.cnt n)) := by rw [hW, World.cell?_setCell_other _ _ _ _ (by intro e; injection e; omega)]; exact q7
  have e7 := HB2.out.frozen (7 + n)
  rw [← hW]
  clear hW q6 q7 f6 f7
  go_region
  all_goals go_wp2_with fail
  all_goals go_ret
  all_goals exact ⟨rfl, by rw [← wset hn]; exact HB2.out.set_ (7 + n) _, HK2.out.drew.set1⟩
end Go.Proofs.Ytmefdiidgnpklaa
