/- The law package's function step. -/
import Derived.Test.YtppmbigmpilggaaWalkC
import Derived.Deep.RegionHeld3
import Derived.StillTactics
namespace Go.Proofs.Ytppmbigmpilggaa
set_option linter.unusedVariables false
set_option linter.unusedSimpArgs false
open Go.RowKit
theorem blkW {w W : World} {g : Nat} {t : TypeId} {cs : Array Value} (h : Blk w g t cs) (hk : Keep w.heap.size [] w W) : Blk W g t cs := h.keepS hk (by simp)

def StepPost (w : World) (g x : Nat) (b : Bu) (e : Ending) (w' : World) : Prop :=
  e = .returned (.bool true) ∧ Blk w' g 47 (bcells b) ∧ Blk w' x 26 (rcells b) ∧ Keep w.heap.size [g, x] w w'

def Bu.step (b : Bu) (k n now : Int) : Bu := if k % 3 = 0 then b.take n now else b.adv now
theorem step_inv {b : Bu} (h : b.Inv) (k n now : Int) : (b.step k n now).Inv := by
  unfold Bu.step; split
  · exact take_inv h n now
  · exact adv_inv h now

theorem step_keep {w W w1 w2 : World} {g x : Nat} (hs : w.heap.size ≤ W.heap.size) (h1 : Keep w.heap.size [g, x] w W) (h2 : Keep W.heap.size [g] W w1) (h3 : Keep w1.heap.size [x] w1 w2) : Keep w.heap.size [g, x] w w2 :=
  (h1.trans (h2.mono hs (fun _ _ h => by simp at h; simp [h]))).trans (h3.mono (Nat.le_trans hs h2.size) (fun _ _ h => by simp at h; simp [h]))

set_option maxHeartbeats 1000000 in
theorem step_take (w : World) (g x : Nat) (b : Bu) (hi : b.Inv) (k n now : Int) (hk0 : 0 ≤ k) (hk1 : k ≤ 255) (hk : k % 3 = 0) (hb : Blk w g 47 (bcells b)) (hx : Blk w x 26 (rcells b)) :
    Calls Try.prog 11 #[bptr g, bptr x, .agg #[.int .u8 k, .int .i64 n, .int .i64 now]] w (StepPost w g x (b.take n now)) := by
  have hne := hb.ne_ hx (by decide)
  have hm : (k % 3 == 0) = true := beq_iff_eq.2 hk
  have HB := Lib.hid hb
  have HX := Lib.hid hx
  have hgl := hb.lt
  have hxl := hx.lt
  have HN := Lib.hid hne
  clear hb hx hk hne
  go_enter Try.func11, Try.ntmps11
  go_wp2_with fail
  obtain ⟨W, hW⟩ : ∃ W, W = w.alloc (.cells #[.int .u8 k, .int .i64 n, .int .i64 now] 32) := ⟨_, rfl⟩
  have HC : Hid (Blk W w.heap.size 32 #[.int .u8 k, .int .i64 n, .int .i64 now]) := by rw [hW]; exact Blk.new _ _ _
  have HB1 : Hid (Blk W g 47 (bcells b)) := by rw [hW]; exact HB.out.alloc _
  have HX1 : Hid (Blk W x 26 (rcells b)) := by rw [hW]; exact HX.out.alloc _
  have HK1 : Hid (Keep w.heap.size [g, x] w W) := by rw [hW]; exact (Keep.refl _ _ _).alloc (Nat.le_refl _) _
  have HS1 : Hid (w.heap.size ≤ W.heap.size) := by rw [hW]; simp [Hid]
  have c1 : W.cell? ⟨w.heap.size, 1, none⟩ = some (.int .i64 n) := HC.out.cell 1
  have c2 : W.cell? ⟨w.heap.size, 2, none⟩ = some (.int .i64 now) := HC.out.cell 2
  rw [← hW]
  clear hW HB HX
  have HCl : Hid (w.heap.size < W.heap.size) := HC.out.lt
  have HG : Hid (w.heap.size ∉ [g]) := by unfold Hid; simp; omega
  have HG2 : Hid (w.heap.size ∉ [x]) := by unfold Hid; simp; omega
  have HGX : Hid (x ∉ [g]) := by unfold Hid; simp; exact fun e => HN.out e.symm
  have HGX2 : Hid (g ∉ [x]) := by unfold Hid; simp; exact HN.out
  go_region_held3 (fun w' => w'.cell? ⟨w.heap.size, 1, none⟩ = some (.int .i64 n) ∧ w'.cell? ⟨w.heap.size, 2, none⟩ = some (.int .i64 now))
    (first | exact ⟨c1, c2⟩ | exact ⟨d1, d2⟩ | exact ⟨e1, e2⟩ | (simp [*]; done))
    (first
      | (go_at_call 14
         refine (take_any _ g b hi n now (by exact HB1.out)).mono ?_
         rintro e w1 ⟨rfl, hb1, hk1⟩
         have HK2 : Hid (Keep W.heap.size [g] W w1) := hk1.undrew
         have d1 : w1.cell? ⟨w.heap.size, 1, none⟩ = some (.int .i64 n) := (HK2.out.cell (p := ⟨w.heap.size, 1, none⟩) HCl.out HG.out).trans c1
         have d2 : w1.cell? ⟨w.heap.size, 2, none⟩ = some (.int .i64 now) := (HK2.out.cell (p := ⟨w.heap.size, 2, none⟩) HCl.out HG.out).trans c2
         have HB2 := Lib.hid hb1
         clear hb1 hk1)
      | (go_at_call 18
         refine (rtake_any _ x b hi n now (by exact HX1.out.keepS HK2.out HGX.out)).mono ?_
         rintro e w2 ⟨rfl, hb2, hk2⟩
         have HK3 : Hid (Keep w1.heap.size [x] w1 w2) := hk2
         have e1 : w2.cell? ⟨w.heap.size, 1, none⟩ = some (.int .i64 n) := (HK3.out.cell (p := ⟨w.heap.size, 1, none⟩) (Nat.lt_of_lt_of_le HCl.out HK2.out.size) HG2.out).trans d1
         have e2 : w2.cell? ⟨w.heap.size, 2, none⟩ = some (.int .i64 now) := (HK3.out.cell (p := ⟨w.heap.size, 2, none⟩) (Nat.lt_of_lt_of_le HCl.out HK2.out.size) HG2.out).trans d2
         have HB3 := Lib.hid hb2
         clear hb2 hk2))
  go_wp2
  go_ret
  exact ⟨rfl, HB2.out.keepS HK3.out HGX2.out, HB3.out, step_keep HS1.out HK1.out HK2.out HK3.out⟩

set_option maxHeartbeats 1000000 in
theorem step_level (w : World) (g x : Nat) (b : Bu) (hi : b.Inv) (k n now : Int) (hk0 : 0 ≤ k) (hk1 : k ≤ 255) (hk : k % 3 = 1) (hb : Blk w g 47 (bcells b)) (hx : Blk w x 26 (rcells b)) :
    Calls Try.prog 11 #[bptr g, bptr x, .agg #[.int .u8 k, .int .i64 n, .int .i64 now]] w (StepPost w g x (b.adv now)) := by
  have hne := hb.ne_ hx (by decide)
  have hm : (k % 3 == 0) = false := by rw [hk]; rfl
  have hm1 : (k % 3 == 1) = true := beq_iff_eq.2 hk
  have HB := Lib.hid hb
  have HX := Lib.hid hx
  have hgl := hb.lt
  have hxl := hx.lt
  have HN := Lib.hid hne
  clear hb hx hk hne
  go_enter Try.func11, Try.ntmps11
  go_wp2_with fail
  obtain ⟨W, hW⟩ : ∃ W, W = w.alloc (.cells #[.int .u8 k, .int .i64 n, .int .i64 now] 32) := ⟨_, rfl⟩
  have HC : Hid (Blk W w.heap.size 32 #[.int .u8 k, .int .i64 n, .int .i64 now]) := by rw [hW]; exact Blk.new _ _ _
  have HB1 : Hid (Blk W g 47 (bcells b)) := by rw [hW]; exact HB.out.alloc _
  have HX1 : Hid (Blk W x 26 (rcells b)) := by rw [hW]; exact HX.out.alloc _
  have HK1 : Hid (Keep w.heap.size [g, x] w W) := by rw [hW]; exact (Keep.refl _ _ _).alloc (Nat.le_refl _) _
  have HS1 : Hid (w.heap.size ≤ W.heap.size) := by rw [hW]; simp [Hid]
  have c1 : W.cell? ⟨w.heap.size, 1, none⟩ = some (.int .i64 n) := HC.out.cell 1
  have c2 : W.cell? ⟨w.heap.size, 2, none⟩ = some (.int .i64 now) := HC.out.cell 2
  rw [← hW]
  clear hW HB HX
  have HCl : Hid (w.heap.size < W.heap.size) := HC.out.lt
  have HG : Hid (w.heap.size ∉ [g]) := by unfold Hid; simp; omega
  have HG2 : Hid (w.heap.size ∉ [x]) := by unfold Hid; simp; omega
  have HGX : Hid (x ∉ [g]) := by unfold Hid; simp; exact fun e => HN.out e.symm
  have HGX2 : Hid (g ∉ [x]) := by unfold Hid; simp; exact HN.out
  go_region_held3 (fun w' => w'.cell? ⟨w.heap.size, 1, none⟩ = some (.int .i64 n) ∧ w'.cell? ⟨w.heap.size, 2, none⟩ = some (.int .i64 now))
    (first | exact ⟨c1, c2⟩ | exact ⟨d1, d2⟩ | exact ⟨e1, e2⟩ | (simp [*]; done))
    (first
      | (go_at_call 12
         refine (level_any _ g b hi now (by exact HB1.out)).mono ?_
         rintro e w1 ⟨rfl, hb1, hk1⟩
         have HK2 : Hid (Keep W.heap.size [g] W w1) := hk1.undrew
         have d1 : w1.cell? ⟨w.heap.size, 1, none⟩ = some (.int .i64 n) := (HK2.out.cell (p := ⟨w.heap.size, 1, none⟩) HCl.out HG.out).trans c1
         have d2 : w1.cell? ⟨w.heap.size, 2, none⟩ = some (.int .i64 now) := (HK2.out.cell (p := ⟨w.heap.size, 2, none⟩) HCl.out HG.out).trans c2
         have HB2 := Lib.hid hb1
         clear hb1 hk1)
      | (go_at_call 13
         refine (rlevel_any _ x b hi now (by exact HX1.out.keepS HK2.out HGX.out)).mono ?_
         rintro e w2 ⟨rfl, hb2, hk2⟩
         have HK3 : Hid (Keep w1.heap.size [x] w1 w2) := hk2
         have e1 : w2.cell? ⟨w.heap.size, 1, none⟩ = some (.int .i64 n) := (HK3.out.cell (p := ⟨w.heap.size, 1, none⟩) (Nat.lt_of_lt_of_le HCl.out HK2.out.size) HG2.out).trans d1
         have e2 : w2.cell? ⟨w.heap.size, 2, none⟩ = some (.int .i64 now) := (HK3.out.cell (p := ⟨w.heap.size, 2, none⟩) (Nat.lt_of_lt_of_le HCl.out HK2.out.size) HG2.out).trans d2
         have HB3 := Lib.hid hb2
         clear hb2 hk2))
  go_wp2
  go_ret
  exact ⟨rfl, HB2.out.keepS HK3.out HGX2.out, HB3.out, step_keep HS1.out HK1.out HK2.out HK3.out⟩

set_option maxHeartbeats 1000000 in
theorem step_when (w : World) (g x : Nat) (b : Bu) (hi : b.Inv) (k n now : Int) (hk0 : 0 ≤ k) (hk1 : k ≤ 255) (hk : k % 3 = 2) (hb : Blk w g 47 (bcells b)) (hx : Blk w x 26 (rcells b)) :
    Calls Try.prog 11 #[bptr g, bptr x, .agg #[.int .u8 k, .int .i64 n, .int .i64 now]] w (StepPost w g x (b.adv now)) := by
  have hne := hb.ne_ hx (by decide)
  have hm : (k % 3 == 0) = false := by rw [hk]; rfl
  have hm1 : (k % 3 == 1) = false := by rw [hk]; rfl
  have HB := Lib.hid hb
  have HX := Lib.hid hx
  have hgl := hb.lt
  have hxl := hx.lt
  have HN := Lib.hid hne
  clear hb hx hk hne
  go_enter Try.func11, Try.ntmps11
  go_wp2_with fail
  obtain ⟨W, hW⟩ : ∃ W, W = w.alloc (.cells #[.int .u8 k, .int .i64 n, .int .i64 now] 32) := ⟨_, rfl⟩
  have HC : Hid (Blk W w.heap.size 32 #[.int .u8 k, .int .i64 n, .int .i64 now]) := by rw [hW]; exact Blk.new _ _ _
  have HB1 : Hid (Blk W g 47 (bcells b)) := by rw [hW]; exact HB.out.alloc _
  have HX1 : Hid (Blk W x 26 (rcells b)) := by rw [hW]; exact HX.out.alloc _
  have HK1 : Hid (Keep w.heap.size [g, x] w W) := by rw [hW]; exact (Keep.refl _ _ _).alloc (Nat.le_refl _) _
  have HS1 : Hid (w.heap.size ≤ W.heap.size) := by rw [hW]; simp [Hid]
  have c1 : W.cell? ⟨w.heap.size, 1, none⟩ = some (.int .i64 n) := HC.out.cell 1
  have c2 : W.cell? ⟨w.heap.size, 2, none⟩ = some (.int .i64 now) := HC.out.cell 2
  rw [← hW]
  clear hW HB HX
  have HCl : Hid (w.heap.size < W.heap.size) := HC.out.lt
  have HG : Hid (w.heap.size ∉ [g]) := by unfold Hid; simp; omega
  have HG2 : Hid (w.heap.size ∉ [x]) := by unfold Hid; simp; omega
  have HGX : Hid (x ∉ [g]) := by unfold Hid; simp; exact fun e => HN.out e.symm
  have HGX2 : Hid (g ∉ [x]) := by unfold Hid; simp; exact HN.out
  go_wp2_with fail
  refine (when_any _ g b hi n now HB1.out).mono ?_
  rintro e w1 ⟨rfl, hb1, hk1⟩
  have HK2 : Hid (Keep W.heap.size [g] W w1) := hk1
  have d1 : w1.cell? ⟨w.heap.size, 1, none⟩ = some (.int .i64 n) := (HK2.out.cell (p := ⟨w.heap.size, 1, none⟩) HCl.out HG.out).trans c1
  have d2 : w1.cell? ⟨w.heap.size, 2, none⟩ = some (.int .i64 now) := (HK2.out.cell (p := ⟨w.heap.size, 2, none⟩) HCl.out HG.out).trans c2
  have HB2 := Lib.hid hb1
  clear hb1 hk1
  go_wp2_with fail
  refine (rwhen_any _ x b hi n now (HX1.out.keepS HK2.out HGX.out)).mono ?_
  rintro e w2 ⟨rfl, hb2, hk2⟩
  have HK3 : Hid (Keep w1.heap.size [x] w1 w2) := hk2
  have HB3 := Lib.hid hb2
  clear hb2 hk2
  go_wp2
  go_ret
  exact ⟨rfl, HB2.out.keepS HK3.out HGX2.out, HB3.out, step_keep HS1.out HK1.out HK2.out HK3.out⟩

theorem step_any (w : World) (g x : Nat) (b : Bu) (hi : b.Inv) (k n now : Int) (hk0 : 0 ≤ k) (hk1 : k ≤ 255) (hb : Blk w g 47 (bcells b)) (hx : Blk w x 26 (rcells b)) :
    Calls Try.prog 11 #[bptr g, bptr x, .agg #[.int .u8 k, .int .i64 n, .int .i64 now]] w (StepPost w g x (b.step k n now)) := by
  rcases (show k % 3 = 0 ∨ k % 3 = 1 ∨ k % 3 = 2 by omega) with h | h | h
  · rw [Bu.step, if_pos h]; exact step_take w g x b hi k n now hk0 hk1 h hb hx
  · rw [Bu.step, if_neg (by omega)]; exact step_level w g x b hi k n now hk0 hk1 h hb hx
  · rw [Bu.step, if_neg (by omega)]; exact step_when w g x b hi k n now hk0 hk1 h hb hx
end Go.Proofs.Ytppmbigmpilggaa
