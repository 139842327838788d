/- The law package's lives: the chapter's examples. -/
import Derived.Test.YtmefdiidgnpklaaWalkF
namespace Go.Proofs.Ytmefdiidgnpklaa
set_option linter.unusedVariables false
set_option linter.unusedSimpArgs false
open Go.RowKit
def L0 : Li := ⟨0, 10, 20, 30⟩
theorem L0_fit : L0.Fit := ⟨by decide, by decide, by decide, by decide⟩
def V0 : Wt := newW L0 3
theorem V0_inv : V0.Inv := newW_inv L0 3 L0_fit (by decide) (by decide)
set_option maxHeartbeats 4000000 in
theorem lives_any (w : World) : Calls Try.prog 12 #[] w fun e w' => e = .returned (.bool true) ∧ Keep w.heap.size [] w w' := by
  go_enter Try.func12, Try.ntmps12
  go_wp2_with fail
  obtain ⟨W0, hW⟩ : ∃ W0, W0 = w.alloc (lbox L0) := ⟨_, rfl⟩
  have HL : Hid (Blk W0 w.heap.size 23 #[.int .i64 0, .int .i64 10, .int .i64 20, .int .i64 30]) := by rw [hW]; exact Blk.new _ _ _
  have K0 : Hid (Keep w.heap.size [] w W0) := by rw [hW]; exact keep_a1 w _
  have HQ : Hid (w.alloc (.cells #[.int .i64 0, .int .i64 10, .int .i64 20, .int .i64 30] 23) = W0) := hW.symm
  rw [HQ.out]
  clear hW HQ
  refine (new_yes _ L0 3 L0_fit (by decide) (by decide)).mono ?_
  rintro e W1 ⟨g, rfl, hg, hb, hk⟩
  have HG1 := Lib.hid hb
  have HL1 := Lib.hid (HL.out.keepS hk (by simp))
  have K1 : Hid (Keep w.heap.size [] w W1) := K0.out.chain0 (Nat.le_refl _) hk
  have g1 : w.heap.size < g := Nat.lt_of_lt_of_le HL.out.lt hg
  clear hb hk hg HL K0
  have l0_W1 : W1.cell? ⟨w.heap.size, 0, none⟩ = some (.int .i64 0) := HL1.out.cell 0
  have l1_W1 : W1.cell? ⟨w.heap.size, 1, none⟩ = some (.int .i64 10) := HL1.out.cell 1
  have l2_W1 : W1.cell? ⟨w.heap.size, 2, none⟩ = some (.int .i64 20) := HL1.out.cell 2
  have l3_W1 : W1.cell? ⟨w.heap.size, 3, none⟩ = some (.int .i64 30) := HL1.out.cell 3
  go_wp2_with fail
  refine (new_yes _ L0 3 L0_fit (by decide) (by decide)).mono ?_
  rintro e W2 ⟨x, rfl, hg, hb, hk⟩
  have HX2 := Lib.hid hb
  have HG2 := Lib.hid (HG1.out.keepS hk (by simp))
  have HL2 := Lib.hid (HL1.out.keepS hk (by simp))
  have K2 : Hid (Keep w.heap.size [] w W2) := K1.out.chain0 (Nat.le_refl _) hk
  have x1 : g < x := Nat.lt_of_lt_of_le HG1.out.lt hg
  clear hb hk hg HG1 HL1 K1 l0_W1 l1_W1 l2_W1 l3_W1
  have l0_W2 : W2.cell? ⟨w.heap.size, 0, none⟩ = some (.int .i64 0) := HL2.out.cell 0
  have l1_W2 : W2.cell? ⟨w.heap.size, 1, none⟩ = some (.int .i64 10) := HL2.out.cell 1
  have l2_W2 : W2.cell? ⟨w.heap.size, 2, none⟩ = some (.int .i64 20) := HL2.out.cell 2
  have l3_W2 : W2.cell? ⟨w.heap.size, 3, none⟩ = some (.int .i64 30) := HL2.out.cell 3
  go_wp2_with fail
  refine (new_no _ L0 11 L0_fit (by decide) (by decide)).mono ?_
  rintro e W3 ⟨rfl, hk⟩
  have HX3 := Lib.hid (HX2.out.keepS hk (by simp))
  have HG3 := Lib.hid (HG2.out.keepS hk (by simp))
  have HL3 := Lib.hid (HL2.out.keepS hk (by simp))
  have K3 : Hid (Keep w.heap.size [] w W3) := K2.out.chain0 (Nat.le_refl _) hk
  clear hk HG2 HX2 HL2 K2 l0_W2 l1_W2 l2_W2 l3_W2
  have l0_W3 : W3.cell? ⟨w.heap.size, 0, none⟩ = some (.int .i64 0) := HL3.out.cell 0
  have l1_W3 : W3.cell? ⟨w.heap.size, 1, none⟩ = some (.int .i64 10) := HL3.out.cell 1
  have l2_W3 : W3.cell? ⟨w.heap.size, 2, none⟩ = some (.int .i64 20) := HL3.out.cell 2
  have l3_W3 : W3.cell? ⟨w.heap.size, 3, none⟩ = some (.int .i64 30) := HL3.out.cell 3
  go_wp2_with fail
  refine (check_v _ L0 (-1) 3 (by decide)).mono ?_
  rintro e W4 ⟨rfl, hw⟩
  have HX4 : Hid (Blk W4 x 42 (wcells V0)) := by rw [← hw]; exact (HX3.out.alloc _).alloc _
  have HG4 : Hid (Blk W4 g 42 (wcells V0)) := by rw [← hw]; exact (HG3.out.alloc _).alloc _
  have HL4 : Hid (Blk W4 w.heap.size 23 #[.int .i64 0, .int .i64 10, .int .i64 20, .int .i64 30]) := by rw [← hw]; exact (HL3.out.alloc _).alloc _
  have K4 : Hid (Keep w.heap.size [] w W4) := by rw [← hw]; exact K3.out.chain0 (Nat.le_refl _) (keep_box2 _ _)
  clear hw HG3 HX3 HL3 K3 l0_W3 l1_W3 l2_W3 l3_W3
  have l0_W4 : W4.cell? ⟨w.heap.size, 0, none⟩ = some (.int .i64 0) := HL4.out.cell 0
  have l1_W4 : W4.cell? ⟨w.heap.size, 1, none⟩ = some (.int .i64 10) := HL4.out.cell 1
  have l2_W4 : W4.cell? ⟨w.heap.size, 2, none⟩ = some (.int .i64 20) := HL4.out.cell 2
  have l3_W4 : W4.cell? ⟨w.heap.size, 3, none⟩ = some (.int .i64 30) := HL4.out.cell 3
  go_wp2_with fail
  refine (check_v _ L0 (5) 1 (by decide)).mono ?_
  rintro e W5 ⟨rfl, hw⟩
  have HX5 : Hid (Blk W5 x 42 (wcells V0)) := by rw [← hw]; exact (HX4.out.alloc _).alloc _
  have HG5 : Hid (Blk W5 g 42 (wcells V0)) := by rw [← hw]; exact (HG4.out.alloc _).alloc _
  have HL5 : Hid (Blk W5 w.heap.size 23 #[.int .i64 0, .int .i64 10, .int .i64 20, .int .i64 30]) := by rw [← hw]; exact (HL4.out.alloc _).alloc _
  have K5 : Hid (Keep w.heap.size [] w W5) := by rw [← hw]; exact K4.out.chain0 (Nat.le_refl _) (keep_box2 _ _)
  clear hw HG4 HX4 HL4 K4 l0_W4 l1_W4 l2_W4 l3_W4
  have l0_W5 : W5.cell? ⟨w.heap.size, 0, none⟩ = some (.int .i64 0) := HL5.out.cell 0
  have l1_W5 : W5.cell? ⟨w.heap.size, 1, none⟩ = some (.int .i64 10) := HL5.out.cell 1
  have l2_W5 : W5.cell? ⟨w.heap.size, 2, none⟩ = some (.int .i64 20) := HL5.out.cell 2
  have l3_W5 : W5.cell? ⟨w.heap.size, 3, none⟩ = some (.int .i64 30) := HL5.out.cell 3
  go_wp2_with fail
  refine (check_v _ L0 (10) 0 (by decide)).mono ?_
  rintro e W6 ⟨rfl, hw⟩
  have HX6 : Hid (Blk W6 x 42 (wcells V0)) := by rw [← hw]; exact (HX5.out.alloc _).alloc _
  have HG6 : Hid (Blk W6 g 42 (wcells V0)) := by rw [← hw]; exact (HG5.out.alloc _).alloc _
  have HL6 : Hid (Blk W6 w.heap.size 23 #[.int .i64 0, .int .i64 10, .int .i64 20, .int .i64 30]) := by rw [← hw]; exact (HL5.out.alloc _).alloc _
  have K6 : Hid (Keep w.heap.size [] w W6) := by rw [← hw]; exact K5.out.chain0 (Nat.le_refl _) (keep_box2 _ _)
  clear hw HG5 HX5 HL5 K5 l0_W5 l1_W5 l2_W5 l3_W5
  have l0_W6 : W6.cell? ⟨w.heap.size, 0, none⟩ = some (.int .i64 0) := HL6.out.cell 0
  have l1_W6 : W6.cell? ⟨w.heap.size, 1, none⟩ = some (.int .i64 10) := HL6.out.cell 1
  have l2_W6 : W6.cell? ⟨w.heap.size, 2, none⟩ = some (.int .i64 20) := HL6.out.cell 2
  have l3_W6 : W6.cell? ⟨w.heap.size, 3, none⟩ = some (.int .i64 30) := HL6.out.cell 3
  go_wp2_with fail
  refine (check_v _ L0 (20) 0 (by decide)).mono ?_
  rintro e W7 ⟨rfl, hw⟩
  have HX7 : Hid (Blk W7 x 42 (wcells V0)) := by rw [← hw]; exact (HX6.out.alloc _).alloc _
  have HG7 : Hid (Blk W7 g 42 (wcells V0)) := by rw [← hw]; exact (HG6.out.alloc _).alloc _
  have HL7 : Hid (Blk W7 w.heap.size 23 #[.int .i64 0, .int .i64 10, .int .i64 20, .int .i64 30]) := by rw [← hw]; exact (HL6.out.alloc _).alloc _
  have K7 : Hid (Keep w.heap.size [] w W7) := by rw [← hw]; exact K6.out.chain0 (Nat.le_refl _) (keep_box2 _ _)
  clear hw HG6 HX6 HL6 K6 l0_W6 l1_W6 l2_W6 l3_W6
  have l0_W7 : W7.cell? ⟨w.heap.size, 0, none⟩ = some (.int .i64 0) := HL7.out.cell 0
  have l1_W7 : W7.cell? ⟨w.heap.size, 1, none⟩ = some (.int .i64 10) := HL7.out.cell 1
  have l2_W7 : W7.cell? ⟨w.heap.size, 2, none⟩ = some (.int .i64 20) := HL7.out.cell 2
  have l3_W7 : W7.cell? ⟨w.heap.size, 3, none⟩ = some (.int .i64 30) := HL7.out.cell 3
  go_wp2_with fail
  refine (check_v _ L0 (25) 2 (by decide)).mono ?_
  rintro e W8 ⟨rfl, hw⟩
  have HX8 : Hid (Blk W8 x 42 (wcells V0)) := by rw [← hw]; exact (HX7.out.alloc _).alloc _
  have HG8 : Hid (Blk W8 g 42 (wcells V0)) := by rw [← hw]; exact (HG7.out.alloc _).alloc _
  have HL8 : Hid (Blk W8 w.heap.size 23 #[.int .i64 0, .int .i64 10, .int .i64 20, .int .i64 30]) := by rw [← hw]; exact (HL7.out.alloc _).alloc _
  have K8 : Hid (Keep w.heap.size [] w W8) := by rw [← hw]; exact K7.out.chain0 (Nat.le_refl _) (keep_box2 _ _)
  clear hw HG7 HX7 HL7 K7 l0_W7 l1_W7 l2_W7 l3_W7
  have l0_W8 : W8.cell? ⟨w.heap.size, 0, none⟩ = some (.int .i64 0) := HL8.out.cell 0
  have l1_W8 : W8.cell? ⟨w.heap.size, 1, none⟩ = some (.int .i64 10) := HL8.out.cell 1
  have l2_W8 : W8.cell? ⟨w.heap.size, 2, none⟩ = some (.int .i64 20) := HL8.out.cell 2
  have l3_W8 : W8.cell? ⟨w.heap.size, 3, none⟩ = some (.int .i64 30) := HL8.out.cell 3
  go_wp2_with fail
  refine (check_v _ L0 (31) 4 (by decide)).mono ?_
  rintro e W9 ⟨rfl, hw⟩
  have HX9 : Hid (Blk W9 x 42 (wcells V0)) := by rw [← hw]; exact (HX8.out.alloc _).alloc _
  have HG9 : Hid (Blk W9 g 42 (wcells V0)) := by rw [← hw]; exact (HG8.out.alloc _).alloc _
  have HL9 : Hid (Blk W9 w.heap.size 23 #[.int .i64 0, .int .i64 10, .int .i64 20, .int .i64 30]) := by rw [← hw]; exact (HL8.out.alloc _).alloc _
  have K9 : Hid (Keep w.heap.size [] w W9) := by rw [← hw]; exact K8.out.chain0 (Nat.le_refl _) (keep_box2 _ _)
  clear hw HG8 HX8 HL8 K8 l0_W8 l1_W8 l2_W8 l3_W8
  have l0_W9 : W9.cell? ⟨w.heap.size, 0, none⟩ = some (.int .i64 0) := HL9.out.cell 0
  have l1_W9 : W9.cell? ⟨w.heap.size, 1, none⟩ = some (.int .i64 10) := HL9.out.cell 1
  have l2_W9 : W9.cell? ⟨w.heap.size, 2, none⟩ = some (.int .i64 20) := HL9.out.cell 2
  have l3_W9 : W9.cell? ⟨w.heap.size, 3, none⟩ = some (.int .i64 30) := HL9.out.cell 3
  go_wp2_with fail
  refine (feed_r _ g V0 (by first | exact V0_inv | exact feed_inv V0_inv _ | exact feed_inv (feed_inv V0_inv _) _ | exact feed_inv (feed_inv (feed_inv V0_inv _) _) _ | exact feed_inv (feed_inv (feed_inv (feed_inv V0_inv _) _) _) _) 9 (by decide) HG9.out 1 (by decide)).mono ?_
  rintro e W10 ⟨rfl, hb, hk⟩
  have HG10 := Lib.hid hb
  have HX10 : Hid (Blk W10 x 42 (wcells V0)) := HX9.out.keepS hk (by simp; omega)
  have HL10 := Lib.hid (HL9.out.keepS hk (by simp; omega))
  have K10 : Hid (Keep w.heap.size [] w W10) := K9.out.chain1 (Nat.le_refl _) hk (by omega)
  clear hb hk HG9 HX9 HL9 K9 l0_W9 l1_W9 l2_W9 l3_W9
  have l0_W10 : W10.cell? ⟨w.heap.size, 0, none⟩ = some (.int .i64 0) := HL10.out.cell 0
  have l1_W10 : W10.cell? ⟨w.heap.size, 1, none⟩ = some (.int .i64 10) := HL10.out.cell 1
  have l2_W10 : W10.cell? ⟨w.heap.size, 2, none⟩ = some (.int .i64 20) := HL10.out.cell 2
  have l3_W10 : W10.cell? ⟨w.heap.size, 3, none⟩ = some (.int .i64 30) := HL10.out.cell 3
  go_wp2_with fail
  refine (feed_r _ g (V0.feed 9) (by first | exact V0_inv | exact feed_inv V0_inv _ | exact feed_inv (feed_inv V0_inv _) _ | exact feed_inv (feed_inv (feed_inv V0_inv _) _) _ | exact feed_inv (feed_inv (feed_inv (feed_inv V0_inv _) _) _) _) 12 (by decide) HG10.out 1 (by decide)).mono ?_
  rintro e W11 ⟨rfl, hb, hk⟩
  have HG11 := Lib.hid hb
  have HX11 : Hid (Blk W11 x 42 (wcells V0)) := HX10.out.keepS hk (by simp; omega)
  have HL11 := Lib.hid (HL10.out.keepS hk (by simp; omega))
  have K11 : Hid (Keep w.heap.size [] w W11) := K10.out.chain1 (Nat.le_refl _) hk (by omega)
  clear hb hk HG10 HX10 HL10 K10 l0_W10 l1_W10 l2_W10 l3_W10
  have l0_W11 : W11.cell? ⟨w.heap.size, 0, none⟩ = some (.int .i64 0) := HL11.out.cell 0
  have l1_W11 : W11.cell? ⟨w.heap.size, 1, none⟩ = some (.int .i64 10) := HL11.out.cell 1
  have l2_W11 : W11.cell? ⟨w.heap.size, 2, none⟩ = some (.int .i64 20) := HL11.out.cell 2
  have l3_W11 : W11.cell? ⟨w.heap.size, 3, none⟩ = some (.int .i64 30) := HL11.out.cell 3
  go_wp2_with fail
  refine (feed_r _ g ((V0.feed 9).feed 12) (by first | exact V0_inv | exact feed_inv V0_inv _ | exact feed_inv (feed_inv V0_inv _) _ | exact feed_inv (feed_inv (feed_inv V0_inv _) _) _ | exact feed_inv (feed_inv (feed_inv (feed_inv V0_inv _) _) _) _) 13 (by decide) HG11.out 0 (by decide)).mono ?_
  rintro e W12 ⟨rfl, hb, hk⟩
  have HG12 := Lib.hid hb
  have HX12 : Hid (Blk W12 x 42 (wcells V0)) := HX11.out.keepS hk (by simp; omega)
  have HL12 := Lib.hid (HL11.out.keepS hk (by simp; omega))
  have K12 : Hid (Keep w.heap.size [] w W12) := K11.out.chain1 (Nat.le_refl _) hk (by omega)
  clear hb hk HG11 HX11 HL11 K11 l0_W11 l1_W11 l2_W11 l3_W11
  have l0_W12 : W12.cell? ⟨w.heap.size, 0, none⟩ = some (.int .i64 0) := HL12.out.cell 0
  have l1_W12 : W12.cell? ⟨w.heap.size, 1, none⟩ = some (.int .i64 10) := HL12.out.cell 1
  have l2_W12 : W12.cell? ⟨w.heap.size, 2, none⟩ = some (.int .i64 20) := HL12.out.cell 2
  have l3_W12 : W12.cell? ⟨w.heap.size, 3, none⟩ = some (.int .i64 30) := HL12.out.cell 3
  go_wp2_with fail
  refine (feed_r _ x V0 (by first | exact V0_inv | exact feed_inv V0_inv _ | exact feed_inv (feed_inv V0_inv _) _ | exact feed_inv (feed_inv (feed_inv V0_inv _) _) _ | exact feed_inv (feed_inv (feed_inv (feed_inv V0_inv _) _) _) _) 31 (by decide) HX12.out 4 (by decide)).mono ?_
  rintro e W13 ⟨rfl, hb, hk⟩
  have HX13 := Lib.hid hb
  have HG13 : Hid (Blk W13 g 42 (wcells (((V0.feed 9).feed 12).feed 13))) := HG12.out.keepS hk (by simp; omega)
  have HL13 := Lib.hid (HL12.out.keepS hk (by simp; omega))
  have K13 : Hid (Keep w.heap.size [] w W13) := K12.out.chain1 (Nat.le_refl _) hk (by omega)
  clear hb hk HG12 HX12 HL12 K12 l0_W12 l1_W12 l2_W12 l3_W12
  have l0_W13 : W13.cell? ⟨w.heap.size, 0, none⟩ = some (.int .i64 0) := HL13.out.cell 0
  have l1_W13 : W13.cell? ⟨w.heap.size, 1, none⟩ = some (.int .i64 10) := HL13.out.cell 1
  have l2_W13 : W13.cell? ⟨w.heap.size, 2, none⟩ = some (.int .i64 20) := HL13.out.cell 2
  have l3_W13 : W13.cell? ⟨w.heap.size, 3, none⟩ = some (.int .i64 30) := HL13.out.cell 3
  go_wp2_with fail
  refine (feed_r _ x (V0.feed 31) (by first | exact V0_inv | exact feed_inv V0_inv _ | exact feed_inv (feed_inv V0_inv _) _ | exact feed_inv (feed_inv (feed_inv V0_inv _) _) _ | exact feed_inv (feed_inv (feed_inv (feed_inv V0_inv _) _) _) _) 28 (by decide) HX13.out 4 (by decide)).mono ?_
  rintro e W14 ⟨rfl, hb, hk⟩
  have HX14 := Lib.hid hb
  have HG14 : Hid (Blk W14 g 42 (wcells (((V0.feed 9).feed 12).feed 13))) := HG13.out.keepS hk (by simp; omega)
  have HL14 := Lib.hid (HL13.out.keepS hk (by simp; omega))
  have K14 : Hid (Keep w.heap.size [] w W14) := K13.out.chain1 (Nat.le_refl _) hk (by omega)
  clear hb hk HG13 HX13 HL13 K13 l0_W13 l1_W13 l2_W13 l3_W13
  have l0_W14 : W14.cell? ⟨w.heap.size, 0, none⟩ = some (.int .i64 0) := HL14.out.cell 0
  have l1_W14 : W14.cell? ⟨w.heap.size, 1, none⟩ = some (.int .i64 10) := HL14.out.cell 1
  have l2_W14 : W14.cell? ⟨w.heap.size, 2, none⟩ = some (.int .i64 20) := HL14.out.cell 2
  have l3_W14 : W14.cell? ⟨w.heap.size, 3, none⟩ = some (.int .i64 30) := HL14.out.cell 3
  go_wp2_with fail
  refine (feed_r _ x ((V0.feed 31).feed 28) (by first | exact V0_inv | exact feed_inv V0_inv _ | exact feed_inv (feed_inv V0_inv _) _ | exact feed_inv (feed_inv (feed_inv V0_inv _) _) _ | exact feed_inv (feed_inv (feed_inv (feed_inv V0_inv _) _) _) _) 27 (by decide) HX14.out 2 (by decide)).mono ?_
  rintro e W15 ⟨rfl, hb, hk⟩
  have HX15 := Lib.hid hb
  have HG15 : Hid (Blk W15 g 42 (wcells (((V0.feed 9).feed 12).feed 13))) := HG14.out.keepS hk (by simp; omega)
  have HL15 := Lib.hid (HL14.out.keepS hk (by simp; omega))
  have K15 : Hid (Keep w.heap.size [] w W15) := K14.out.chain1 (Nat.le_refl _) hk (by omega)
  clear hb hk HG14 HX14 HL14 K14 l0_W14 l1_W14 l2_W14 l3_W14
  have l0_W15 : W15.cell? ⟨w.heap.size, 0, none⟩ = some (.int .i64 0) := HL15.out.cell 0
  have l1_W15 : W15.cell? ⟨w.heap.size, 1, none⟩ = some (.int .i64 10) := HL15.out.cell 1
  have l2_W15 : W15.cell? ⟨w.heap.size, 2, none⟩ = some (.int .i64 20) := HL15.out.cell 2
  have l3_W15 : W15.cell? ⟨w.heap.size, 3, none⟩ = some (.int .i64 30) := HL15.out.cell 3
  go_wp2_with fail
  refine (feed_r _ x (((V0.feed 31).feed 28).feed 27) (by first | exact V0_inv | exact feed_inv V0_inv _ | exact feed_inv (feed_inv V0_inv _) _ | exact feed_inv (feed_inv (feed_inv V0_inv _) _) _ | exact feed_inv (feed_inv (feed_inv (feed_inv V0_inv _) _) _) _) 18 (by decide) HX15.out 2 (by decide)).mono ?_
  rintro e W16 ⟨rfl, hb, hk⟩
  have HX16 := Lib.hid hb
  have HG16 : Hid (Blk W16 g 42 (wcells (((V0.feed 9).feed 12).feed 13))) := HG15.out.keepS hk (by simp; omega)
  have HL16 := Lib.hid (HL15.out.keepS hk (by simp; omega))
  have K16 : Hid (Keep w.heap.size [] w W16) := K15.out.chain1 (Nat.le_refl _) hk (by omega)
  clear hb hk HG15 HX15 HL15 K15 l0_W15 l1_W15 l2_W15 l3_W15
  have l0_W16 : W16.cell? ⟨w.heap.size, 0, none⟩ = some (.int .i64 0) := HL16.out.cell 0
  have l1_W16 : W16.cell? ⟨w.heap.size, 1, none⟩ = some (.int .i64 10) := HL16.out.cell 1
  have l2_W16 : W16.cell? ⟨w.heap.size, 2, none⟩ = some (.int .i64 20) := HL16.out.cell 2
  have l3_W16 : W16.cell? ⟨w.heap.size, 3, none⟩ = some (.int .i64 30) := HL16.out.cell 3
  go_wp2_with fail
  refine (feed_r _ x ((((V0.feed 31).feed 28).feed 27).feed 18) (by first | exact V0_inv | exact feed_inv V0_inv _ | exact feed_inv (feed_inv V0_inv _) _ | exact feed_inv (feed_inv (feed_inv V0_inv _) _) _ | exact feed_inv (feed_inv (feed_inv (feed_inv V0_inv _) _) _) _) 17 (by decide) HX16.out 0 (by decide)).mono ?_
  rintro e W17 ⟨rfl, hb, hk⟩
  have HX17 := Lib.hid hb
  have HG17 : Hid (Blk W17 g 42 (wcells (((V0.feed 9).feed 12).feed 13))) := HG16.out.keepS hk (by simp; omega)
  have HL17 := Lib.hid (HL16.out.keepS hk (by simp; omega))
  have K17 : Hid (Keep w.heap.size [] w W17) := K16.out.chain1 (Nat.le_refl _) hk (by omega)
  clear hb hk HG16 HX16 HL16 K16 l0_W16 l1_W16 l2_W16 l3_W16
  have l0_W17 : W17.cell? ⟨w.heap.size, 0, none⟩ = some (.int .i64 0) := HL17.out.cell 0
  have l1_W17 : W17.cell? ⟨w.heap.size, 1, none⟩ = some (.int .i64 10) := HL17.out.cell 1
  have l2_W17 : W17.cell? ⟨w.heap.size, 2, none⟩ = some (.int .i64 20) := HL17.out.cell 2
  have l3_W17 : W17.cell? ⟨w.heap.size, 3, none⟩ = some (.int .i64 30) := HL17.out.cell 3
  go_wp2_with fail
  refine (count_r _ x (((((V0.feed 31).feed 28).feed 27).feed 18).feed 17) 4 (by decide) HX17.out 2 (by kernel_rfl)).mono ?_
  rintro e w' ⟨rfl, rfl⟩
  go_wp2_with fail
  refine (count_out _ x (((((V0.feed 31).feed 28).feed 27).feed 18).feed 17) 5 (by decide) HX17.out).mono ?_
  rintro e w' ⟨rfl, rfl⟩
  go_wp2_with fail
  refine (valid_v _ L0 true (by decide)).mono ?_
  rintro e W18 ⟨rfl, hw⟩
  have K18 : Hid (Keep w.heap.size [] w W18) := by rw [← hw]; exact K17.out.chain0 (Nat.le_refl _) (keep_a1 _ _)
  clear hw HG17 HX17 HL17 K17 l0_W17 l1_W17 l2_W17 l3_W17
  go_wp2_with fail
  refine (valid_v _ ⟨0, 1, 0, 0⟩ false (by decide)).mono ?_
  rintro e w' ⟨rfl, rfl⟩
  go_wp2_with fail
  go_ret
  exact ⟨rfl, K18.out.chain0 (Nat.le_refl _) (keep_a1 _ _)⟩
end Go.Proofs.Ytmefdiidgnpklaa
