/- Encode, the program's and the reference's, of any unit. -/
import Derived.Test.YtijionfhnoffcaaPEncPM
import Derived.Test.YtijionfhnoffcaaPEncRM
import Derived.Deep.DeepCutAuto
namespace Go.Proofs.Ytijionfhnoffcaa
set_option linter.unusedVariables false
set_option linter.unusedSimpArgs false
open Go.RowKit
theorem AV.nil {w W : World} (k : Keep w.heap.size [] w W) : AV w W none 0 0 [] := ⟨Sl.nil _ _ _, k, by simp [blks]⟩
set_option maxRecDepth 100000 in
set_option maxHeartbeats 4000000 in
theorem penc_no (w : World) (p : Pd) (l : Lc) (hp : PIn w p l) (hv : validP p = false) : Calls Try.prog 10 #[.agg (pcs p l)] w (EncPost w [] 1) := by
  have k1 : Keep w.heap.size [] w (w.alloc (.cells (pcs p l) TP)) := (Keep.refl _ _ w).alloc (Nat.le_refl _) _
  have hb := Blk.new w TP (pcs p l)
  have P0 := Lib.hid (hp.keep0 k1)
  have HVL := Lib.hid hv
  clear hp hv
  obtain ⟨W0, hW0⟩ : ∃ W0, W0 = w.alloc (.cells (pcs p l) TP) := ⟨_, rfl⟩
  have B0 : Hid (Blk W0 w.heap.size TP (pcs p l)) := Lib.hid (by rw [hW0]; exact hb)
  rw [← hW0] at P0 k1
  have K0 := Lib.hid k1
  clear hb k1
  go_enter Try.func10, Try.ntmps10
  go_upto_region 1 with fail
  change Code.wp _ _ _ _ (w.alloc (.cells (pcs p l) TP))
  rw [← hW0]
  clear hW0
  obtain ⟨g, hg⟩ : ∃ g, g = w.heap.size := ⟨_, rfl⟩
  rw [← hg] at B0 ⊢
  clear hg
  have c0 : W0.cell? ⟨g, 0, none⟩ = some (.int .i64 p.kind) := (B0.out).cell 0
  have c1 : W0.cell? ⟨g, 1, none⟩ = some (.int .i64 p.src) := (B0.out).cell 1
  have c2 : W0.cell? ⟨g, 2, none⟩ = some (.int .i64 p.num) := (B0.out).cell 2
  have c3 : W0.cell? ⟨g, 3, none⟩ = some (.int .i64 p.cls) := (B0.out).cell 3
  have c4 : W0.cell? ⟨g, 4, none⟩ = some (.string (strOfNums p.name)) := (B0.out).cell 4
  have c5 : W0.cell? ⟨g, 5, none⟩ = some (.int .i64 p.size) := (B0.out).cell 5
  have c6 : W0.cell? ⟨g, 6, none⟩ = some (.int .i64 p.off) := (B0.out).cell 6
  have c7 : W0.cell? ⟨g, 7, none⟩ = some (.slice l.D l.dn l.dc) := (B0.out).cell 7
  have c8 : W0.cell? ⟨g, 8, none⟩ = some (.int .u32 p.sum) := (B0.out).cell 8
  have c9 : W0.cell? ⟨g, 9, none⟩ = some (.int .i64 p.code) := (B0.out).cell 9
  have c10 : W0.cell? ⟨g, 10, none⟩ = some (.slice l.G l.gn l.gc) := (B0.out).cell 10
  go_wp2_with fail
  refine (pvalid_b _ p l false P0.out HVL.out).mono ?_
  rintro e w1 ⟨rfl, hk1⟩
  have K1 := Lib.hid hk1
  clear hk1 c0 c1 c2 c3 c4 c5 c6 c7 c8 c9 c10
  go_wp2_with fail
  go_ret2
  exact EncPost.from K0.out ⟨_, _, _, rfl, AV.nil K1.out⟩
theorem penc_any (w : World) (p : Pd) (l : Lc) (hp : PIn w p l) : Calls Try.prog 10 #[.agg (pcs p l)] w (EncPost w (encR p).1 (encR p).2) := by
  unfold encR
  cases hv : validP p with
  | false => exact penc_no w p l hp hv
  | true =>
    have hk := (valid_head hv).1
    rcases (by omega : p.kind = 1 ∨ p.kind = 2 ∨ p.kind = 3 ∨ p.kind = 4 ∨ p.kind = 5 ∨ 5 < p.kind) with h | h | h | h | h | h
    · exact penc_1 w p l hp h hv
    · exact penc_2 w p l hp h hv
    · exact penc_3 w p l hp h hv
    · exact penc_4 w p l hp h hv
    · exact penc_5 w p l hp h hv
    · exact penc_0 w p l hp h hv
set_option maxRecDepth 100000 in
set_option maxHeartbeats 4000000 in
theorem renc_no (w : World) (p : Pd) (l : Lc) (hp : PIn w p l) (hv : validP p = false) : Calls Try.prog 11 #[.agg (pcs p l)] w (EncPost w [] 1) := by
  have k1 : Keep w.heap.size [] w (w.alloc (.cells (pcs p l) TP)) := (Keep.refl _ _ w).alloc (Nat.le_refl _) _
  have hb := Blk.new w TP (pcs p l)
  have P0 := Lib.hid (hp.keep0 k1)
  have HVL := Lib.hid hv
  clear hp hv
  obtain ⟨W0, hW0⟩ : ∃ W0, W0 = w.alloc (.cells (pcs p l) TP) := ⟨_, rfl⟩
  have B0 : Hid (Blk W0 w.heap.size TP (pcs p l)) := Lib.hid (by rw [hW0]; exact hb)
  rw [← hW0] at P0 k1
  have K0 := Lib.hid k1
  clear hb k1
  go_enter Try.func11, Try.ntmps11
  go_upto_region 1 with fail
  change Code.wp _ _ _ _ (w.alloc (.cells (pcs p l) TP))
  rw [← hW0]
  clear hW0
  obtain ⟨g, hg⟩ : ∃ g, g = w.heap.size := ⟨_, rfl⟩
  rw [← hg] at B0 ⊢
  clear hg
  have c0 : W0.cell? ⟨g, 0, none⟩ = some (.int .i64 p.kind) := (B0.out).cell 0
  have c1 : W0.cell? ⟨g, 1, none⟩ = some (.int .i64 p.src) := (B0.out).cell 1
  have c2 : W0.cell? ⟨g, 2, none⟩ = some (.int .i64 p.num) := (B0.out).cell 2
  have c3 : W0.cell? ⟨g, 3, none⟩ = some (.int .i64 p.cls) := (B0.out).cell 3
  have c4 : W0.cell? ⟨g, 4, none⟩ = some (.string (strOfNums p.name)) := (B0.out).cell 4
  have c5 : W0.cell? ⟨g, 5, none⟩ = some (.int .i64 p.size) := (B0.out).cell 5
  have c6 : W0.cell? ⟨g, 6, none⟩ = some (.int .i64 p.off) := (B0.out).cell 6
  have c7 : W0.cell? ⟨g, 7, none⟩ = some (.slice l.D l.dn l.dc) := (B0.out).cell 7
  have c8 : W0.cell? ⟨g, 8, none⟩ = some (.int .u32 p.sum) := (B0.out).cell 8
  have c9 : W0.cell? ⟨g, 9, none⟩ = some (.int .i64 p.code) := (B0.out).cell 9
  have c10 : W0.cell? ⟨g, 10, none⟩ = some (.slice l.G l.gn l.gc) := (B0.out).cell 10
  go_wp2_with fail
  refine (rvalid_b _ p l false P0.out HVL.out).mono ?_
  rintro e w1 ⟨rfl, hk1⟩
  have K1 := Lib.hid hk1
  clear hk1 c0 c1 c2 c3 c4 c5 c6 c7 c8 c9 c10
  go_wp2_with fail
  go_ret2
  exact EncPost.from K0.out ⟨_, _, _, rfl, AV.nil K1.out⟩
theorem renc_any (w : World) (p : Pd) (l : Lc) (hp : PIn w p l) : Calls Try.prog 11 #[.agg (pcs p l)] w (EncPost w (encR p).1 (encR p).2) := by
  unfold encR
  cases hv : validP p with
  | false => exact renc_no w p l hp hv
  | true =>
    have hk := (valid_head hv).1
    rcases (by omega : p.kind = 1 ∨ p.kind = 2 ∨ p.kind = 3 ∨ p.kind = 4 ∨ p.kind = 5 ∨ 5 < p.kind) with h | h | h | h | h | h
    · exact renc_1 w p l hp h hv
    · exact renc_2 w p l hp h hv
    · exact renc_3 w p l hp h hv
    · exact renc_4 w p l hp h hv
    · exact renc_5 w p l hp h hv
    · exact renc_0 w p l hp h hv
end Go.Proofs.Ytijionfhnoffcaa
