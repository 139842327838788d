/- The reference's Same: of two equal units. -/
import Derived.Test.YtijionfhnoffcaaPDec
namespace Go.Proofs.Ytijionfhnoffcaa
set_option linter.unusedVariables false
set_option linter.unusedSimpArgs false
open Go.RowKit
set_option maxRecDepth 100000 in
set_option maxHeartbeats 4000000 in
theorem rsame_eq (w : World) (p : Pd) (l l' : Lc) (h : PIn w p l) (h' : PIn w p l') :
    Calls Try.prog 18 #[.agg (pcs p l), .agg (pcs p l')] w fun e w' => e = .returned (.bool true) ∧ Keep w.heap.size [] w w' := by
  obtain ⟨W0, hW0⟩ : ∃ W, W = (w.alloc (.cells (pcs p l) TP)).alloc (.cells (pcs p l') TP) := ⟨_, rfl⟩
  have k1 : Keep w.heap.size [] w W0 := by rw [hW0]; exact ((Keep.refl _ _ w).alloc (Nat.le_refl _) _).alloc (by simp) _
  have ha : Blk W0 w.heap.size TP (pcs p l) := by rw [hW0]; exact (Blk.new _ _ _).alloc _
  have hb : Blk W0 (w.heap.size + 1) TP (pcs p l') := by
    rw [hW0]
    have := Blk.new (w.alloc (.cells (pcs p l) TP)) TP (pcs p l')
    simpa using this
  have hv := (h.keep0 k1).vd
  have hv' := (h'.keep0 k1).vd
  have hg := (h.keep0 k1).vg
  have hg' := (h'.keep0 k1).vg
  obtain ⟨n, hn⟩ : ∃ n, n = p.gaps.length := ⟨_, rfl⟩
  obtain ⟨m, hm⟩ : ∃ m, m = p.data.length := ⟨_, rfl⟩
  have e1 : l.gn = n := by rw [h.glen, hn]
  have e2 : l'.gn = n := by rw [h'.glen, hn]
  have e3 : l.dn = m := by rw [h.dlen, hm]
  have e4 : l'.dn = m := by rw [h'.dlen, hm]
  have hn1 : n ≤ 100000 := by have := h.gl; omega
  have cg : n ≤ l.gc ∧ l.gc ≤ maxLen := by have := h.cg; rw [e1] at this; exact this
  have cg' : n ≤ l'.gc ∧ l'.gc ≤ maxLen := by have := h'.cg; rw [e2] at this; exact this
  have cgI : (n : Int) ≤ (l.gc : Int) := by omega
  have cgI' : (n : Int) ≤ (l'.gc : Int) := by omega
  have cgM : (l.gc : Int) ≤ 9223372036854775807 := by have := cg.2; unfold maxLen at this; omega
  have cgM' : (l'.gc : Int) ≤ 9223372036854775807 := by have := cg'.2; unfold maxLen at this; omega
  unfold pcs at ha hb
  rw [e1, e3] at ha
  rw [e2, e4] at hb
  rw [e1] at hg
  rw [e2] at hg'
  rw [e3] at hv
  rw [e4] at hv'
  have HV := Lib.hid hv
  have HV' := Lib.hid hv'
  have HG := Lib.hid hg
  have HG' := Lib.hid hg'
  have HN := Lib.hid hn
  have K0 := Lib.hid k1
  obtain ⟨A, hA⟩ : ∃ A, A = w.heap.size := ⟨_, rfl⟩
  obtain ⟨B, hB⟩ : ∃ B, B = A + 1 := ⟨_, rfl⟩
  rw [← hA] at ha
  rw [← hA, ← hB] at hb
  have BA := Lib.hid ha
  have BB := Lib.hid hb
  have hc1 := conv_str (P := Try.prog) (w := W0) 24 9 5 Try.underlying24 Try.underlying5 Try.underlying9 l.D m l.dc p.data HV.out
  have hc2 := conv_str (P := Try.prog) (w := W0) 24 9 5 Try.underlying24 Try.underlying5 Try.underlying9 l'.D m l'.dc p.data HV'.out
  clear hn hm hv hv' hg hg' k1 ha hb h h' e1 e2 e3 e4
  go_enter Try.func18, Try.ntmps18
  go_upto_region 1 with fail
  change Code.wp _ _ _ _ ((w.alloc (.cells (pcs p l) TP)).alloc (.cells (pcs p l') TP))
  rw [← hW0, ← hA, ← hB]
  clear hW0 hA hB
  have a0 : W0.cell? ⟨A, 0, none⟩ = some (.int .i64 p.kind) := BA.out.cell 0
  have a1 : W0.cell? ⟨A, 1, none⟩ = some (.int .i64 p.src) := BA.out.cell 1
  have a2 : W0.cell? ⟨A, 2, none⟩ = some (.int .i64 p.num) := BA.out.cell 2
  have a3 : W0.cell? ⟨A, 3, none⟩ = some (.int .i64 p.cls) := BA.out.cell 3
  have a4 : W0.cell? ⟨A, 4, none⟩ = some (.string (strOfNums p.name)) := BA.out.cell 4
  have a5 : W0.cell? ⟨A, 5, none⟩ = some (.int .i64 p.size) := BA.out.cell 5
  have a6 : W0.cell? ⟨A, 6, none⟩ = some (.int .i64 p.off) := BA.out.cell 6
  have a7 : W0.cell? ⟨A, 7, none⟩ = some (.slice l.D m l.dc) := BA.out.cell 7
  have a8 : W0.cell? ⟨A, 8, none⟩ = some (.int .u32 p.sum) := BA.out.cell 8
  have a9 : W0.cell? ⟨A, 9, none⟩ = some (.int .i64 p.code) := BA.out.cell 9
  have a10 : W0.cell? ⟨A, 10, none⟩ = some (.slice l.G n l.gc) := BA.out.cell 10
  have b0 : W0.cell? ⟨B, 0, none⟩ = some (.int .i64 p.kind) := BB.out.cell 0
  have b1 : W0.cell? ⟨B, 1, none⟩ = some (.int .i64 p.src) := BB.out.cell 1
  have b2 : W0.cell? ⟨B, 2, none⟩ = some (.int .i64 p.num) := BB.out.cell 2
  have b3 : W0.cell? ⟨B, 3, none⟩ = some (.int .i64 p.cls) := BB.out.cell 3
  have b4 : W0.cell? ⟨B, 4, none⟩ = some (.string (strOfNums p.name)) := BB.out.cell 4
  have b5 : W0.cell? ⟨B, 5, none⟩ = some (.int .i64 p.size) := BB.out.cell 5
  have b6 : W0.cell? ⟨B, 6, none⟩ = some (.int .i64 p.off) := BB.out.cell 6
  have b7 : W0.cell? ⟨B, 7, none⟩ = some (.slice l'.D m l'.dc) := BB.out.cell 7
  have b8 : W0.cell? ⟨B, 8, none⟩ = some (.int .u32 p.sum) := BB.out.cell 8
  have b9 : W0.cell? ⟨B, 9, none⟩ = some (.int .i64 p.code) := BB.out.cell 9
  have b10 : W0.cell? ⟨B, 10, none⟩ = some (.slice l'.G n l'.gc) := BB.out.cell 10
  go_wp2_with fail
  clear hc1 hc2 a0 a1 a2 a3 a4 a5 a6 a7 a8 a9 a10 b0 b1 b2 b3 b4 b5 b6 b7 b8 b9 b10
  go_loopw [5] (fun i wr => ∃ k : Nat, k ≤ n ∧ i = .int .i64 k ∧ Keep W0.heap.size [] W0 wr) (fun i _ => n - (intOf i).toNat)
  case atStart => exact ⟨0, Nat.zero_le _, rfl, Keep.refl _ _ _⟩
  case round =>
    obtain ⟨k, hk, rfl, hkw⟩ := hrel
    have KW := Lib.hid hkw
    clear hkw
    have a10 : wr.cell? ⟨A, 10, none⟩ = some (.slice l.G n l.gc) := (BA.out.keepS KW.out (by simp)).cell 10
    have b10 : wr.cell? ⟨B, 10, none⟩ = some (.slice l'.G n l'.gc) := (BB.out.keepS KW.out (by simp)).cell 10
    by_cases hlt : k < n
    · have hkx : (k : Int) < (n : Int) := by omega
      obtain ⟨x1, o1, y, hG1, hy1, c0, c1⟩ := gap_at (HG.out.keep0 KW.out) hlt
      obtain ⟨x2, o2, y2, hG2, hy2, d0, d1⟩ := gap_at (HG'.out.keep0 KW.out) hlt
      rw [hy1] at hy2
      cases hy2
      rw [hG1] at a10
      rw [hG2] at b10
      clear hy1 hG1 hG2
      go_wp2_with fail
      go_quiet (fail)
      go_wp2_with fail
      go_roundw
      case rel => exact ⟨k + 1, by omega, by go_num, KW.out.drewN _⟩
      case measure => simp [intOf] <;> omega
    · obtain rfl : k = n := by omega
      go_wp2_with fail
      go_ret
      exact ⟨rfl, K0.out.chain0 (Nat.le_refl _) KW.out⟩
end Go.Proofs.Ytijionfhnoffcaa
