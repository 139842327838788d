/- The arguments of the laws; small. -/
import Derived.Test.YtijionfhnoffcaaPLive
namespace Go.Proofs.Ytijionfhnoffcaa
set_option linter.unusedVariables false
set_option linter.unusedSimpArgs false
open Go.RowKit
/-- a unit as an argument, of any size -/
structure PArg (w : World) (p : Pd) (l : Lc) : Prop where
  on : Oct p.name
  od : Oct p.data
  vd : Vw w l.D l.dn 1 (octs p.data)
  vg : Vw w l.G l.gn 2 (p.gaps.flatMap gcells)
  cd : l.dn ≤ l.dc ∧ l.dc ≤ maxLen
  cg : l.gn ≤ l.gc ∧ l.gc ≤ maxLen
  nm : p.name.length ≤ maxLen
  sm : 0 ≤ p.sum ∧ p.sum < 4294967296
def smallB (p : Pd) (l : Lc) : Bool := decide (p.name.length ≤ 300) && decide (l.dn ≤ 2000) && decide (l.gn ≤ 100)
theorem PArg.pin {w : World} {p : Pd} {l : Lc} (h : PArg w p l) (hs : smallB p l = true) : PIn w p l := by
  unfold smallB at hs
  simp only [Bool.and_eq_true, decide_eq_true_eq] at hs
  exact ⟨h.on, h.od, h.vd, h.vg, h.cd, h.cg, by omega, by omega, by omega, h.sm⟩
set_option maxRecDepth 100000 in
set_option maxHeartbeats 8000000 in
theorem small_b (w : World) (p : Pd) (l : Lc) (v : Bool) (h : PArg w p l) (hv : smallB p l = v) : Calls Try.prog 8 #[.agg (pcs p l)] w fun e w' => e = .returned (.bool v) ∧ Keep w.heap.size [] w w' := by
  obtain ⟨W0, hW0⟩ : ∃ W, W = w.alloc (.cells (pcs p l) TP) := ⟨_, rfl⟩
  have k1 : Keep w.heap.size [] w W0 := by rw [hW0]; exact (Keep.refl _ _ w).alloc (Nat.le_refl _) _
  have hA : Blk W0 w.heap.size TP (pcs p l) := by rw [hW0]; exact Blk.new _ _ _
  have KA := Lib.hid hA
  have K0 := Lib.hid k1
  have h1 : (l.dn : Int) ≤ 9223372036854775807 := by have := h.cd; unfold maxLen at this; omega
  have h2 : (l.gn : Int) ≤ 9223372036854775807 := by have := h.cg; unfold maxLen at this; omega
  have h3 := h.nm
  have hsz := strOfNums_size p.name
  obtain ⟨s, hs⟩ : ∃ s, strOfNums p.name = s := ⟨_, rfl⟩
  obtain ⟨m, hm⟩ : ∃ m, p.name.length = m := ⟨_, rfl⟩
  rw [hm] at hsz h3
  have h3i : (m : Int) ≤ 9223372036854775807 := by unfold maxLen at h3; omega
  unfold smallB at hv
  rw [hm] at hv
  have HV := Lib.hid hv
  rw [hs] at hsz
  have HS := Lib.hid hs
  clear h hv hA k1 hm hs
  go_enter Try.func8, Try.ntmps8
  go_upto_region 1 with fail
  change Code.wp _ _ _ _ (w.alloc (.cells (pcs p l) TP))
  rw [← hW0]
  obtain ⟨A, hAq⟩ : ∃ A, A = w.heap.size := ⟨_, rfl⟩
  rw [← hAq] at KA ⊢
  clear hW0 hAq
  have c3 : W0.cell? ⟨A, 4, none⟩ = some (.string s) := by rw [← HS.out]; exact KA.out.cell 4
  have c6 : W0.cell? ⟨A, 7, none⟩ = some (.slice l.D l.dn l.dc) := KA.out.cell 7
  have c9 : W0.cell? ⟨A, 10, none⟩ = some (.slice l.G l.gn l.gc) := KA.out.cell 10
  by_cases q1 : m ≤ 300
  · by_cases q2 : l.dn ≤ 2000
    · by_cases q3 : l.gn ≤ 100
      · have e : v = true := by rw [← HV.out]; simp [q1, q2, q3]
        subst e
        have i1 : (m : Int) ≤ 300 := by omega
        have i2 : (l.dn : Int) ≤ 2000 := by omega
        have i3 : (l.gn : Int) ≤ 100 := by omega
        go_wp2_with fail
        go_ret
        exact ⟨rfl, K0.out⟩
      · have e : v = false := by rw [← HV.out]; simp [q3]
        subst e
        have i1 : (m : Int) ≤ 300 := by omega
        have i2 : (l.dn : Int) ≤ 2000 := by omega
        have i3 : ¬ (l.gn : Int) ≤ 100 := by omega
        go_wp2_with fail
        go_ret
        exact ⟨rfl, K0.out⟩
    · have e : v = false := by rw [← HV.out]; simp [q2]
      subst e
      have i1 : (m : Int) ≤ 300 := by omega
      have i2 : ¬ (l.dn : Int) ≤ 2000 := by omega
      go_wp2_with fail
      go_ret
      exact ⟨rfl, K0.out⟩
  · have e : v = false := by rw [← HV.out]; simp [q1]
    subst e
    have i1 : ¬ (m : Int) ≤ 300 := by omega
    go_wp2_with fail
    go_ret
    exact ⟨rfl, K0.out⟩
end Go.Proofs.Ytijionfhnoffcaa
