/- The vault: read, of a copy that is not there. -/
import Derived.Test.YtfkbcflgbjncdaaVauD
namespace Go.Proofs.Ytfkbcflgbjncdaa
set_option linter.unusedVariables false
set_option linter.unusedSimpArgs false
open Go.RowKit
theorem VB.keepS {w w' : World} {v g : Nat} {S : List Nat} (h : VB w v g) (k : Keep w.heap.size S w w') (hv : v ∉ S) : VB w' v g := Blk.keepS h k hv
set_option maxRecDepth 100000 in
set_option maxHeartbeats 4000000 in
theorem read_zero (w : World) (v g a : Nat) (cl : Bool) (D C : List Nat) (i : Nat) (hb : VB w v g) (h : MemC w g a cl D C) (hl : D.length = 400) (hi : i < 2) (hz : D[200 * i]? = some 0) (hvg : v ∉ [g, a]) :
    Calls Try.prog 120 #[bptr v, .int .i64 (i : Int)] w fun e w' => e = .returned (.tuple #[.int .i64 0, .slice none 0 0]) ∧ ∃ C', MemC w' g a cl D C' ∧ Keep w.heap.size [g, a] w w' := by
  have h0 : w.cell? ⟨v, 0, none⟩ = some (bptr g) := hb.cell 0
  have h1 : w.cell? ⟨v, 1, none⟩ = some (.int .i64 0) := hb.cell 1
  have h2 : w.cell? ⟨v, 2, none⟩ = some (.int .i64 200) := hb.cell 2
  obtain ⟨n, hn⟩ : ∃ n, D[200 * i + 1]? = some n := ⟨_, List.getElem?_eq_getElem (by omega)⟩
  obtain ⟨J, hJ⟩ : ∃ J, J = 200 * i := ⟨_, rfl⟩
  rw [← hJ] at hz hn
  have e1 : (i : Int) * 200 = (J : Int) := by omega
  have e2 : (J : Int) + 1 = ((J + 1 : Nat) : Int) := by omega
  obtain ⟨J1, hJ1⟩ : ∃ J1, J1 = J + 1 := ⟨_, rfl⟩
  rw [← hJ1] at hn e2
  have HB := Lib.hid hb
  have HH := Lib.hid h
  have HZ := Lib.hid hz
  have HN := Lib.hid hn
  clear hb h hz hn hJ hJ1 hl
  go_enter Try.func120, Try.ntmps120
  go_wp2_with fail
  go_quiet (fail)
  go_wp2_with fail
  have M0 := Lib.hid (HH.out.keepS (S := []) ((Keep.refl _ _ w).drewN nq) (by simp) (by simp))
  refine (read_m _ g a cl D C J 0 M0.out HZ.out).mono ?_
  rw [show ((0 : Nat) : Int) = 0 from rfl]
  rintro e W1 ⟨rfl, C1, hm1, hk1⟩
  have M1 := Lib.hid hm1
  have K1 : Hid (Keep w.heap.size [g, a] w W1) := Lib.hid (by exact (Keep.refl _ _ _).trans (hk1.undrewN))
  have B1 := Lib.hid (HB.out.keepS K1.out hvg)
  have y0 : W1.cell? ⟨v, 0, none⟩ = some (bptr g) := B1.out.cell 0
  clear hm1 hk1 h0 h1 h2
  go_wp2_with fail
  refine (read_m _ g a cl D C1 J1 n M1.out HN.out).mono ?_
  rintro e W2 ⟨rfl, C2, hm2, hk2⟩
  have M2 := Lib.hid hm2
  have K2 := Lib.hid hk2
  clear hm2 hk2 y0
  go_wp2_with fail
  go_ret2
  exact ⟨rfl, C2, M2.out, K1.out.trans (K2.out.mono K1.out.size (fun _ _ hx => hx))⟩
end Go.Proofs.Ytfkbcflgbjncdaa
