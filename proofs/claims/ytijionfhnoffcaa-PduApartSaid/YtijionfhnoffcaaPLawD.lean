/- PduDecodes, PduOnce. -/
import Derived.Test.YtijionfhnoffcaaPLawA
import Derived.Deep.DeepCutAuto
namespace Go.Proofs.Ytijionfhnoffcaa
set_option linter.unusedVariables false
set_option linter.unusedSimpArgs false
open Go.RowKit
set_option maxRecDepth 100000 in
set_option maxHeartbeats 8000000 in
theorem pdudecodes_any (w : World) (X : Option Addr) (n c : Nat) (L : List Int) (hO : Oct L) (hnc : n ≤ c) (hcm : c ≤ maxLen) (hv : Vw w X n 1 (octs L)) : Calls Try.prog 4 #[.slice X n c] w fun e w' => e = .returned (.bool true) ∧ Keep w.heap.size [] w w' := by
  have hnl : n = L.length := by have := hv.1; simp [octs] at this; omega
  have hcI : (n : Int) ≤ (c : Int) := by omega
  have hcM : (c : Int) ≤ 9223372036854775807 := by unfold maxLen at hcm; omega
  have HV := Lib.hid hv
  have HO := Lib.hid hO
  have HNL := Lib.hid hnl
  clear hv hO hnl
  go_enter Try.func4, Try.ntmps4
  by_cases hn : 2000 < n
  · have hni : (2000 : Int) < (n : Int) := by omega
    go_wp2_with fail
    refine (lives_any _).mono ?_
    rintro e wl ⟨rfl, hkl⟩
    have KL := Lib.hid hkl
    clear hkl
    go_wp2_with fail
    go_ret
    exact ⟨rfl, (Keep.refl _ _ _).chain0 (Nat.le_refl _) KL.out⟩
  have hni : ¬ (2000 : Int) < (n : Int) := by omega
  have hl1 : L.length ≤ 100000 := by have := HNL.out; omega
  go_wp2_with fail
  refine (pdec_any _ X n c L HO.out hl1 HV.out).mono ?_
  obtain ⟨q, z, hq⟩ : ∃ q z, decR (decP L) = (q, z) := ⟨_, _, rfl⟩
  have HQ := Lib.hid hq
  clear hq
  rw [HQ.out]
  rintro e W1 ⟨h1, l1, rfl, p1, _, _⟩
  have K1 := Lib.hid h1
  have P1 := Lib.hid p1
  clear h1 p1
  simp only [pcs]
  go_upto_region 4 with fail
  change Code.wp _ _ _ _ (W1.alloc (.cells (pcs q l1) TP))
  obtain ⟨W2, hW2⟩ : ∃ W, W = W1.alloc (.cells (pcs q l1) TP) := ⟨_, rfl⟩
  obtain ⟨U, hU⟩ : ∃ C, C = W1.heap.size := ⟨_, rfl⟩
  have BU : Hid (Blk W2 U TP (pcs q l1)) := Lib.hid (by rw [hW2, hU]; exact Blk.new _ _ _)
  have KW2 : Hid (Keep W1.heap.size [] W1 W2) := Lib.hid (by rw [hW2]; exact (Keep.refl _ _ _).alloc (Nat.le_refl _) _)
  rw [← hW2, ← hU]
  clear hW2 hU
  go_wp2_with fail
  refine (rdec_any _ X n c L HO.out hl1 hnc hcm ((HV.out.keep0 K1.out).keep0 KW2.out)).mono ?_
  rw [HQ.out]
  rintro e W3 ⟨h3, l3, rfl, p3, _, _⟩
  have K3 := Lib.hid h3
  have P3 := Lib.hid p3
  clear h3 p3
  simp only [pcs]
  go_upto_region 5 with fail
  change Code.wp _ _ _ _ (W3.alloc (.cells (pcs q l3) TP))
  obtain ⟨W4, hW4⟩ : ∃ W, W = W3.alloc (.cells (pcs q l3) TP) := ⟨_, rfl⟩
  obtain ⟨V, hV⟩ : ∃ C, C = W3.heap.size := ⟨_, rfl⟩
  have BV : Hid (Blk W4 V TP (pcs q l3)) := Lib.hid (by rw [hW4, hV]; exact Blk.new _ _ _)
  have KW4 : Hid (Keep W3.heap.size [] W3 W4) := Lib.hid (by rw [hW4]; exact (Keep.refl _ _ _).alloc (Nat.le_refl _) _)
  rw [← hW4, ← hV]
  clear hW4 hV
  have c0 : W4.cell? ⟨U, 0, none⟩ = some (.int .i64 q.kind) := ((BU.out.keepS K3.out (by simp)).keepS KW4.out (by simp)).cell 0
  have c1 : W4.cell? ⟨U, 1, none⟩ = some (.int .i64 q.src) := ((BU.out.keepS K3.out (by simp)).keepS KW4.out (by simp)).cell 1
  have c2 : W4.cell? ⟨U, 2, none⟩ = some (.int .i64 q.num) := ((BU.out.keepS K3.out (by simp)).keepS KW4.out (by simp)).cell 2
  have c3 : W4.cell? ⟨U, 3, none⟩ = some (.int .i64 q.cls) := ((BU.out.keepS K3.out (by simp)).keepS KW4.out (by simp)).cell 3
  have c4 : W4.cell? ⟨U, 4, none⟩ = some (.string (strOfNums q.name)) := ((BU.out.keepS K3.out (by simp)).keepS KW4.out (by simp)).cell 4
  have c5 : W4.cell? ⟨U, 5, none⟩ = some (.int .i64 q.size) := ((BU.out.keepS K3.out (by simp)).keepS KW4.out (by simp)).cell 5
  have c6 : W4.cell? ⟨U, 6, none⟩ = some (.int .i64 q.off) := ((BU.out.keepS K3.out (by simp)).keepS KW4.out (by simp)).cell 6
  have c7 : W4.cell? ⟨U, 7, none⟩ = some (.slice l1.D l1.dn l1.dc) := ((BU.out.keepS K3.out (by simp)).keepS KW4.out (by simp)).cell 7
  have c8 : W4.cell? ⟨U, 8, none⟩ = some (.int .u32 q.sum) := ((BU.out.keepS K3.out (by simp)).keepS KW4.out (by simp)).cell 8
  have c9 : W4.cell? ⟨U, 9, none⟩ = some (.int .i64 q.code) := ((BU.out.keepS K3.out (by simp)).keepS KW4.out (by simp)).cell 9
  have c10 : W4.cell? ⟨U, 10, none⟩ = some (.slice l1.G l1.gn l1.gc) := ((BU.out.keepS K3.out (by simp)).keepS KW4.out (by simp)).cell 10
  have d0 : W4.cell? ⟨V, 0, none⟩ = some (.int .i64 q.kind) := BV.out.cell 0
  have d1 : W4.cell? ⟨V, 1, none⟩ = some (.int .i64 q.src) := BV.out.cell 1
  have d2 : W4.cell? ⟨V, 2, none⟩ = some (.int .i64 q.num) := BV.out.cell 2
  have d3 : W4.cell? ⟨V, 3, none⟩ = some (.int .i64 q.cls) := BV.out.cell 3
  have d4 : W4.cell? ⟨V, 4, none⟩ = some (.string (strOfNums q.name)) := BV.out.cell 4
  have d5 : W4.cell? ⟨V, 5, none⟩ = some (.int .i64 q.size) := BV.out.cell 5
  have d6 : W4.cell? ⟨V, 6, none⟩ = some (.int .i64 q.off) := BV.out.cell 6
  have d7 : W4.cell? ⟨V, 7, none⟩ = some (.slice l3.D l3.dn l3.dc) := BV.out.cell 7
  have d8 : W4.cell? ⟨V, 8, none⟩ = some (.int .u32 q.sum) := BV.out.cell 8
  have d9 : W4.cell? ⟨V, 9, none⟩ = some (.int .i64 q.code) := BV.out.cell 9
  have d10 : W4.cell? ⟨V, 10, none⟩ = some (.slice l3.G l3.gn l3.gc) := BV.out.cell 10
  go_wp2_with fail
  refine (rsame_eq _ q l1 l3 (((P1.out.keep0 KW2.out).keep0 K3.out).keep0 KW4.out) (P3.out.keep0 KW4.out)).mono ?_
  rintro e W5 ⟨rfl, h5⟩
  have K5 := Lib.hid h5
  clear h5 c0 c1 c2 c3 c4 c5 c6 c7 c8 c9 c10 d0 d1 d2 d3 d4 d5 d6 d7 d8 d9 d10
  go_wp2_with fail
  refine (lives_any _).mono ?_
  rintro e wl ⟨rfl, hkl⟩
  have KL := Lib.hid hkl
  clear hkl
  go_wp2_with fail
  go_ret
  exact ⟨rfl, ((((K1.out.chain0 (Nat.le_refl _) KW2.out).chain0 (Nat.le_refl _) K3.out).chain0 (Nat.le_refl _) KW4.out).chain0 (Nat.le_refl _) K5.out).chain0 (Nat.le_refl _) KL.out⟩
set_option maxRecDepth 100000 in
set_option maxHeartbeats 8000000 in
theorem pduonce_any (w : World) (X : Option Addr) (n c : Nat) (L : List Int) (hO : Oct L) (hnc : n ≤ c) (hcm : c ≤ maxLen) (hv : Vw w X n 1 (octs L)) : Calls Try.prog 6 #[.slice X n c] w fun e w' => e = .returned (.bool true) ∧ Keep w.heap.size [] w w' := by
  have hnl : n = L.length := by have := hv.1; simp [octs] at this; omega
  have hcI : (n : Int) ≤ (c : Int) := by omega
  have hcM : (c : Int) ≤ 9223372036854775807 := by unfold maxLen at hcm; omega
  have HV := Lib.hid hv
  have HO := Lib.hid hO
  have HNL := Lib.hid hnl
  clear hv hO hnl
  go_enter Try.func6, Try.ntmps6
  by_cases hn : 2000 < n
  · have hni : (2000 : Int) < (n : Int) := by omega
    go_wp2_with fail
    refine (lives_any _).mono ?_
    rintro e wl ⟨rfl, hkl⟩
    have KL := Lib.hid hkl
    clear hkl
    go_wp2_with fail
    go_ret
    exact ⟨rfl, (Keep.refl _ _ _).chain0 (Nat.le_refl _) KL.out⟩
  have hni : ¬ (2000 : Int) < (n : Int) := by omega
  have hl1 : L.length ≤ 100000 := by have := HNL.out; omega
  go_wp2_with fail
  refine (pdec_any _ X n c L HO.out hl1 HV.out).mono ?_
  cases hd : decP L with
  | none =>
    rintro e W1 ⟨h1, l1, rfl, p1, _, _⟩
    have K1 := Lib.hid h1
    have P1 := Lib.hid p1
    clear h1 p1
    simp only [decR, pcs]
    go_upto_region 4 with fail
    change Code.wp _ _ _ _ (W1.alloc (.cells (pcs zP l1) TP))
    obtain ⟨W2, hW2⟩ : ∃ W, W = W1.alloc (.cells (pcs zP l1) TP) := ⟨_, rfl⟩
    obtain ⟨U, hU⟩ : ∃ C, C = W1.heap.size := ⟨_, rfl⟩
    have BU : Hid (Blk W2 U TP (pcs zP l1)) := Lib.hid (by rw [hW2, hU]; exact Blk.new _ _ _)
    have KW2 : Hid (Keep W1.heap.size [] W1 W2) := Lib.hid (by rw [hW2]; exact (Keep.refl _ _ _).alloc (Nat.le_refl _) _)
    rw [← hW2, ← hU]
    clear hW2 hU
    have c0 : W2.cell? ⟨U, 0, none⟩ = some (.int .i64 zP.kind) := BU.out.cell 0
    have c1 : W2.cell? ⟨U, 1, none⟩ = some (.int .i64 zP.src) := BU.out.cell 1
    have c2 : W2.cell? ⟨U, 2, none⟩ = some (.int .i64 zP.num) := BU.out.cell 2
    have c3 : W2.cell? ⟨U, 3, none⟩ = some (.int .i64 zP.cls) := BU.out.cell 3
    have c4 : W2.cell? ⟨U, 4, none⟩ = some (.string (strOfNums zP.name)) := BU.out.cell 4
    have c5 : W2.cell? ⟨U, 5, none⟩ = some (.int .i64 zP.size) := BU.out.cell 5
    have c6 : W2.cell? ⟨U, 6, none⟩ = some (.int .i64 zP.off) := BU.out.cell 6
    have c7 : W2.cell? ⟨U, 7, none⟩ = some (.slice l1.D l1.dn l1.dc) := BU.out.cell 7
    have c8 : W2.cell? ⟨U, 8, none⟩ = some (.int .u32 zP.sum) := BU.out.cell 8
    have c9 : W2.cell? ⟨U, 9, none⟩ = some (.int .i64 zP.code) := BU.out.cell 9
    have c10 : W2.cell? ⟨U, 10, none⟩ = some (.slice l1.G l1.gn l1.gc) := BU.out.cell 10
    go_wp2_with fail
    refine (rsame_eq _ zP l1 zL (P1.out.keep0 KW2.out) (zin _ 0 0 0)).mono ?_
    rintro e W5 ⟨rfl, h5⟩
    have K5 := Lib.hid h5
    clear h5 c0 c1 c2 c3 c4 c5 c6 c7 c8 c9 c10
    go_wp2_with fail
    refine (lives_any _).mono ?_
    rintro e wl ⟨rfl, hkl⟩
    have KL := Lib.hid hkl
    clear hkl
    go_wp2_with fail
    go_ret
    exact ⟨rfl, ((K1.out.chain0 (Nat.le_refl _) KW2.out).chain0 (Nat.le_refl _) K5.out).chain0 (Nat.le_refl _) KL.out⟩
  | some q =>
    obtain ⟨hvq, heq⟩ := decP_some HO.out hd
    have her : encR q = (L, 0) := by unfold encR; rw [hvq, if_pos rfl, heq]
    have HER := Lib.hid her
    clear hvq heq her
    rintro e W1 ⟨h1, l1, rfl, p1, _, _⟩
    have K1 := Lib.hid h1
    have P1 := Lib.hid p1
    clear h1 p1
    simp only [decR, pcs]
    go_upto_region 4 with fail
    change Code.wp _ _ _ _ (W1.alloc (.cells (pcs q l1) TP))
    obtain ⟨W2, hW2⟩ : ∃ W, W = W1.alloc (.cells (pcs q l1) TP) := ⟨_, rfl⟩
    obtain ⟨U, hU⟩ : ∃ C, C = W1.heap.size := ⟨_, rfl⟩
    have BU : Hid (Blk W2 U TP (pcs q l1)) := Lib.hid (by rw [hW2, hU]; exact Blk.new _ _ _)
    have KW2 : Hid (Keep W1.heap.size [] W1 W2) := Lib.hid (by rw [hW2]; exact (Keep.refl _ _ _).alloc (Nat.le_refl _) _)
    rw [← hW2, ← hU]
    clear hW2 hU
    have c0 : W2.cell? ⟨U, 0, none⟩ = some (.int .i64 q.kind) := BU.out.cell 0
    have c1 : W2.cell? ⟨U, 1, none⟩ = some (.int .i64 q.src) := BU.out.cell 1
    have c2 : W2.cell? ⟨U, 2, none⟩ = some (.int .i64 q.num) := BU.out.cell 2
    have c3 : W2.cell? ⟨U, 3, none⟩ = some (.int .i64 q.cls) := BU.out.cell 3
    have c4 : W2.cell? ⟨U, 4, none⟩ = some (.string (strOfNums q.name)) := BU.out.cell 4
    have c5 : W2.cell? ⟨U, 5, none⟩ = some (.int .i64 q.size) := BU.out.cell 5
    have c6 : W2.cell? ⟨U, 6, none⟩ = some (.int .i64 q.off) := BU.out.cell 6
    have c7 : W2.cell? ⟨U, 7, none⟩ = some (.slice l1.D l1.dn l1.dc) := BU.out.cell 7
    have c8 : W2.cell? ⟨U, 8, none⟩ = some (.int .u32 q.sum) := BU.out.cell 8
    have c9 : W2.cell? ⟨U, 9, none⟩ = some (.int .i64 q.code) := BU.out.cell 9
    have c10 : W2.cell? ⟨U, 10, none⟩ = some (.slice l1.G l1.gn l1.gc) := BU.out.cell 10
    go_wp2_with fail
    refine (penc_any _ q l1 (P1.out.keep0 KW2.out)).mono ?_
    rw [HER.out]
    rintro e W3 ⟨A3, n3, d3, rfl, h3⟩
    have V3 := Lib.hid (h3.1.vw (by omega))
    have K3 := Lib.hid h3.2.1
    clear h3 c0 c1 c2 c3 c4 c5 c6 c7 c8 c9 c10
    have hc1 := conv_str (P := Try.prog) (w := W3) 24 9 5 Try.underlying24 Try.underlying5 Try.underlying9 A3 n3 d3 L V3.out
    have hc2 := conv_str (P := Try.prog) (w := W3) 24 9 5 Try.underlying24 Try.underlying5 Try.underlying9 X n c L (((HV.out.keep0 K1.out).keep0 KW2.out).keep0 K3.out)
    go_wp2_with fail
    refine (lives_any _).mono ?_
    rintro e wl ⟨rfl, hkl⟩
    have KL := Lib.hid hkl
    clear hkl
    go_wp2_with fail
    go_ret
    exact ⟨rfl, ((K1.out.chain0 (Nat.le_refl _) KW2.out).chain0 (Nat.le_refl _) K3.out).chain0 (Nat.le_refl _) KL.out⟩
end Go.Proofs.Ytijionfhnoffcaa
