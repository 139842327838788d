/- PduBack, PduApart. -/
import Derived.Test.YtijionfhnoffcaaPLenB
import Derived.Deep.DeepCutAuto
namespace Go.Proofs.Ytijionfhnoffcaa
set_option linter.unusedVariables false
set_option linter.unusedSimpArgs false
open Go.RowKit
set_option maxRecDepth 100000 in
set_option maxHeartbeats 8000000 in
theorem pduback_any (w : World) (p : Pd) (l : Lc) (h : PArg w p l) : Calls Try.prog 5 #[.agg (pcs p l)] w fun e w' => e = .returned (.bool true) ∧ Keep w.heap.size [] w w' := by
  obtain ⟨W0, hW0⟩ : ∃ W, W = w.alloc (.cells (pcs p l) TP) := ⟨_, rfl⟩
  have k1 : Keep w.heap.size [] w W0 := by rw [hW0]; exact (Keep.refl _ _ w).alloc (Nat.le_refl _) _
  have hA : Blk W0 w.heap.size TP (pcs p l) := by rw [hW0]; exact Blk.new _ _ _
  have KA := Lib.hid hA
  have K0 := Lib.hid k1
  have PG := Lib.hid h
  clear h hA k1
  go_enter Try.func5, Try.ntmps5
  go_upto_region 1 with fail
  change Code.wp _ _ _ _ (w.alloc (.cells (pcs p l) TP))
  rw [← hW0]
  obtain ⟨A, hAq⟩ : ∃ A, A = w.heap.size := ⟨_, rfl⟩
  rw [← hAq] at KA ⊢
  clear hW0 hAq
  have c0 : W0.cell? ⟨A, 0, none⟩ = some (.int .i64 p.kind) := KA.out.cell 0
  have c1 : W0.cell? ⟨A, 1, none⟩ = some (.int .i64 p.src) := KA.out.cell 1
  have c2 : W0.cell? ⟨A, 2, none⟩ = some (.int .i64 p.num) := KA.out.cell 2
  have c3 : W0.cell? ⟨A, 3, none⟩ = some (.int .i64 p.cls) := KA.out.cell 3
  have c4 : W0.cell? ⟨A, 4, none⟩ = some (.string (strOfNums p.name)) := KA.out.cell 4
  have c5 : W0.cell? ⟨A, 5, none⟩ = some (.int .i64 p.size) := KA.out.cell 5
  have c6 : W0.cell? ⟨A, 6, none⟩ = some (.int .i64 p.off) := KA.out.cell 6
  have c7 : W0.cell? ⟨A, 7, none⟩ = some (.slice l.D l.dn l.dc) := KA.out.cell 7
  have c8 : W0.cell? ⟨A, 8, none⟩ = some (.int .u32 p.sum) := KA.out.cell 8
  have c9 : W0.cell? ⟨A, 9, none⟩ = some (.int .i64 p.code) := KA.out.cell 9
  have c10 : W0.cell? ⟨A, 10, none⟩ = some (.slice l.G l.gn l.gc) := KA.out.cell 10
  have PG0 : Hid (PArg W0 p l) := Lib.hid ⟨PG.out.on, PG.out.od, PG.out.vd.keep0 K0.out, PG.out.vg.keep0 K0.out, PG.out.cd, PG.out.cg, PG.out.nm, PG.out.sm⟩
  cases hsm : smallB p l with
  | false =>
    go_wp2_with fail
    refine (small_b _ p l false PG0.out hsm).mono ?_
    rintro e W1 ⟨rfl, h1⟩
    have K1 := Lib.hid h1
    clear h1
    go_wp2_with fail
    refine (lives_any _).mono ?_
    rintro e wl ⟨rfl, hkl⟩
    have KL := Lib.hid hkl
    clear hkl
    go_wp2_with fail
    go_ret
    exact ⟨rfl, (K0.out.chain0 (Nat.le_refl _) K1.out).chain0 (Nat.le_refl _) KL.out⟩
  | true =>
    have P0 := Lib.hid (PG0.out.pin hsm)
    go_wp2_with fail
    refine (small_b _ p l true PG0.out hsm).mono ?_
    rintro e W1 ⟨rfl, h1⟩
    have K1 := Lib.hid h1
    have HSM := Lib.hid hsm
    clear h1 hsm c0 c1 c2 c3 c4 c5 c6 c7 c8 c9 c10
    have c0 : W1.cell? ⟨A, 0, none⟩ = some (.int .i64 p.kind) := (KA.out.keepS K1.out (by simp)).cell 0
    have c1 : W1.cell? ⟨A, 1, none⟩ = some (.int .i64 p.src) := (KA.out.keepS K1.out (by simp)).cell 1
    have c2 : W1.cell? ⟨A, 2, none⟩ = some (.int .i64 p.num) := (KA.out.keepS K1.out (by simp)).cell 2
    have c3 : W1.cell? ⟨A, 3, none⟩ = some (.int .i64 p.cls) := (KA.out.keepS K1.out (by simp)).cell 3
    have c4 : W1.cell? ⟨A, 4, none⟩ = some (.string (strOfNums p.name)) := (KA.out.keepS K1.out (by simp)).cell 4
    have c5 : W1.cell? ⟨A, 5, none⟩ = some (.int .i64 p.size) := (KA.out.keepS K1.out (by simp)).cell 5
    have c6 : W1.cell? ⟨A, 6, none⟩ = some (.int .i64 p.off) := (KA.out.keepS K1.out (by simp)).cell 6
    have c7 : W1.cell? ⟨A, 7, none⟩ = some (.slice l.D l.dn l.dc) := (KA.out.keepS K1.out (by simp)).cell 7
    have c8 : W1.cell? ⟨A, 8, none⟩ = some (.int .u32 p.sum) := (KA.out.keepS K1.out (by simp)).cell 8
    have c9 : W1.cell? ⟨A, 9, none⟩ = some (.int .i64 p.code) := (KA.out.keepS K1.out (by simp)).cell 9
    have c10 : W1.cell? ⟨A, 10, none⟩ = some (.slice l.G l.gn l.gc) := (KA.out.keepS K1.out (by simp)).cell 10
    cases hvb : validP p with
    | false =>
      have hE : encR p = ([], 1) := by unfold encR; rw [hvb]; rfl
      have HE := Lib.hid hE
      have HVB := Lib.hid hvb
      clear hE hvb
      go_wp2_with fail
      refine (penc_any _ p l (P0.out.keep0 K1.out)).mono ?_
      rw [HE.out]
      rintro e W2 ⟨A1, n1, d1, rfl, h2⟩
      obtain rfl : n1 = 0 := h2.len
      have K2 := Lib.hid h2.2.1
      clear h2 c0 c1 c2 c3 c4 c5 c6 c7 c8 c9 c10
      have c0 : W2.cell? ⟨A, 0, none⟩ = some (.int .i64 p.kind) := ((KA.out.keepS K1.out (by simp)).keepS K2.out (by simp)).cell 0
      have c1 : W2.cell? ⟨A, 1, none⟩ = some (.int .i64 p.src) := ((KA.out.keepS K1.out (by simp)).keepS K2.out (by simp)).cell 1
      have c2 : W2.cell? ⟨A, 2, none⟩ = some (.int .i64 p.num) := ((KA.out.keepS K1.out (by simp)).keepS K2.out (by simp)).cell 2
      have c3 : W2.cell? ⟨A, 3, none⟩ = some (.int .i64 p.cls) := ((KA.out.keepS K1.out (by simp)).keepS K2.out (by simp)).cell 3
      have c4 : W2.cell? ⟨A, 4, none⟩ = some (.string (strOfNums p.name)) := ((KA.out.keepS K1.out (by simp)).keepS K2.out (by simp)).cell 4
      have c5 : W2.cell? ⟨A, 5, none⟩ = some (.int .i64 p.size) := ((KA.out.keepS K1.out (by simp)).keepS K2.out (by simp)).cell 5
      have c6 : W2.cell? ⟨A, 6, none⟩ = some (.int .i64 p.off) := ((KA.out.keepS K1.out (by simp)).keepS K2.out (by simp)).cell 6
      have c7 : W2.cell? ⟨A, 7, none⟩ = some (.slice l.D l.dn l.dc) := ((KA.out.keepS K1.out (by simp)).keepS K2.out (by simp)).cell 7
      have c8 : W2.cell? ⟨A, 8, none⟩ = some (.int .u32 p.sum) := ((KA.out.keepS K1.out (by simp)).keepS K2.out (by simp)).cell 8
      have c9 : W2.cell? ⟨A, 9, none⟩ = some (.int .i64 p.code) := ((KA.out.keepS K1.out (by simp)).keepS K2.out (by simp)).cell 9
      have c10 : W2.cell? ⟨A, 10, none⟩ = some (.slice l.G l.gn l.gc) := ((KA.out.keepS K1.out (by simp)).keepS K2.out (by simp)).cell 10
      go_wp2_with fail
      refine (pvalid_b _ p l false ((P0.out.keep0 K1.out).keep0 K2.out) HVB.out).mono ?_
      rintro e W3 ⟨rfl, h3⟩
      have K3 := Lib.hid h3
      clear h3 c0 c1 c2 c3 c4 c5 c6 c7 c8 c9 c10
      go_wp2_with fail
      refine (lives_any _).mono ?_
      rintro e wl ⟨rfl, hkl⟩
      have KL := Lib.hid hkl
      clear hkl
      go_wp2_with fail
      go_ret
      exact ⟨rfl, (((K0.out.chain0 (Nat.le_refl _) K1.out).chain0 (Nat.le_refl _) K2.out).chain0 (Nat.le_refl _) K3.out).chain0 (Nat.le_refl _) KL.out⟩
    | true =>
      have hE : encR p = (encP p, 0) := by unfold encR; rw [hvb]; rfl
      have hD : decR (decP (encP p)) = (p, 0) := by rw [decP_enc hvb P0.out.sm]; rfl
      have HE := Lib.hid hE
      have HD := Lib.hid hD
      have HOE := Lib.hid (encP_oct P0.out hvb)
      have HVB := Lib.hid hvb
      clear hE hD hvb
      go_wp2_with fail
      refine (penc_any _ p l (P0.out.keep0 K1.out)).mono ?_
      rw [HE.out]
      rintro e W2 ⟨A1, n1, d1, rfl, h2⟩
      have V1 := Lib.hid (h2.1.vw (by omega))
      have K2 := Lib.hid h2.2.1
      have hln : n1 = (encP p).length := h2.len
      have hle : (encP p).length ≤ 100000 := (by have := encV_len HVB.out; omega)
      clear hln h2 c0 c1 c2 c3 c4 c5 c6 c7 c8 c9 c10
      go_wp2_with fail
      refine (pdec_any _ A1 n1 d1 (encP p) HOE.out hle V1.out).mono ?_
      rw [HD.out]
      rintro e W3 ⟨h3, l3, rfl, p3, _, _⟩
      have K3 := Lib.hid h3
      have P3 := Lib.hid p3
      clear h3 p3
      simp only [pcs]
      go_upto_region 7 with fail
      change Code.wp _ _ _ _ (W3.alloc (.cells (pcs p l3) TP))
      obtain ⟨W4, hW4⟩ : ∃ W, W = W3.alloc (.cells (pcs p l3) TP) := ⟨_, rfl⟩
      obtain ⟨V, hV⟩ : ∃ C, C = W3.heap.size := ⟨_, rfl⟩
      have BV : Hid (Blk W4 V TP (pcs p l3)) := Lib.hid (by rw [hW4, hV]; exact Blk.new _ _ _)
      have KW4 : Hid (Keep W3.heap.size [] W3 W4) := Lib.hid (by rw [hW4]; exact (Keep.refl _ _ _).alloc (Nat.le_refl _) _)
      rw [← hW4, ← hV]
      clear hW4 hV
      have c0 : W4.cell? ⟨A, 0, none⟩ = some (.int .i64 p.kind) := ((((KA.out.keepS K1.out (by simp)).keepS K2.out (by simp)).keepS K3.out (by simp)).keepS KW4.out (by simp)).cell 0
      have c1 : W4.cell? ⟨A, 1, none⟩ = some (.int .i64 p.src) := ((((KA.out.keepS K1.out (by simp)).keepS K2.out (by simp)).keepS K3.out (by simp)).keepS KW4.out (by simp)).cell 1
      have c2 : W4.cell? ⟨A, 2, none⟩ = some (.int .i64 p.num) := ((((KA.out.keepS K1.out (by simp)).keepS K2.out (by simp)).keepS K3.out (by simp)).keepS KW4.out (by simp)).cell 2
      have c3 : W4.cell? ⟨A, 3, none⟩ = some (.int .i64 p.cls) := ((((KA.out.keepS K1.out (by simp)).keepS K2.out (by simp)).keepS K3.out (by simp)).keepS KW4.out (by simp)).cell 3
      have c4 : W4.cell? ⟨A, 4, none⟩ = some (.string (strOfNums p.name)) := ((((KA.out.keepS K1.out (by simp)).keepS K2.out (by simp)).keepS K3.out (by simp)).keepS KW4.out (by simp)).cell 4
      have c5 : W4.cell? ⟨A, 5, none⟩ = some (.int .i64 p.size) := ((((KA.out.keepS K1.out (by simp)).keepS K2.out (by simp)).keepS K3.out (by simp)).keepS KW4.out (by simp)).cell 5
      have c6 : W4.cell? ⟨A, 6, none⟩ = some (.int .i64 p.off) := ((((KA.out.keepS K1.out (by simp)).keepS K2.out (by simp)).keepS K3.out (by simp)).keepS KW4.out (by simp)).cell 6
      have c7 : W4.cell? ⟨A, 7, none⟩ = some (.slice l.D l.dn l.dc) := ((((KA.out.keepS K1.out (by simp)).keepS K2.out (by simp)).keepS K3.out (by simp)).keepS KW4.out (by simp)).cell 7
      have c8 : W4.cell? ⟨A, 8, none⟩ = some (.int .u32 p.sum) := ((((KA.out.keepS K1.out (by simp)).keepS K2.out (by simp)).keepS K3.out (by simp)).keepS KW4.out (by simp)).cell 8
      have c9 : W4.cell? ⟨A, 9, none⟩ = some (.int .i64 p.code) := ((((KA.out.keepS K1.out (by simp)).keepS K2.out (by simp)).keepS K3.out (by simp)).keepS KW4.out (by simp)).cell 9
      have c10 : W4.cell? ⟨A, 10, none⟩ = some (.slice l.G l.gn l.gc) := ((((KA.out.keepS K1.out (by simp)).keepS K2.out (by simp)).keepS K3.out (by simp)).keepS KW4.out (by simp)).cell 10
      have d0 : W4.cell? ⟨V, 0, none⟩ = some (.int .i64 p.kind) := BV.out.cell 0
      have d1 : W4.cell? ⟨V, 1, none⟩ = some (.int .i64 p.src) := BV.out.cell 1
      have d2 : W4.cell? ⟨V, 2, none⟩ = some (.int .i64 p.num) := BV.out.cell 2
      have d3 : W4.cell? ⟨V, 3, none⟩ = some (.int .i64 p.cls) := BV.out.cell 3
      have d4 : W4.cell? ⟨V, 4, none⟩ = some (.string (strOfNums p.name)) := BV.out.cell 4
      have d5 : W4.cell? ⟨V, 5, none⟩ = some (.int .i64 p.size) := BV.out.cell 5
      have d6 : W4.cell? ⟨V, 6, none⟩ = some (.int .i64 p.off) := BV.out.cell 6
      have d7 : W4.cell? ⟨V, 7, none⟩ = some (.slice l3.D l3.dn l3.dc) := BV.out.cell 7
      have d8 : W4.cell? ⟨V, 8, none⟩ = some (.int .u32 p.sum) := BV.out.cell 8
      have d9 : W4.cell? ⟨V, 9, none⟩ = some (.int .i64 p.code) := BV.out.cell 9
      have d10 : W4.cell? ⟨V, 10, none⟩ = some (.slice l3.G l3.gn l3.gc) := BV.out.cell 10
      go_wp2_with fail
      refine (rsame_eq _ p l3 l (P3.out.keep0 KW4.out) ((((P0.out.keep0 K1.out).keep0 K2.out).keep0 K3.out).keep0 KW4.out)).mono ?_
      rintro e W5 ⟨rfl, h5⟩
      have K5 := Lib.hid h5
      clear h5 c0 c1 c2 c3 c4 c5 c6 c7 c8 c9 c10 d0 d1 d2 d3 d4 d5 d6 d7 d8 d9 d10
      go_wp2_with fail
      refine (lives_any _).mono ?_
      rintro e wl ⟨rfl, hkl⟩
      have KL := Lib.hid hkl
      clear hkl
      go_wp2_with fail
      go_ret
      exact ⟨rfl, (((((K0.out.chain0 (Nat.le_refl _) K1.out).chain0 (Nat.le_refl _) K2.out).chain0 (Nat.le_refl _) K3.out).chain0 (Nat.le_refl _) KW4.out).chain0 (Nat.le_refl _) K5.out).chain0 (Nat.le_refl _) KL.out⟩
set_option maxRecDepth 100000 in
set_option maxHeartbeats 8000000 in
theorem pduapart_any (w : World) (p : Pd) (l : Lc) (h : PArg w p l) (X : Option Addr) (n c : Nat) (L : List Int) (hO : Oct L) (hnc : n ≤ c) (hcm : c ≤ maxLen) (hv : Vw w X n 1 (octs L)) : Calls Try.prog 7 #[.agg (pcs p l), .slice X n c] w fun e w' => e = .returned (.bool true) ∧ Keep w.heap.size [] w w' := by
  have hnl : n = L.length := by have := hv.1; simp [octs] at this; omega
  have hcI : (n : Int) ≤ (c : Int) := by omega
  have hcM : (c : Int) ≤ 9223372036854775807 := by unfold maxLen at hcm; omega
  have HV := Lib.hid hv
  have HO := Lib.hid hO
  have HNL := Lib.hid hnl
  clear hv hO hnl
  obtain ⟨W0, hW0⟩ : ∃ W, W = w.alloc (.cells (pcs p l) TP) := ⟨_, rfl⟩
  have k1 : Keep w.heap.size [] w W0 := by rw [hW0]; exact (Keep.refl _ _ w).alloc (Nat.le_refl _) _
  have hA : Blk W0 w.heap.size TP (pcs p l) := by rw [hW0]; exact Blk.new _ _ _
  have KA := Lib.hid hA
  have K0 := Lib.hid k1
  have PG := Lib.hid h
  clear h hA k1
  go_enter Try.func7, Try.ntmps7
  go_upto_region 1 with fail
  change Code.wp _ _ _ _ (w.alloc (.cells (pcs p l) TP))
  rw [← hW0]
  obtain ⟨A, hAq⟩ : ∃ A, A = w.heap.size := ⟨_, rfl⟩
  rw [← hAq] at KA ⊢
  clear hW0 hAq
  have c0 : W0.cell? ⟨A, 0, none⟩ = some (.int .i64 p.kind) := KA.out.cell 0
  have c1 : W0.cell? ⟨A, 1, none⟩ = some (.int .i64 p.src) := KA.out.cell 1
  have c2 : W0.cell? ⟨A, 2, none⟩ = some (.int .i64 p.num) := KA.out.cell 2
  have c3 : W0.cell? ⟨A, 3, none⟩ = some (.int .i64 p.cls) := KA.out.cell 3
  have c4 : W0.cell? ⟨A, 4, none⟩ = some (.string (strOfNums p.name)) := KA.out.cell 4
  have c5 : W0.cell? ⟨A, 5, none⟩ = some (.int .i64 p.size) := KA.out.cell 5
  have c6 : W0.cell? ⟨A, 6, none⟩ = some (.int .i64 p.off) := KA.out.cell 6
  have c7 : W0.cell? ⟨A, 7, none⟩ = some (.slice l.D l.dn l.dc) := KA.out.cell 7
  have c8 : W0.cell? ⟨A, 8, none⟩ = some (.int .u32 p.sum) := KA.out.cell 8
  have c9 : W0.cell? ⟨A, 9, none⟩ = some (.int .i64 p.code) := KA.out.cell 9
  have c10 : W0.cell? ⟨A, 10, none⟩ = some (.slice l.G l.gn l.gc) := KA.out.cell 10
  have PG0 : Hid (PArg W0 p l) := Lib.hid ⟨PG.out.on, PG.out.od, PG.out.vd.keep0 K0.out, PG.out.vg.keep0 K0.out, PG.out.cd, PG.out.cg, PG.out.nm, PG.out.sm⟩
  cases hsm : smallB p l with
  | false =>
    go_wp2_with fail
    refine (small_b _ p l false PG0.out hsm).mono ?_
    rintro e W1 ⟨rfl, h1⟩
    have K1 := Lib.hid h1
    clear h1
    go_wp2_with fail
    refine (lives_any _).mono ?_
    rintro e wl ⟨rfl, hkl⟩
    have KL := Lib.hid hkl
    clear hkl
    go_wp2_with fail
    go_ret
    exact ⟨rfl, (K0.out.chain0 (Nat.le_refl _) K1.out).chain0 (Nat.le_refl _) KL.out⟩
  | true =>
    have P0 := Lib.hid (PG0.out.pin hsm)
    go_wp2_with fail
    refine (small_b _ p l true PG0.out hsm).mono ?_
    rintro e W1 ⟨rfl, h1⟩
    have K1 := Lib.hid h1
    have HSM := Lib.hid hsm
    clear h1 hsm c0 c1 c2 c3 c4 c5 c6 c7 c8 c9 c10
    by_cases q0 : n = 0
    · subst q0
      go_wp2_with fail
      refine (lives_any _).mono ?_
      rintro e wl ⟨rfl, hkl⟩
      have KL := Lib.hid hkl
      clear hkl
      go_wp2_with fail
      go_ret
      exact ⟨rfl, (K0.out.chain0 (Nat.le_refl _) K1.out).chain0 (Nat.le_refl _) KL.out⟩
    have q0i : ¬ (n : Int) = 0 := by omega
    have q0b : ((n : Int) == 0) = false := by rw [beq_eq_false_iff_ne]; omega
    by_cases q1 : 1000 < n
    · have q1i : (1000 : Int) < (n : Int) := by omega
      go_wp2_with fail
      refine (lives_any _).mono ?_
      rintro e wl ⟨rfl, hkl⟩
      have KL := Lib.hid hkl
      clear hkl
      go_wp2_with fail
      go_ret
      exact ⟨rfl, (K0.out.chain0 (Nat.le_refl _) K1.out).chain0 (Nat.le_refl _) KL.out⟩
    have q1i : ¬ (1000 : Int) < (n : Int) := by omega
    have c0 : W1.cell? ⟨A, 0, none⟩ = some (.int .i64 p.kind) := (KA.out.keepS K1.out (by simp)).cell 0
    have c1 : W1.cell? ⟨A, 1, none⟩ = some (.int .i64 p.src) := (KA.out.keepS K1.out (by simp)).cell 1
    have c2 : W1.cell? ⟨A, 2, none⟩ = some (.int .i64 p.num) := (KA.out.keepS K1.out (by simp)).cell 2
    have c3 : W1.cell? ⟨A, 3, none⟩ = some (.int .i64 p.cls) := (KA.out.keepS K1.out (by simp)).cell 3
    have c4 : W1.cell? ⟨A, 4, none⟩ = some (.string (strOfNums p.name)) := (KA.out.keepS K1.out (by simp)).cell 4
    have c5 : W1.cell? ⟨A, 5, none⟩ = some (.int .i64 p.size) := (KA.out.keepS K1.out (by simp)).cell 5
    have c6 : W1.cell? ⟨A, 6, none⟩ = some (.int .i64 p.off) := (KA.out.keepS K1.out (by simp)).cell 6
    have c7 : W1.cell? ⟨A, 7, none⟩ = some (.slice l.D l.dn l.dc) := (KA.out.keepS K1.out (by simp)).cell 7
    have c8 : W1.cell? ⟨A, 8, none⟩ = some (.int .u32 p.sum) := (KA.out.keepS K1.out (by simp)).cell 8
    have c9 : W1.cell? ⟨A, 9, none⟩ = some (.int .i64 p.code) := (KA.out.keepS K1.out (by simp)).cell 9
    have c10 : W1.cell? ⟨A, 10, none⟩ = some (.slice l.G l.gn l.gc) := (KA.out.keepS K1.out (by simp)).cell 10
    cases hvb : validP p with
    | false =>
      have hE : encR p = ([], 1) := by unfold encR; rw [hvb]; rfl
      have HE := Lib.hid hE
      clear hE hvb
      go_wp2_with fail
      refine (penc_any _ p l (P0.out.keep0 K1.out)).mono ?_
      rw [HE.out]
      rintro e W2 ⟨A1, n1, d1, rfl, h2⟩
      have K2 := Lib.hid h2.2.1
      clear h2 c0 c1 c2 c3 c4 c5 c6 c7 c8 c9 c10
      go_wp2_with fail
      refine (lives_any _).mono ?_
      rintro e wl ⟨rfl, hkl⟩
      have KL := Lib.hid hkl
      clear hkl
      go_wp2_with fail
      go_ret
      exact ⟨rfl, ((K0.out.chain0 (Nat.le_refl _) K1.out).chain0 (Nat.le_refl _) K2.out).chain0 (Nat.le_refl _) KL.out⟩
    | true =>
      have hE : encR p = (encP p, 0) := by unfold encR; rw [hvb]; rfl
      have hD : decR (decP (encP p ++ L)) = (zP, 4) := by
        rw [decP_more hvb P0.out.sm (M := L) (by intro h0; have := HNL.out; rw [h0] at this; simp at this; omega)]; rfl
      have HE := Lib.hid hE
      have HD := Lib.hid hD
      have HOE := Lib.hid (encP_oct P0.out hvb)
      have HVB := Lib.hid hvb
      clear hE hD hvb
      go_wp2_with fail
      refine (penc_any _ p l (P0.out.keep0 K1.out)).mono ?_
      rw [HE.out]
      rintro e W2 ⟨A1, n1, d1, rfl, h2⟩
      have V1 := Lib.hid (h2.1.vw (by omega))
      have K2 := Lib.hid h2.2.1
      have hln : n1 = (encP p).length := h2.len
      have hle : (encP p).length ≤ 50000 := encV_len HVB.out
      have hn1 : n1 ≤ 50000 := by omega
      have hc2 := h2.1.cap
      have hd1 : (n1 : Int) ≤ (d1 : Int) := by omega
      have hd2 : (d1 : Int) ≤ 9223372036854775807 := by have := hc2.2; unfold maxLen at this; omega
      have w64 : IntKind.i64.wrap ((n1 : Int) + (n : Int)) = ((n1 + n : Nat) : Int) := by rw [i64_in _ (by omega) (by omega)]; omega
      have HLN := Lib.hid hln
      obtain ⟨i0, hi0, hz0, hz1, hz2⟩ := info_parts infoU8
      clear hln h2 hc2 c0 c1 c2 c3 c4 c5 c6 c7 c8 c9 c10
      go_upto_region 7 with (
        at_make
        refine wpList_make_own _ rfl _ _ 24 rfl 0 5 i0 _ 1 Try.underlying24 hi0 hz0 hz1 .i64 .i64 _ (n1 + n) rfl rfl (by first | rfl | omega) (by rw [hz2]; omega) (by unfold maxLen; omega) (Nat.zero_le _) ?_
        intro W3 hown hgr
        have HS3 := Lib.hid hown
        have K3 : Hid (Keep W2.heap.size [] W2 W3) := Keep.of_grown hgr (Nat.le_refl _) (by simp)
        clear hown hgr)
      go_upto_region 8 with (
        at_builtin
        refine wpList_appV _ rfl (.tmp 38) (.tmp 39) 24 rfl 5 i0 _ 1 1 Try.underlying24 hi0 hz0 hz1 hz2 rfl (by omega) (some ⟨W2.heap.size, 0, none⟩) 0 (n1 + n) [] rfl (by exact HS3.out) A1 n1 d1 (octs (encP p)) rfl (by exact V1.out.keep0 K3.out) (oct_one _) (by omega) (by omega) ?_
        intro A4 c4 W4 hs hk hb
        simp only [Nat.zero_add, List.nil_append] at hs ⊢
        have HS4 := Lib.hid hs
        have K4 : Hid (Keep W2.heap.size [] W2 W4) := Lib.hid (K3.out.chain (Nat.le_refl _) hk (by simp [blks]))
        have HB4 : Hid (∀ x, x ∈ blks A4 → W2.heap.size ≤ x) := Lib.hid (fun x hx => by have := K3.out.size; rcases hb x hx with h | h; simp [blks] at h; omega; omega)
        clear hs hk hb)
      go_upto_region 9 with (
        at_builtin
        refine wpList_appV _ rfl (.tmp 41) (.tmp 42) 24 rfl 5 i0 _ 1 1 Try.underlying24 hi0 hz0 hz1 hz2 rfl (by omega) A4 n1 c4 (octs (encP p)) rfl (by exact HS4.out) X n c (octs L) rfl (by exact (((HV.out.keep0 K0.out).keep0 K1.out).keep0 K2.out).keep0 K4.out) (oct_one _) (by omega) (by omega) ?_
        intro A5 c5 W5 hs hk hb
        have V5 : Hid (Vw W5 A5 (n1 + n) 1 (octs (encP p ++ L))) := Lib.hid (by have := hs.vw (by omega); simpa [octs] using this)
        have K5 : Hid (Keep W2.heap.size [] W2 W5) := Lib.hid (K4.out.chain (Nat.le_refl _) hk HB4.out)
        clear hs hk hb)
      go_wp2_with fail
      refine (pdec_any _ A5 (n1 + n) c5 (encP p ++ L) (oct_app HOE.out HO.out) (by have := HLN.out; have := HNL.out; simp only [List.length_append]; omega) V5.out).mono ?_
      rw [HD.out]
      rintro e W6 ⟨h6, l6, rfl, p6, _, _⟩
      have K6 := Lib.hid h6
      clear h6 p6
      simp only [pcs]
      go_upto_region 10 with fail
      change Code.wp _ _ _ _ (W6.alloc (.cells (pcs zP l6) TP))
      obtain ⟨W7, hW7⟩ : ∃ W, W = W6.alloc (.cells (pcs zP l6) TP) := ⟨_, rfl⟩
      obtain ⟨V, hV⟩ : ∃ C, C = W6.heap.size := ⟨_, rfl⟩
      have BV : Hid (Blk W7 V TP (pcs zP l6)) := Lib.hid (by rw [hW7, hV]; exact Blk.new _ _ _)
      have KW7 : Hid (Keep W6.heap.size [] W6 W7) := Lib.hid (by rw [hW7]; exact (Keep.refl _ _ _).alloc (Nat.le_refl _) _)
      rw [← hW7, ← hV]
      clear hW7 hV
      go_wp2_with fail
      refine (lives_any _).mono ?_
      rintro e wl ⟨rfl, hkl⟩
      have KL := Lib.hid hkl
      clear hkl
      go_wp2_with fail
      go_ret
      exact ⟨rfl, (((((K0.out.chain0 (Nat.le_refl _) K1.out).chain0 (Nat.le_refl _) K2.out).chain0 (Nat.le_refl _) K5.out).chain0 (Nat.le_refl _) K6.out).chain0 (Nat.le_refl _) KW7.out).chain0 (Nat.le_refl _) KL.out⟩
end Go.Proofs.Ytijionfhnoffcaa
