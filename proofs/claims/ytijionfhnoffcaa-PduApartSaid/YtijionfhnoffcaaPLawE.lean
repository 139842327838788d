/- PduEncodes. -/
import Derived.Test.YtijionfhnoffcaaPLawA
import Derived.Deep.DeepCutAuto
namespace Go.Proofs.Ytijionfhnoffcaa
set_option linter.unusedVariables false
set_option linter.unusedSimpArgs false
open Go.RowKit
set_option maxRecDepth 100000 in
set_option maxHeartbeats 8000000 in
theorem pduencodes_any (w : World) (p : Pd) (l : Lc) (h : PArg w p l) : Calls Try.prog 3 #[.agg (pcs p l)] w fun e w' => e = .returned (.bool true) ∧ Keep w.heap.size [] w w' := by
  obtain ⟨W0, hW0⟩ : ∃ W, W = w.alloc (.cells (pcs p l) TP) := ⟨_, rfl⟩
  have k1 : Keep w.heap.size [] w W0 := by rw [hW0]; exact (Keep.refl _ _ w).alloc (Nat.le_refl _) _
  have hA : Blk W0 w.heap.size TP (pcs p l) := by rw [hW0]; exact Blk.new _ _ _
  have KA := Lib.hid hA
  have K0 := Lib.hid k1
  have PG := Lib.hid h
  clear h hA k1
  go_enter Try.func3, Try.ntmps3
  go_upto_region 1 with fail
  change Code.wp _ _ _ _ (w.alloc (.cells (pcs p l) TP))
  rw [← hW0]
  obtain ⟨A, hAq⟩ : ∃ A, A = w.heap.size := ⟨_, rfl⟩
  rw [← hAq] at KA ⊢
  clear hW0 hAq
  have c0 : W0.cell? ⟨A, 0, none⟩ = some (.int .i64 p.kind) := KA.out.cell 0
  have c1 : W0.cell? ⟨A, 1, none⟩ = some (.int .i64 p.src) := KA.out.cell 1
  have c2 : W0.cell? ⟨A, 2, none⟩ = some (.int .i64 p.num) := KA.out.cell 2
  have c3 : W0.cell? ⟨A, 3, none⟩ = some (.int .i64 p.cls) := KA.out.cell 3
  have c4 : W0.cell? ⟨A, 4, none⟩ = some (.string (strOfNums p.name)) := KA.out.cell 4
  have c5 : W0.cell? ⟨A, 5, none⟩ = some (.int .i64 p.size) := KA.out.cell 5
  have c6 : W0.cell? ⟨A, 6, none⟩ = some (.int .i64 p.off) := KA.out.cell 6
  have c7 : W0.cell? ⟨A, 7, none⟩ = some (.slice l.D l.dn l.dc) := KA.out.cell 7
  have c8 : W0.cell? ⟨A, 8, none⟩ = some (.int .u32 p.sum) := KA.out.cell 8
  have c9 : W0.cell? ⟨A, 9, none⟩ = some (.int .i64 p.code) := KA.out.cell 9
  have c10 : W0.cell? ⟨A, 10, none⟩ = some (.slice l.G l.gn l.gc) := KA.out.cell 10
  have PG0 : Hid (PArg W0 p l) := Lib.hid ⟨PG.out.on, PG.out.od, PG.out.vd.keep0 K0.out, PG.out.vg.keep0 K0.out, PG.out.cd, PG.out.cg, PG.out.nm, PG.out.sm⟩
  cases hsm : smallB p l with
  | false =>
    go_wp2_with fail
    refine (small_b _ p l false PG0.out hsm).mono ?_
    rintro e W1 ⟨rfl, h1⟩
    have K1 := Lib.hid h1
    clear h1
    go_wp2_with fail
    refine (lives_any _).mono ?_
    rintro e wl ⟨rfl, hkl⟩
    have KL := Lib.hid hkl
    clear hkl
    go_wp2_with fail
    go_ret
    exact ⟨rfl, (K0.out.chain0 (Nat.le_refl _) K1.out).chain0 (Nat.le_refl _) KL.out⟩
  | true =>
    have P0 := Lib.hid (PG0.out.pin hsm)
    go_wp2_with fail
    refine (small_b _ p l true PG0.out hsm).mono ?_
    rintro e W1 ⟨rfl, h1⟩
    have K1 := Lib.hid h1
    clear h1 hsm c0 c1 c2 c3 c4 c5 c6 c7 c8 c9 c10
    have c0 : W1.cell? ⟨A, 0, none⟩ = some (.int .i64 p.kind) := (KA.out.keepS K1.out (by simp)).cell 0
    have c1 : W1.cell? ⟨A, 1, none⟩ = some (.int .i64 p.src) := (KA.out.keepS K1.out (by simp)).cell 1
    have c2 : W1.cell? ⟨A, 2, none⟩ = some (.int .i64 p.num) := (KA.out.keepS K1.out (by simp)).cell 2
    have c3 : W1.cell? ⟨A, 3, none⟩ = some (.int .i64 p.cls) := (KA.out.keepS K1.out (by simp)).cell 3
    have c4 : W1.cell? ⟨A, 4, none⟩ = some (.string (strOfNums p.name)) := (KA.out.keepS K1.out (by simp)).cell 4
    have c5 : W1.cell? ⟨A, 5, none⟩ = some (.int .i64 p.size) := (KA.out.keepS K1.out (by simp)).cell 5
    have c6 : W1.cell? ⟨A, 6, none⟩ = some (.int .i64 p.off) := (KA.out.keepS K1.out (by simp)).cell 6
    have c7 : W1.cell? ⟨A, 7, none⟩ = some (.slice l.D l.dn l.dc) := (KA.out.keepS K1.out (by simp)).cell 7
    have c8 : W1.cell? ⟨A, 8, none⟩ = some (.int .u32 p.sum) := (KA.out.keepS K1.out (by simp)).cell 8
    have c9 : W1.cell? ⟨A, 9, none⟩ = some (.int .i64 p.code) := (KA.out.keepS K1.out (by simp)).cell 9
    have c10 : W1.cell? ⟨A, 10, none⟩ = some (.slice l.G l.gn l.gc) := (KA.out.keepS K1.out (by simp)).cell 10
    obtain ⟨E, z, hE⟩ : ∃ E z, encR p = (E, z) := ⟨_, _, rfl⟩
    have HE := Lib.hid hE
    clear hE
    go_wp2_with fail
    refine (penc_any _ p l (P0.out.keep0 K1.out)).mono ?_
    rw [HE.out]
    rintro e W2 ⟨A1, n1, d1, rfl, h2⟩
    have V1 := Lib.hid (h2.1.vw (by omega))
    have K2 := Lib.hid h2.2.1
    clear h2 c0 c1 c2 c3 c4 c5 c6 c7 c8 c9 c10
    have c0 : W2.cell? ⟨A, 0, none⟩ = some (.int .i64 p.kind) := ((KA.out.keepS K1.out (by simp)).keepS K2.out (by simp)).cell 0
    have c1 : W2.cell? ⟨A, 1, none⟩ = some (.int .i64 p.src) := ((KA.out.keepS K1.out (by simp)).keepS K2.out (by simp)).cell 1
    have c2 : W2.cell? ⟨A, 2, none⟩ = some (.int .i64 p.num) := ((KA.out.keepS K1.out (by simp)).keepS K2.out (by simp)).cell 2
    have c3 : W2.cell? ⟨A, 3, none⟩ = some (.int .i64 p.cls) := ((KA.out.keepS K1.out (by simp)).keepS K2.out (by simp)).cell 3
    have c4 : W2.cell? ⟨A, 4, none⟩ = some (.string (strOfNums p.name)) := ((KA.out.keepS K1.out (by simp)).keepS K2.out (by simp)).cell 4
    have c5 : W2.cell? ⟨A, 5, none⟩ = some (.int .i64 p.size) := ((KA.out.keepS K1.out (by simp)).keepS K2.out (by simp)).cell 5
    have c6 : W2.cell? ⟨A, 6, none⟩ = some (.int .i64 p.off) := ((KA.out.keepS K1.out (by simp)).keepS K2.out (by simp)).cell 6
    have c7 : W2.cell? ⟨A, 7, none⟩ = some (.slice l.D l.dn l.dc) := ((KA.out.keepS K1.out (by simp)).keepS K2.out (by simp)).cell 7
    have c8 : W2.cell? ⟨A, 8, none⟩ = some (.int .u32 p.sum) := ((KA.out.keepS K1.out (by simp)).keepS K2.out (by simp)).cell 8
    have c9 : W2.cell? ⟨A, 9, none⟩ = some (.int .i64 p.code) := ((KA.out.keepS K1.out (by simp)).keepS K2.out (by simp)).cell 9
    have c10 : W2.cell? ⟨A, 10, none⟩ = some (.slice l.G l.gn l.gc) := ((KA.out.keepS K1.out (by simp)).keepS K2.out (by simp)).cell 10
    go_wp2_with fail
    refine (renc_any _ p l ((P0.out.keep0 K1.out).keep0 K2.out)).mono ?_
    rw [HE.out]
    rintro e W3 ⟨A2, n2, d2, rfl, h3⟩
    have V2 := Lib.hid (h3.1.vw (by omega))
    have K3 := Lib.hid h3.2.1
    clear h3 c0 c1 c2 c3 c4 c5 c6 c7 c8 c9 c10
    have HS : Hid (∀ F, Keep W3.heap.size [] W3 F → (fun w' => w'.cell? ⟨A, 0, none⟩ = some (.int .i64 p.kind) ∧ w'.cell? ⟨A, 1, none⟩ = some (.int .i64 p.src) ∧ w'.cell? ⟨A, 2, none⟩ = some (.int .i64 p.num) ∧ w'.cell? ⟨A, 3, none⟩ = some (.int .i64 p.cls) ∧ w'.cell? ⟨A, 4, none⟩ = some (.string (strOfNums p.name)) ∧ w'.cell? ⟨A, 5, none⟩ = some (.int .i64 p.size) ∧ w'.cell? ⟨A, 6, none⟩ = some (.int .i64 p.off) ∧ w'.cell? ⟨A, 7, none⟩ = some (.slice l.D l.dn l.dc) ∧ w'.cell? ⟨A, 8, none⟩ = some (.int .u32 p.sum) ∧ w'.cell? ⟨A, 9, none⟩ = some (.int .i64 p.code) ∧ w'.cell? ⟨A, 10, none⟩ = some (.slice l.G l.gn l.gc) ∧ (convert 24 9 (.slice A1 n1 d1)).run Try.prog w' = .ok (.string (strOfNums E)) w' ∧ (convert 24 9 (.slice A2 n2 d2)).run Try.prog w' = .ok (.string (strOfNums E)) w') F) := Lib.hid (fun F k => by
      have hb := ((((KA.out.keepS K1.out (by simp)).keepS K2.out (by simp)).keepS K3.out (by simp)).keepS k (by simp))
      exact ⟨hb.cell 0, hb.cell 1, hb.cell 2, hb.cell 3, hb.cell 4, hb.cell 5, hb.cell 6, hb.cell 7, hb.cell 8, hb.cell 9, hb.cell 10, conv_str (P := Try.prog) (w := F) 24 9 5 Try.underlying24 Try.underlying5 Try.underlying9 A1 n1 d1 E ((V1.out.keep0 K3.out).keep0 k), conv_str (P := Try.prog) (w := F) 24 9 5 Try.underlying24 Try.underlying5 Try.underlying9 A2 n2 d2 E (V2.out.keep0 k)⟩)
    have P3 := Lib.hid (((P0.out.keep0 K1.out).keep0 K2.out).keep0 K3.out)
    have KK : Hid (Keep w.heap.size [] w W3) := Lib.hid (((K0.out.chain0 (Nat.le_refl _) K1.out).chain0 (Nat.le_refl _) K2.out).chain0 (Nat.le_refl _) K3.out)
    obtain ⟨vb, hvb⟩ : ∃ v, validP p = v := ⟨_, rfl⟩
    have HVB := Lib.hid hvb
    obtain ⟨fb, hfb⟩ : ∃ v, fwdB p.kind = v := ⟨_, rfl⟩
    have HFB := Lib.hid hfb
    have Q0 : Hid (Keep W3.heap.size [] W3 W3.drew) := Lib.hid (Keep.refl _ _ _).drew
    clear hvb hfb
    go_upto_region 5 with fail
    go_region_held3 (fun w' => w'.cell? ⟨A, 0, none⟩ = some (.int .i64 p.kind) ∧ w'.cell? ⟨A, 1, none⟩ = some (.int .i64 p.src) ∧ w'.cell? ⟨A, 2, none⟩ = some (.int .i64 p.num) ∧ w'.cell? ⟨A, 3, none⟩ = some (.int .i64 p.cls) ∧ w'.cell? ⟨A, 4, none⟩ = some (.string (strOfNums p.name)) ∧ w'.cell? ⟨A, 5, none⟩ = some (.int .i64 p.size) ∧ w'.cell? ⟨A, 6, none⟩ = some (.int .i64 p.off) ∧ w'.cell? ⟨A, 7, none⟩ = some (.slice l.D l.dn l.dc) ∧ w'.cell? ⟨A, 8, none⟩ = some (.int .u32 p.sum) ∧ w'.cell? ⟨A, 9, none⟩ = some (.int .i64 p.code) ∧ w'.cell? ⟨A, 10, none⟩ = some (.slice l.G l.gn l.gc) ∧ (convert 24 9 (.slice A1 n1 d1)).run Try.prog w' = .ok (.string (strOfNums E)) w' ∧ (convert 24 9 (.slice A2 n2 d2)).run Try.prog w' = .ok (.string (strOfNums E)) w')
      (first | exact HS.out _ Q0.out | exact HS.out _ Q1.out | exact HS.out _ Q2.out | exact HS.out _ Q5.out)
      (first
        | (go_at_call 9
           refine (lives_any _).mono ?_
           rintro e v5 ⟨rfl, hk⟩
           have Q5 := Lib.hid (Q2.out.chain0 (Nat.le_refl _) hk)
           clear hk)
        | (go_at_call 15
           refine (rfwd_b _ p.kind fb HFB.out).mono ?_
           rintro e v4 ⟨rfl, rfl⟩)
        | (go_at_call 14
           refine (pfwd_b _ p.kind fb HFB.out).mono ?_
           rintro e v3 ⟨rfl, rfl⟩)
        | (go_at_call 13
           refine (rvalid_b _ p l vb (P3.out.keep0 Q1.out) HVB.out).mono ?_
           rintro e v2 ⟨rfl, hk⟩
           have Q2 := Lib.hid (Q1.out.chain0 (Nat.le_refl _) hk)
           clear hk)
        | (go_at_call 12
           refine (pvalid_b _ p l vb (P3.out.keep0 Q0.out) HVB.out).mono ?_
           rintro e v1 ⟨rfl, hk⟩
           have Q1 := Lib.hid (Q0.out.chain0 (Nat.le_refl _) hk)
           clear hk))
    go_wp2_with fail
    go_ret
    exact ⟨rfl, KK.out.chain0 (Nat.le_refl _) Q5.out⟩
end Go.Proofs.Ytijionfhnoffcaa
