/- The program's fields, each kind. -/
import Derived.Test.YtijionfhnoffcaaPDec1
import Derived.Deep.DeepCutAuto
namespace Go.Proofs.Ytijionfhnoffcaa
set_option linter.unusedVariables false
set_option linter.unusedSimpArgs false
open Go.RowKit
set_option maxRecDepth 100000 in
set_option maxHeartbeats 16000000 in
theorem pfld_0 (w : World) (g : Nat) (X : Option Addr) (s0 : RS) (hok : RSok s0) (hr : RO w g X s0) (hg : g < w.heap.size) (hX : ∀ x, x ∈ blks X → x < w.heap.size) (hk : (stU s0 1).1 < 1 ∨ 5 < (stU s0 1).1) : Calls Try.prog 37 #[bptr g] w (FdPost w g (fld s0)) := by
  have ok0 := hok
  obtain ⟨v1, s1, q1⟩ : ∃ v s, stU s0 1 = (v, s) := ⟨_, _, rfl⟩
  have ok1 : RSok s1 := by have := stU_ok (z := 1) ok0; rw [q1] at this; exact this
  have b1 := stU_bd 1 ok0 q1
  obtain ⟨v2, s2, q2⟩ : ∃ v s, stU s1 1 = (v, s) := ⟨_, _, rfl⟩
  have ok2 : RSok s2 := by have := stU_ok (z := 1) ok1; rw [q2] at this; exact this
  have b2 := stU_bd 1 ok1 q2
  obtain ⟨v3, s3, q3⟩ : ∃ v s, stU s2 2 = (v, s) := ⟨_, _, rfl⟩
  have ok3 : RSok s3 := by have := stU_ok (z := 2) ok2; rw [q3] at this; exact this
  have b3 := stU_bd 2 ok2 q3
  rw [q1] at hk
  simp only at hk
  obtain ⟨pf, hpf⟩ : ∃ p : Pd, p = (zeroP v1 v2 v3) := ⟨_, rfl⟩
  have hfl : fld s0 = (pf, s3) := by
    rw [hpf]; unfold fld fldH; simp only [q1, q2, q3]; unfold fldB
    rw [if_neg (by simp only [zeroP]; omega), if_neg (by simp only [zeroP]; omega), if_neg (by simp only [zeroP]; omega), if_neg (by simp only [zeroP]; omega), if_neg (by simp only [zeroP]; omega)]
  rw [hfl]
  clear hfl
  have e1 := i64_in v1 (by omega) (by omega)
  have e2 := i64_in v2 (by omega) (by omega)
  have e3 := i64_in v3 (by omega) (by omega)
  have Q1 := Lib.hid q1
  have Q2 := Lib.hid q2
  have Q3 := Lib.hid q3
  have HPF := Lib.hid hpf
  clear hpf q1 q2 q3
  have OK0 := Lib.hid ok0
  have OK1 := Lib.hid ok1
  have OK2 := Lib.hid ok2
  have OK3 := Lib.hid ok3
  have HR0 := Lib.hid hr
  clear hr hok ok0 ok1 ok2 ok3
  have k1 : Keep w.heap.size [] w (w.alloc (.cells (pcs zP zL) TP)) := (Keep.refl _ _ w).alloc (Nat.le_refl _) _
  have hb0 := Blk.new w TP (pcs zP zL)
  obtain ⟨W0, hW0⟩ : ∃ W0, W0 = w.alloc (.cells (pcs zP zL) TP) := ⟨_, rfl⟩
  rw [← hW0] at k1 hb0
  have K0 := Lib.hid k1
  obtain ⟨r, hrr⟩ : ∃ r, r = w.heap.size := ⟨_, rfl⟩
  have B0 : Hid (Blk W0 r TP (pcs zP zL)) := Lib.hid (by rw [hrr]; exact hb0)
  have hr0 : w.heap.size ≤ r := by omega
  have hrl := B0.out.lt
  have R0 : Hid (RO W0 g X s0) := Lib.hid (RO_k _ _ _ _ _ _ HR0.out k1 (by simp) (by simp))
  clear hb0 k1
  go_enter Try.func37, Try.ntmps37
  go_upto_region 1 with fail
  change Code.wp _ _ _ _ (w.alloc (.cells (pcs zP zL) TP))
  rw [← hW0, ← hrr]
  clear hW0 hrr
  go_wp2_with fail
  refine (ruint_s _ g X s0 1 OK0.out R0.out).mono ?_
  rintro e W1 ⟨X1, rfl, h1, h2, h3⟩
  rw [Q1.out] at h1 ⊢
  simp only at h1
  have H1 := Lib.hid h1
  have K1 := Lib.hid h2
  have XX := Lib.hid h3
  clear h1 h2 h3
  go_upto_region 2 with fail
  change Code.wp _ _ _ _ (W1.alloc (.cells (pcs (zeroP v1 0 0) zL) TP))
  have F2 := Lib.hid (FW.first RO_k (by have := K0.out.size; omega) (fun x hx => by have := hX x hx; have := K0.out.size; omega) H1.out OK1.out K1.out XX.out v1)
  obtain ⟨W2, hW2⟩ : ∃ W, W = W1.alloc (.cells (pcs (zeroP v1 0 0) zL) TP) := ⟨_, rfl⟩
  obtain ⟨b, hbq⟩ : ∃ b, b = W1.heap.size := ⟨_, rfl⟩
  rw [← hW2, ← hbq] at F2 ⊢
  clear hW2 hbq
  go_wp2_with fail
  refine (fu_o F2.out 1 Q2.out).mono ?_
  rintro e W3 ⟨rfl, X3, f3⟩
  have F3 := Lib.hid f3
  clear f3
  go_wp2_with fail
  refine (fu_o F3.out 2 Q3.out).mono ?_
  rintro e W4 ⟨rfl, X4, f4⟩
  have F4 := Lib.hid f4
  clear f4
  have z1 := F4.out.box.frozen 1
  have z2 := F4.out.box.frozen 2
  have c0 : W4.cell? ⟨b, 0, none⟩ = some (.int .i64 v1) := F4.out.box.cell 0
  have c1 : W4.cell? ⟨b, 1, none⟩ = some (.int .i64 0) := F4.out.box.cell 1
  have c2 : W4.cell? ⟨b, 2, none⟩ = some (.int .i64 0) := F4.out.box.cell 2
  go_upto_region 3 with fail
  have F5 : Hid (FW RO W0 ((W4.setCell ⟨b, 1, none⟩ (.int .i64 v2)).setCell ⟨b, 2, none⟩ (.int .i64 v3)) g b X4 s3 (zeroP v1 v2 v3) zL) := Lib.hid (F4.out.setID RO_k v2 v3)
  obtain ⟨W5, hW5⟩ : ∃ W, W = (W4.setCell ⟨b, 1, none⟩ (.int .i64 v2)).setCell ⟨b, 2, none⟩ (.int .i64 v3) := ⟨_, rfl⟩
  rw [← hW5] at F5 ⊢
  clear hW5 z1 z2 c0 c1 c2 F4 F3 F2
  have c0 : W5.cell? ⟨b, 0, none⟩ = some (.int .i64 v1) := F5.out.box.cell 0
  have n1 : ¬ v1 = 1 := by omega
  have n2 : ¬ v1 = 2 := by omega
  have n3 : ¬ v1 = 3 := by omega
  have n4 : ¬ v1 = 4 := by omega
  have n5 : ¬ v1 = 5 := by omega
  have G : Hid (FW RO W0 W5 g b X4 s3 pf zL) := Lib.hid (by rw [HPF.out]; exact F5.out)
  go_wp2_with fail
  refine (fe_o G.out).mono ?_
  rintro e WE ⟨rfl, rfl⟩
  obtain ⟨WF, hWF⟩ : ∃ W, W = W5 := ⟨_, rfl⟩
  rw [← hWF] at G ⊢
  clear hWF
  clear c0
  have HPK : Hid (Keep w.heap.size [g] w WF) := Lib.hid (K0.out.trans0 G.out.keep)
  cases hE : endS s3 with
  | false =>
    go_wp2_with fail
    exact ⟨rfl, HPK.out, fun _ => rfl, fun h => absurd h (by simp [okB, hE])⟩
  | true =>
    have HE := Lib.hid hE
    clear hE
    have c0 : WF.cell? ⟨b, 0, none⟩ = some (.int .i64 pf.kind) := (G.out).box.cell 0
    have c1 : WF.cell? ⟨b, 1, none⟩ = some (.int .i64 pf.src) := (G.out).box.cell 1
    have c2 : WF.cell? ⟨b, 2, none⟩ = some (.int .i64 pf.num) := (G.out).box.cell 2
    have c3 : WF.cell? ⟨b, 3, none⟩ = some (.int .i64 pf.cls) := (G.out).box.cell 3
    have c4 : WF.cell? ⟨b, 4, none⟩ = some (.string (strOfNums pf.name)) := (G.out).box.cell 4
    have c5 : WF.cell? ⟨b, 5, none⟩ = some (.int .i64 pf.size) := (G.out).box.cell 5
    have c6 : WF.cell? ⟨b, 6, none⟩ = some (.int .i64 pf.off) := (G.out).box.cell 6
    have c7 : WF.cell? ⟨b, 7, none⟩ = some (.slice (zL : Lc).D (zL : Lc).dn (zL : Lc).dc) := (G.out).box.cell 7
    have c8 : WF.cell? ⟨b, 8, none⟩ = some (.int .u32 pf.sum) := (G.out).box.cell 8
    have c9 : WF.cell? ⟨b, 9, none⟩ = some (.int .i64 pf.code) := (G.out).box.cell 9
    have c10 : WF.cell? ⟨b, 10, none⟩ = some (.slice (zL : Lc).G (zL : Lc).gn (zL : Lc).gc) := (G.out).box.cell 10
    go_wp2_with fail
    cases hvb : validP pf with
    | false =>
      refine (pvalid_b _ pf zL false G.out.pin hvb).mono ?_
      rintro e WV ⟨rfl, hkv⟩
      have FV := Lib.hid (G.out.other RO_k hkv)
      clear hkv c0 c1 c2 c3 c4 c5 c6 c7 c8 c9 c10
      go_wp2_with fail
      exact ⟨rfl, K0.out.trans0 FV.out.keep, fun _ => rfl, fun h => absurd h (by simp [okB, hvb])⟩
    | true =>
      refine (pvalid_b _ pf zL true G.out.pin hvb).mono ?_
      rintro e WV ⟨rfl, hkv⟩
      have FV := Lib.hid (G.out.other RO_k hkv)
      clear hkv c0 c1 c2 c3 c4 c5 c6 c7 c8 c9 c10
      have BR : Hid (Blk WV r TP (pcs zP zL)) := Lib.hid (B0.out.keep FV.out.keep hrl (by have := FV.out.hg; simp; omega))
      have c0 : WV.cell? ⟨b, 0, none⟩ = some (.int .i64 pf.kind) := (FV.out).box.cell 0
      have c1 : WV.cell? ⟨b, 1, none⟩ = some (.int .i64 pf.src) := (FV.out).box.cell 1
      have c2 : WV.cell? ⟨b, 2, none⟩ = some (.int .i64 pf.num) := (FV.out).box.cell 2
      have c3 : WV.cell? ⟨b, 3, none⟩ = some (.int .i64 pf.cls) := (FV.out).box.cell 3
      have c4 : WV.cell? ⟨b, 4, none⟩ = some (.string (strOfNums pf.name)) := (FV.out).box.cell 4
      have c5 : WV.cell? ⟨b, 5, none⟩ = some (.int .i64 pf.size) := (FV.out).box.cell 5
      have c6 : WV.cell? ⟨b, 6, none⟩ = some (.int .i64 pf.off) := (FV.out).box.cell 6
      have c7 : WV.cell? ⟨b, 7, none⟩ = some (.slice (zL : Lc).D (zL : Lc).dn (zL : Lc).dc) := (FV.out).box.cell 7
      have c8 : WV.cell? ⟨b, 8, none⟩ = some (.int .u32 pf.sum) := (FV.out).box.cell 8
      have c9 : WV.cell? ⟨b, 9, none⟩ = some (.int .i64 pf.code) := (FV.out).box.cell 9
      have c10 : WV.cell? ⟨b, 10, none⟩ = some (.slice (zL : Lc).G (zL : Lc).gn (zL : Lc).gc) := (FV.out).box.cell 10
      have y0 := BR.out.frozen 0
      have x0 : WV.cell? ⟨r, 0, none⟩ = some (.int .i64 0) := BR.out.cell 0
      have y1 := BR.out.frozen 1
      have x1 : WV.cell? ⟨r, 1, none⟩ = some (.int .i64 0) := BR.out.cell 1
      have y2 := BR.out.frozen 2
      have x2 : WV.cell? ⟨r, 2, none⟩ = some (.int .i64 0) := BR.out.cell 2
      have y3 := BR.out.frozen 3
      have x3 : WV.cell? ⟨r, 3, none⟩ = some (.int .i64 0) := BR.out.cell 3
      have y4 := BR.out.frozen 4
      have x4 : WV.cell? ⟨r, 4, none⟩ = some (.string ⟨#[]⟩) := BR.out.cell 4
      have y5 := BR.out.frozen 5
      have x5 : WV.cell? ⟨r, 5, none⟩ = some (.int .i64 0) := BR.out.cell 5
      have y6 := BR.out.frozen 6
      have x6 : WV.cell? ⟨r, 6, none⟩ = some (.int .i64 0) := BR.out.cell 6
      have y7 := BR.out.frozen 7
      have x7 : WV.cell? ⟨r, 7, none⟩ = some (.slice none 0 0) := BR.out.cell 7
      have y8 := BR.out.frozen 8
      have x8 : WV.cell? ⟨r, 8, none⟩ = some (.int .u32 0) := BR.out.cell 8
      have y9 := BR.out.frozen 9
      have x9 : WV.cell? ⟨r, 9, none⟩ = some (.int .i64 0) := BR.out.cell 9
      have y10 := BR.out.frozen 10
      have x10 : WV.cell? ⟨r, 10, none⟩ = some (.slice none 0 0) := BR.out.cell 10
      go_wp2_with fail
      refine bodyPost_ret (v := .agg (pcs pf zL)) (by simp [pcs, results, Try.results37, go_sem, x0, x1, x2, x3, x4, x5, x6, x7, x8, x9, x10]) rfl ?_
      have HRE := ret_ok (r := r) (K0.out.trans0 FV.out.keep) hr0 FV.out.pin (fun x hx => by have := (FV.out.hD x hx).1; omega) (fun x hx => by have := (FV.out.hG x hx).1; omega)
      exact ⟨HRE.1, fun h => absurd h (by simp [okB, HE.out, hvb]), fun _ => ⟨_, rfl, HRE.2, (fun x hx => by have := (FV.out.hD x hx).1; have := K0.out.size; omega), (fun x hx => by have := (FV.out.hG x hx).1; have := K0.out.size; omega)⟩⟩
set_option maxRecDepth 100000 in
set_option maxHeartbeats 16000000 in
theorem pfld_1 (w : World) (g : Nat) (X : Option Addr) (s0 : RS) (hok : RSok s0) (hr : RO w g X s0) (hg : g < w.heap.size) (hX : ∀ x, x ∈ blks X → x < w.heap.size) (hk : (stU s0 1).1 = 1) : Calls Try.prog 37 #[bptr g] w (FdPost w g (fld s0)) := by
  have ok0 := hok
  obtain ⟨v1, s1, q1⟩ : ∃ v s, stU s0 1 = (v, s) := ⟨_, _, rfl⟩
  have ok1 : RSok s1 := by have := stU_ok (z := 1) ok0; rw [q1] at this; exact this
  have b1 := stU_bd 1 ok0 q1
  obtain ⟨v2, s2, q2⟩ : ∃ v s, stU s1 1 = (v, s) := ⟨_, _, rfl⟩
  have ok2 : RSok s2 := by have := stU_ok (z := 1) ok1; rw [q2] at this; exact this
  have b2 := stU_bd 1 ok1 q2
  obtain ⟨v3, s3, q3⟩ : ∃ v s, stU s2 2 = (v, s) := ⟨_, _, rfl⟩
  have ok3 : RSok s3 := by have := stU_ok (z := 2) ok2; rw [q3] at this; exact this
  have b3 := stU_bd 2 ok2 q3
  obtain ⟨v4, s4, q4⟩ : ∃ v s, stU s3 1 = (v, s) := ⟨_, _, rfl⟩
  have ok4 : RSok s4 := by have := stU_ok (z := 1) ok3; rw [q4] at this; exact this
  have b4 := stU_bd 1 ok3 q4
  obtain ⟨v5, s5, q5⟩ : ∃ v s, stI s4 = (v, s) := ⟨_, _, rfl⟩
  have ok5 : RSok s5 := by have := stI_ok ok4; rw [q5] at this; exact this
  obtain ⟨v6, s6, q6⟩ : ∃ v s, stB s5 64 = (v, s) := ⟨_, _, rfl⟩
  have ok6 : RSok s6 := by have := stB_ok (z := 64) ok5; rw [q6] at this; exact this
  have b6 := stB_bd ok5 (by omega) q6
  rw [q1] at hk
  simp only at hk
  subst hk
  obtain ⟨pf, hpf⟩ : ∃ p : Pd, p = { zeroP 1 v2 v3 with cls := v4, size := v5, name := v6 } := ⟨_, rfl⟩
  have hfl : fld s0 = (pf, s6) := by
    rw [hpf]; unfold fld fldH; simp only [q1, q2, q3]; unfold fldB; simp [zeroP, q4, q5, q6]
  rw [hfl]
  clear hfl
  have e2 := i64_in v2 (by omega) (by omega)
  have e3 := i64_in v3 (by omega) (by omega)
  have e4 := i64_in v4 (by omega) (by omega)
  have Q1 := Lib.hid q1
  have Q2 := Lib.hid q2
  have Q3 := Lib.hid q3
  have Q4 := Lib.hid q4
  have Q5 := Lib.hid q5
  have Q6 := Lib.hid q6
  have HPF := Lib.hid hpf
  clear hpf q1 q2 q3 q4 q5 q6
  have OK0 := Lib.hid ok0
  have OK1 := Lib.hid ok1
  have OK2 := Lib.hid ok2
  have OK3 := Lib.hid ok3
  have OK4 := Lib.hid ok4
  have OK5 := Lib.hid ok5
  have OK6 := Lib.hid ok6
  have HR0 := Lib.hid hr
  clear hr hok ok0 ok1 ok2 ok3 ok4 ok5 ok6
  have k1 : Keep w.heap.size [] w (w.alloc (.cells (pcs zP zL) TP)) := (Keep.refl _ _ w).alloc (Nat.le_refl _) _
  have hb0 := Blk.new w TP (pcs zP zL)
  obtain ⟨W0, hW0⟩ : ∃ W0, W0 = w.alloc (.cells (pcs zP zL) TP) := ⟨_, rfl⟩
  rw [← hW0] at k1 hb0
  have K0 := Lib.hid k1
  obtain ⟨r, hrr⟩ : ∃ r, r = w.heap.size := ⟨_, rfl⟩
  have B0 : Hid (Blk W0 r TP (pcs zP zL)) := Lib.hid (by rw [hrr]; exact hb0)
  have hr0 : w.heap.size ≤ r := by omega
  have hrl := B0.out.lt
  have R0 : Hid (RO W0 g X s0) := Lib.hid (RO_k _ _ _ _ _ _ HR0.out k1 (by simp) (by simp))
  clear hb0 k1
  go_enter Try.func37, Try.ntmps37
  go_upto_region 1 with fail
  change Code.wp _ _ _ _ (w.alloc (.cells (pcs zP zL) TP))
  rw [← hW0, ← hrr]
  clear hW0 hrr
  go_wp2_with fail
  refine (ruint_s _ g X s0 1 OK0.out R0.out).mono ?_
  rintro e W1 ⟨X1, rfl, h1, h2, h3⟩
  rw [Q1.out] at h1 ⊢
  simp only at h1
  have H1 := Lib.hid h1
  have K1 := Lib.hid h2
  have XX := Lib.hid h3
  clear h1 h2 h3
  go_upto_region 2 with fail
  change Code.wp _ _ _ _ (W1.alloc (.cells (pcs (zeroP 1 0 0) zL) TP))
  have F2 := Lib.hid (FW.first RO_k (by have := K0.out.size; omega) (fun x hx => by have := hX x hx; have := K0.out.size; omega) H1.out OK1.out K1.out XX.out 1)
  obtain ⟨W2, hW2⟩ : ∃ W, W = W1.alloc (.cells (pcs (zeroP 1 0 0) zL) TP) := ⟨_, rfl⟩
  obtain ⟨b, hbq⟩ : ∃ b, b = W1.heap.size := ⟨_, rfl⟩
  rw [← hW2, ← hbq] at F2 ⊢
  clear hW2 hbq
  go_wp2_with fail
  refine (fu_o F2.out 1 Q2.out).mono ?_
  rintro e W3 ⟨rfl, X3, f3⟩
  have F3 := Lib.hid f3
  clear f3
  go_wp2_with fail
  refine (fu_o F3.out 2 Q3.out).mono ?_
  rintro e W4 ⟨rfl, X4, f4⟩
  have F4 := Lib.hid f4
  clear f4
  have z1 := F4.out.box.frozen 1
  have z2 := F4.out.box.frozen 2
  have c0 : W4.cell? ⟨b, 0, none⟩ = some (.int .i64 1) := F4.out.box.cell 0
  have c1 : W4.cell? ⟨b, 1, none⟩ = some (.int .i64 0) := F4.out.box.cell 1
  have c2 : W4.cell? ⟨b, 2, none⟩ = some (.int .i64 0) := F4.out.box.cell 2
  go_upto_region 3 with fail
  have F5 : Hid (FW RO W0 ((W4.setCell ⟨b, 1, none⟩ (.int .i64 v2)).setCell ⟨b, 2, none⟩ (.int .i64 v3)) g b X4 s3 (zeroP 1 v2 v3) zL) := Lib.hid (F4.out.setID RO_k v2 v3)
  obtain ⟨W5, hW5⟩ : ∃ W, W = (W4.setCell ⟨b, 1, none⟩ (.int .i64 v2)).setCell ⟨b, 2, none⟩ (.int .i64 v3) := ⟨_, rfl⟩
  rw [← hW5] at F5 ⊢
  clear hW5 z1 z2 c0 c1 c2 F4 F3 F2
  have c0 : W5.cell? ⟨b, 0, none⟩ = some (.int .i64 1) := F5.out.box.cell 0
  go_wp2_with fail
  refine (fu_o F5.out 1 Q4.out).mono ?_
  rintro e U4 ⟨rfl, Y4, f4⟩
  have R4 := Lib.hid f4
  clear f4
  clear c0
  have z4 := R4.out.box.frozen 3
  have x4 : U4.cell? ⟨b, 3, none⟩ = some (.int .i64 0) := R4.out.box.cell 3
  have S4 := Lib.hid (R4.out.setCls RO_k v4)
  go_wp2_with fail
  refine (fi_o S4.out Q5.out).mono ?_
  rintro e U5 ⟨rfl, Y5, f5⟩
  have R5 := Lib.hid f5
  clear f5
  have z5 := R5.out.box.frozen 5
  have x5 : U5.cell? ⟨b, 5, none⟩ = some (.int .i64 0) := R5.out.box.cell 5
  have S5 := Lib.hid (R5.out.setSize RO_k v5)
  go_wp2_with fail
  refine (fb_o S5.out 64 Q6.out).mono ?_
  rintro e U6 ⟨A6, n6, d6, Y6, rfl, hv6, f6, hd6, ha6⟩
  have R6 := Lib.hid f6
  have HV6 := Lib.hid hv6
  have HA6 := Lib.hid ha6
  clear f6 hv6 ha6
  have z6 := R6.out.box.frozen 4
  have x6 : U6.cell? ⟨b, 4, none⟩ = some (.string ⟨#[]⟩) := R6.out.box.cell 4
  have hcv := conv_str (P := Try.prog) (w := U6) 24 9 5 Try.underlying24 Try.underlying5 Try.underlying9 A6 n6 d6 v6 HV6.out
  have S6 := Lib.hid (R6.out.setName RO_k v6 b6.1 (by have := b6.2; omega))
  have G : Hid (FW RO W0 (U6.setCell ⟨b, 4, none⟩ (.string (strOfNums v6))) g b Y6 s6 pf zL) := Lib.hid (by rw [HPF.out]; exact S6.out)
  go_wp2_with fail
  refine (fe_o G.out).mono ?_
  rintro e WE ⟨rfl, rfl⟩
  obtain ⟨WF, hWF⟩ : ∃ W, W = (U6.setCell ⟨b, 4, none⟩ (.string (strOfNums v6))) := ⟨_, rfl⟩
  rw [← hWF] at G ⊢
  clear hWF
  clear z4 x4 z5 x5 z6 x6 hcv
  have HPK : Hid (Keep w.heap.size [g] w WF) := Lib.hid (K0.out.trans0 G.out.keep)
  cases hE : endS s6 with
  | false =>
    go_wp2_with fail
    exact ⟨rfl, HPK.out, fun _ => rfl, fun h => absurd h (by simp [okB, hE])⟩
  | true =>
    have HE := Lib.hid hE
    clear hE
    have c0 : WF.cell? ⟨b, 0, none⟩ = some (.int .i64 pf.kind) := (G.out).box.cell 0
    have c1 : WF.cell? ⟨b, 1, none⟩ = some (.int .i64 pf.src) := (G.out).box.cell 1
    have c2 : WF.cell? ⟨b, 2, none⟩ = some (.int .i64 pf.num) := (G.out).box.cell 2
    have c3 : WF.cell? ⟨b, 3, none⟩ = some (.int .i64 pf.cls) := (G.out).box.cell 3
    have c4 : WF.cell? ⟨b, 4, none⟩ = some (.string (strOfNums pf.name)) := (G.out).box.cell 4
    have c5 : WF.cell? ⟨b, 5, none⟩ = some (.int .i64 pf.size) := (G.out).box.cell 5
    have c6 : WF.cell? ⟨b, 6, none⟩ = some (.int .i64 pf.off) := (G.out).box.cell 6
    have c7 : WF.cell? ⟨b, 7, none⟩ = some (.slice (zL : Lc).D (zL : Lc).dn (zL : Lc).dc) := (G.out).box.cell 7
    have c8 : WF.cell? ⟨b, 8, none⟩ = some (.int .u32 pf.sum) := (G.out).box.cell 8
    have c9 : WF.cell? ⟨b, 9, none⟩ = some (.int .i64 pf.code) := (G.out).box.cell 9
    have c10 : WF.cell? ⟨b, 10, none⟩ = some (.slice (zL : Lc).G (zL : Lc).gn (zL : Lc).gc) := (G.out).box.cell 10
    go_wp2_with fail
    cases hvb : validP pf with
    | false =>
      refine (pvalid_b _ pf zL false G.out.pin hvb).mono ?_
      rintro e WV ⟨rfl, hkv⟩
      have FV := Lib.hid (G.out.other RO_k hkv)
      clear hkv c0 c1 c2 c3 c4 c5 c6 c7 c8 c9 c10
      go_wp2_with fail
      exact ⟨rfl, K0.out.trans0 FV.out.keep, fun _ => rfl, fun h => absurd h (by simp [okB, hvb])⟩
    | true =>
      refine (pvalid_b _ pf zL true G.out.pin hvb).mono ?_
      rintro e WV ⟨rfl, hkv⟩
      have FV := Lib.hid (G.out.other RO_k hkv)
      clear hkv c0 c1 c2 c3 c4 c5 c6 c7 c8 c9 c10
      have BR : Hid (Blk WV r TP (pcs zP zL)) := Lib.hid (B0.out.keep FV.out.keep hrl (by have := FV.out.hg; simp; omega))
      have c0 : WV.cell? ⟨b, 0, none⟩ = some (.int .i64 pf.kind) := (FV.out).box.cell 0
      have c1 : WV.cell? ⟨b, 1, none⟩ = some (.int .i64 pf.src) := (FV.out).box.cell 1
      have c2 : WV.cell? ⟨b, 2, none⟩ = some (.int .i64 pf.num) := (FV.out).box.cell 2
      have c3 : WV.cell? ⟨b, 3, none⟩ = some (.int .i64 pf.cls) := (FV.out).box.cell 3
      have c4 : WV.cell? ⟨b, 4, none⟩ = some (.string (strOfNums pf.name)) := (FV.out).box.cell 4
      have c5 : WV.cell? ⟨b, 5, none⟩ = some (.int .i64 pf.size) := (FV.out).box.cell 5
      have c6 : WV.cell? ⟨b, 6, none⟩ = some (.int .i64 pf.off) := (FV.out).box.cell 6
      have c7 : WV.cell? ⟨b, 7, none⟩ = some (.slice (zL : Lc).D (zL : Lc).dn (zL : Lc).dc) := (FV.out).box.cell 7
      have c8 : WV.cell? ⟨b, 8, none⟩ = some (.int .u32 pf.sum) := (FV.out).box.cell 8
      have c9 : WV.cell? ⟨b, 9, none⟩ = some (.int .i64 pf.code) := (FV.out).box.cell 9
      have c10 : WV.cell? ⟨b, 10, none⟩ = some (.slice (zL : Lc).G (zL : Lc).gn (zL : Lc).gc) := (FV.out).box.cell 10
      have y0 := BR.out.frozen 0
      have x0 : WV.cell? ⟨r, 0, none⟩ = some (.int .i64 0) := BR.out.cell 0
      have y1 := BR.out.frozen 1
      have x1 : WV.cell? ⟨r, 1, none⟩ = some (.int .i64 0) := BR.out.cell 1
      have y2 := BR.out.frozen 2
      have x2 : WV.cell? ⟨r, 2, none⟩ = some (.int .i64 0) := BR.out.cell 2
      have y3 := BR.out.frozen 3
      have x3 : WV.cell? ⟨r, 3, none⟩ = some (.int .i64 0) := BR.out.cell 3
      have y4 := BR.out.frozen 4
      have x4 : WV.cell? ⟨r, 4, none⟩ = some (.string ⟨#[]⟩) := BR.out.cell 4
      have y5 := BR.out.frozen 5
      have x5 : WV.cell? ⟨r, 5, none⟩ = some (.int .i64 0) := BR.out.cell 5
      have y6 := BR.out.frozen 6
      have x6 : WV.cell? ⟨r, 6, none⟩ = some (.int .i64 0) := BR.out.cell 6
      have y7 := BR.out.frozen 7
      have x7 : WV.cell? ⟨r, 7, none⟩ = some (.slice none 0 0) := BR.out.cell 7
      have y8 := BR.out.frozen 8
      have x8 : WV.cell? ⟨r, 8, none⟩ = some (.int .u32 0) := BR.out.cell 8
      have y9 := BR.out.frozen 9
      have x9 : WV.cell? ⟨r, 9, none⟩ = some (.int .i64 0) := BR.out.cell 9
      have y10 := BR.out.frozen 10
      have x10 : WV.cell? ⟨r, 10, none⟩ = some (.slice none 0 0) := BR.out.cell 10
      go_wp2_with fail
      refine bodyPost_ret (v := .agg (pcs pf zL)) (by simp [pcs, results, Try.results37, go_sem, x0, x1, x2, x3, x4, x5, x6, x7, x8, x9, x10]) rfl ?_
      have HRE := ret_ok (r := r) (K0.out.trans0 FV.out.keep) hr0 FV.out.pin (fun x hx => by have := (FV.out.hD x hx).1; omega) (fun x hx => by have := (FV.out.hG x hx).1; omega)
      exact ⟨HRE.1, fun h => absurd h (by simp [okB, HE.out, hvb]), fun _ => ⟨_, rfl, HRE.2, (fun x hx => by have := (FV.out.hD x hx).1; have := K0.out.size; omega), (fun x hx => by have := (FV.out.hG x hx).1; have := K0.out.size; omega)⟩⟩
set_option maxRecDepth 100000 in
set_option maxHeartbeats 16000000 in
theorem pfld_2 (w : World) (g : Nat) (X : Option Addr) (s0 : RS) (hok : RSok s0) (hr : RO w g X s0) (hg : g < w.heap.size) (hX : ∀ x, x ∈ blks X → x < w.heap.size) (hk : (stU s0 1).1 = 2) : Calls Try.prog 37 #[bptr g] w (FdPost w g (fld s0)) := by
  have ok0 := hok
  obtain ⟨v1, s1, q1⟩ : ∃ v s, stU s0 1 = (v, s) := ⟨_, _, rfl⟩
  have ok1 : RSok s1 := by have := stU_ok (z := 1) ok0; rw [q1] at this; exact this
  have b1 := stU_bd 1 ok0 q1
  obtain ⟨v2, s2, q2⟩ : ∃ v s, stU s1 1 = (v, s) := ⟨_, _, rfl⟩
  have ok2 : RSok s2 := by have := stU_ok (z := 1) ok1; rw [q2] at this; exact this
  have b2 := stU_bd 1 ok1 q2
  obtain ⟨v3, s3, q3⟩ : ∃ v s, stU s2 2 = (v, s) := ⟨_, _, rfl⟩
  have ok3 : RSok s3 := by have := stU_ok (z := 2) ok2; rw [q3] at this; exact this
  have b3 := stU_bd 2 ok2 q3
  obtain ⟨v4, s4, q4⟩ : ∃ v s, stI s3 = (v, s) := ⟨_, _, rfl⟩
  have ok4 : RSok s4 := by have := stI_ok ok3; rw [q4] at this; exact this
  obtain ⟨v5, s5, q5⟩ : ∃ v s, stB s4 512 = (v, s) := ⟨_, _, rfl⟩
  have ok5 : RSok s5 := by have := stB_ok (z := 512) ok4; rw [q5] at this; exact this
  have b5 := stB_bd ok4 (by omega) q5
  rw [q1] at hk
  simp only at hk
  subst hk
  obtain ⟨pf, hpf⟩ : ∃ p : Pd, p = { zeroP 2 v2 v3 with off := v4, data := v5 } := ⟨_, rfl⟩
  have hfl : fld s0 = (pf, s5) := by
    rw [hpf]; unfold fld fldH; simp only [q1, q2, q3]; unfold fldB; simp [zeroP, q4, q5]
  rw [hfl]
  clear hfl
  have e2 := i64_in v2 (by omega) (by omega)
  have e3 := i64_in v3 (by omega) (by omega)
  have Q1 := Lib.hid q1
  have Q2 := Lib.hid q2
  have Q3 := Lib.hid q3
  have Q4 := Lib.hid q4
  have Q5 := Lib.hid q5
  have HPF := Lib.hid hpf
  clear hpf q1 q2 q3 q4 q5
  have OK0 := Lib.hid ok0
  have OK1 := Lib.hid ok1
  have OK2 := Lib.hid ok2
  have OK3 := Lib.hid ok3
  have OK4 := Lib.hid ok4
  have OK5 := Lib.hid ok5
  have HR0 := Lib.hid hr
  clear hr hok ok0 ok1 ok2 ok3 ok4 ok5
  have k1 : Keep w.heap.size [] w (w.alloc (.cells (pcs zP zL) TP)) := (Keep.refl _ _ w).alloc (Nat.le_refl _) _
  have hb0 := Blk.new w TP (pcs zP zL)
  obtain ⟨W0, hW0⟩ : ∃ W0, W0 = w.alloc (.cells (pcs zP zL) TP) := ⟨_, rfl⟩
  rw [← hW0] at k1 hb0
  have K0 := Lib.hid k1
  obtain ⟨r, hrr⟩ : ∃ r, r = w.heap.size := ⟨_, rfl⟩
  have B0 : Hid (Blk W0 r TP (pcs zP zL)) := Lib.hid (by rw [hrr]; exact hb0)
  have hr0 : w.heap.size ≤ r := by omega
  have hrl := B0.out.lt
  have R0 : Hid (RO W0 g X s0) := Lib.hid (RO_k _ _ _ _ _ _ HR0.out k1 (by simp) (by simp))
  clear hb0 k1
  go_enter Try.func37, Try.ntmps37
  go_upto_region 1 with fail
  change Code.wp _ _ _ _ (w.alloc (.cells (pcs zP zL) TP))
  rw [← hW0, ← hrr]
  clear hW0 hrr
  go_wp2_with fail
  refine (ruint_s _ g X s0 1 OK0.out R0.out).mono ?_
  rintro e W1 ⟨X1, rfl, h1, h2, h3⟩
  rw [Q1.out] at h1 ⊢
  simp only at h1
  have H1 := Lib.hid h1
  have K1 := Lib.hid h2
  have XX := Lib.hid h3
  clear h1 h2 h3
  go_upto_region 2 with fail
  change Code.wp _ _ _ _ (W1.alloc (.cells (pcs (zeroP 2 0 0) zL) TP))
  have F2 := Lib.hid (FW.first RO_k (by have := K0.out.size; omega) (fun x hx => by have := hX x hx; have := K0.out.size; omega) H1.out OK1.out K1.out XX.out 2)
  obtain ⟨W2, hW2⟩ : ∃ W, W = W1.alloc (.cells (pcs (zeroP 2 0 0) zL) TP) := ⟨_, rfl⟩
  obtain ⟨b, hbq⟩ : ∃ b, b = W1.heap.size := ⟨_, rfl⟩
  rw [← hW2, ← hbq] at F2 ⊢
  clear hW2 hbq
  go_wp2_with fail
  refine (fu_o F2.out 1 Q2.out).mono ?_
  rintro e W3 ⟨rfl, X3, f3⟩
  have F3 := Lib.hid f3
  clear f3
  go_wp2_with fail
  refine (fu_o F3.out 2 Q3.out).mono ?_
  rintro e W4 ⟨rfl, X4, f4⟩
  have F4 := Lib.hid f4
  clear f4
  have z1 := F4.out.box.frozen 1
  have z2 := F4.out.box.frozen 2
  have c0 : W4.cell? ⟨b, 0, none⟩ = some (.int .i64 2) := F4.out.box.cell 0
  have c1 : W4.cell? ⟨b, 1, none⟩ = some (.int .i64 0) := F4.out.box.cell 1
  have c2 : W4.cell? ⟨b, 2, none⟩ = some (.int .i64 0) := F4.out.box.cell 2
  go_upto_region 3 with fail
  have F5 : Hid (FW RO W0 ((W4.setCell ⟨b, 1, none⟩ (.int .i64 v2)).setCell ⟨b, 2, none⟩ (.int .i64 v3)) g b X4 s3 (zeroP 2 v2 v3) zL) := Lib.hid (F4.out.setID RO_k v2 v3)
  obtain ⟨W5, hW5⟩ : ∃ W, W = (W4.setCell ⟨b, 1, none⟩ (.int .i64 v2)).setCell ⟨b, 2, none⟩ (.int .i64 v3) := ⟨_, rfl⟩
  rw [← hW5] at F5 ⊢
  clear hW5 z1 z2 c0 c1 c2 F4 F3 F2
  have c0 : W5.cell? ⟨b, 0, none⟩ = some (.int .i64 2) := F5.out.box.cell 0
  go_wp2_with fail
  refine (fi_o F5.out Q4.out).mono ?_
  rintro e U4 ⟨rfl, Y4, f4⟩
  have R4 := Lib.hid f4
  clear f4
  clear c0
  have z4 := R4.out.box.frozen 6
  have x4 : U4.cell? ⟨b, 6, none⟩ = some (.int .i64 0) := R4.out.box.cell 6
  have S4 := Lib.hid (R4.out.setOff RO_k v4)
  go_wp2_with fail
  refine (fb_o S4.out 512 Q5.out).mono ?_
  rintro e U5 ⟨A5, n5, d5, Y5, rfl, hv5, f5, hd5, ha5⟩
  have R5 := Lib.hid f5
  have HV5 := Lib.hid hv5
  have HA5 := Lib.hid ha5
  clear f5 hv5 ha5
  have z5 := R5.out.box.frozen 7
  have x5 : U5.cell? ⟨b, 7, none⟩ = some (.slice none 0 0) := R5.out.box.cell 7
  have S5 := Lib.hid (R5.out.setData RO_k v5 A5 n5 d5 b5.1 HV5.out hd5 (by have := b5.2; have := HV5.out.1; simp [octs] at this; omega) HA5.out)
  have G : Hid (FW RO W0 (U5.setCell ⟨b, 7, none⟩ (.slice A5 n5 d5)) g b Y5 s5 pf ⟨A5, n5, d5, none, 0, 0⟩) := Lib.hid (by rw [HPF.out]; exact S5.out)
  go_wp2_with fail
  refine (fe_o G.out).mono ?_
  rintro e WE ⟨rfl, rfl⟩
  obtain ⟨WF, hWF⟩ : ∃ W, W = (U5.setCell ⟨b, 7, none⟩ (.slice A5 n5 d5)) := ⟨_, rfl⟩
  rw [← hWF] at G ⊢
  clear hWF
  clear z4 x4 z5 x5
  have HPK : Hid (Keep w.heap.size [g] w WF) := Lib.hid (K0.out.trans0 G.out.keep)
  cases hE : endS s5 with
  | false =>
    go_wp2_with fail
    exact ⟨rfl, HPK.out, fun _ => rfl, fun h => absurd h (by simp [okB, hE])⟩
  | true =>
    have HE := Lib.hid hE
    clear hE
    have c0 : WF.cell? ⟨b, 0, none⟩ = some (.int .i64 pf.kind) := (G.out).box.cell 0
    have c1 : WF.cell? ⟨b, 1, none⟩ = some (.int .i64 pf.src) := (G.out).box.cell 1
    have c2 : WF.cell? ⟨b, 2, none⟩ = some (.int .i64 pf.num) := (G.out).box.cell 2
    have c3 : WF.cell? ⟨b, 3, none⟩ = some (.int .i64 pf.cls) := (G.out).box.cell 3
    have c4 : WF.cell? ⟨b, 4, none⟩ = some (.string (strOfNums pf.name)) := (G.out).box.cell 4
    have c5 : WF.cell? ⟨b, 5, none⟩ = some (.int .i64 pf.size) := (G.out).box.cell 5
    have c6 : WF.cell? ⟨b, 6, none⟩ = some (.int .i64 pf.off) := (G.out).box.cell 6
    have c7 : WF.cell? ⟨b, 7, none⟩ = some (.slice (⟨A5, n5, d5, none, 0, 0⟩ : Lc).D (⟨A5, n5, d5, none, 0, 0⟩ : Lc).dn (⟨A5, n5, d5, none, 0, 0⟩ : Lc).dc) := (G.out).box.cell 7
    have c8 : WF.cell? ⟨b, 8, none⟩ = some (.int .u32 pf.sum) := (G.out).box.cell 8
    have c9 : WF.cell? ⟨b, 9, none⟩ = some (.int .i64 pf.code) := (G.out).box.cell 9
    have c10 : WF.cell? ⟨b, 10, none⟩ = some (.slice (⟨A5, n5, d5, none, 0, 0⟩ : Lc).G (⟨A5, n5, d5, none, 0, 0⟩ : Lc).gn (⟨A5, n5, d5, none, 0, 0⟩ : Lc).gc) := (G.out).box.cell 10
    go_wp2_with fail
    cases hvb : validP pf with
    | false =>
      refine (pvalid_b _ pf ⟨A5, n5, d5, none, 0, 0⟩ false G.out.pin hvb).mono ?_
      rintro e WV ⟨rfl, hkv⟩
      have FV := Lib.hid (G.out.other RO_k hkv)
      clear hkv c0 c1 c2 c3 c4 c5 c6 c7 c8 c9 c10
      go_wp2_with fail
      exact ⟨rfl, K0.out.trans0 FV.out.keep, fun _ => rfl, fun h => absurd h (by simp [okB, hvb])⟩
    | true =>
      refine (pvalid_b _ pf ⟨A5, n5, d5, none, 0, 0⟩ true G.out.pin hvb).mono ?_
      rintro e WV ⟨rfl, hkv⟩
      have FV := Lib.hid (G.out.other RO_k hkv)
      clear hkv c0 c1 c2 c3 c4 c5 c6 c7 c8 c9 c10
      have BR : Hid (Blk WV r TP (pcs zP zL)) := Lib.hid (B0.out.keep FV.out.keep hrl (by have := FV.out.hg; simp; omega))
      have c0 : WV.cell? ⟨b, 0, none⟩ = some (.int .i64 pf.kind) := (FV.out).box.cell 0
      have c1 : WV.cell? ⟨b, 1, none⟩ = some (.int .i64 pf.src) := (FV.out).box.cell 1
      have c2 : WV.cell? ⟨b, 2, none⟩ = some (.int .i64 pf.num) := (FV.out).box.cell 2
      have c3 : WV.cell? ⟨b, 3, none⟩ = some (.int .i64 pf.cls) := (FV.out).box.cell 3
      have c4 : WV.cell? ⟨b, 4, none⟩ = some (.string (strOfNums pf.name)) := (FV.out).box.cell 4
      have c5 : WV.cell? ⟨b, 5, none⟩ = some (.int .i64 pf.size) := (FV.out).box.cell 5
      have c6 : WV.cell? ⟨b, 6, none⟩ = some (.int .i64 pf.off) := (FV.out).box.cell 6
      have c7 : WV.cell? ⟨b, 7, none⟩ = some (.slice (⟨A5, n5, d5, none, 0, 0⟩ : Lc).D (⟨A5, n5, d5, none, 0, 0⟩ : Lc).dn (⟨A5, n5, d5, none, 0, 0⟩ : Lc).dc) := (FV.out).box.cell 7
      have c8 : WV.cell? ⟨b, 8, none⟩ = some (.int .u32 pf.sum) := (FV.out).box.cell 8
      have c9 : WV.cell? ⟨b, 9, none⟩ = some (.int .i64 pf.code) := (FV.out).box.cell 9
      have c10 : WV.cell? ⟨b, 10, none⟩ = some (.slice (⟨A5, n5, d5, none, 0, 0⟩ : Lc).G (⟨A5, n5, d5, none, 0, 0⟩ : Lc).gn (⟨A5, n5, d5, none, 0, 0⟩ : Lc).gc) := (FV.out).box.cell 10
      have y0 := BR.out.frozen 0
      have x0 : WV.cell? ⟨r, 0, none⟩ = some (.int .i64 0) := BR.out.cell 0
      have y1 := BR.out.frozen 1
      have x1 : WV.cell? ⟨r, 1, none⟩ = some (.int .i64 0) := BR.out.cell 1
      have y2 := BR.out.frozen 2
      have x2 : WV.cell? ⟨r, 2, none⟩ = some (.int .i64 0) := BR.out.cell 2
      have y3 := BR.out.frozen 3
      have x3 : WV.cell? ⟨r, 3, none⟩ = some (.int .i64 0) := BR.out.cell 3
      have y4 := BR.out.frozen 4
      have x4 : WV.cell? ⟨r, 4, none⟩ = some (.string ⟨#[]⟩) := BR.out.cell 4
      have y5 := BR.out.frozen 5
      have x5 : WV.cell? ⟨r, 5, none⟩ = some (.int .i64 0) := BR.out.cell 5
      have y6 := BR.out.frozen 6
      have x6 : WV.cell? ⟨r, 6, none⟩ = some (.int .i64 0) := BR.out.cell 6
      have y7 := BR.out.frozen 7
      have x7 : WV.cell? ⟨r, 7, none⟩ = some (.slice none 0 0) := BR.out.cell 7
      have y8 := BR.out.frozen 8
      have x8 : WV.cell? ⟨r, 8, none⟩ = some (.int .u32 0) := BR.out.cell 8
      have y9 := BR.out.frozen 9
      have x9 : WV.cell? ⟨r, 9, none⟩ = some (.int .i64 0) := BR.out.cell 9
      have y10 := BR.out.frozen 10
      have x10 : WV.cell? ⟨r, 10, none⟩ = some (.slice none 0 0) := BR.out.cell 10
      go_wp2_with fail
      refine bodyPost_ret (v := .agg (pcs pf ⟨A5, n5, d5, none, 0, 0⟩)) (by simp [pcs, results, Try.results37, go_sem, x0, x1, x2, x3, x4, x5, x6, x7, x8, x9, x10]) rfl ?_
      have HRE := ret_ok (r := r) (K0.out.trans0 FV.out.keep) hr0 FV.out.pin (fun x hx => by have := (FV.out.hD x hx).1; omega) (fun x hx => by have := (FV.out.hG x hx).1; omega)
      exact ⟨HRE.1, fun h => absurd h (by simp [okB, HE.out, hvb]), fun _ => ⟨_, rfl, HRE.2, (fun x hx => by have := (FV.out.hD x hx).1; have := K0.out.size; omega), (fun x hx => by have := (FV.out.hG x hx).1; have := K0.out.size; omega)⟩⟩
set_option maxRecDepth 100000 in
set_option maxHeartbeats 16000000 in
theorem pfld_3 (w : World) (g : Nat) (X : Option Addr) (s0 : RS) (hok : RSok s0) (hr : RO w g X s0) (hg : g < w.heap.size) (hX : ∀ x, x ∈ blks X → x < w.heap.size) (hk : (stU s0 1).1 = 3) : Calls Try.prog 37 #[bptr g] w (FdPost w g (fld s0)) := by
  have ok0 := hok
  obtain ⟨v1, s1, q1⟩ : ∃ v s, stU s0 1 = (v, s) := ⟨_, _, rfl⟩
  have ok1 : RSok s1 := by have := stU_ok (z := 1) ok0; rw [q1] at this; exact this
  have b1 := stU_bd 1 ok0 q1
  obtain ⟨v2, s2, q2⟩ : ∃ v s, stU s1 1 = (v, s) := ⟨_, _, rfl⟩
  have ok2 : RSok s2 := by have := stU_ok (z := 1) ok1; rw [q2] at this; exact this
  have b2 := stU_bd 1 ok1 q2
  obtain ⟨v3, s3, q3⟩ : ∃ v s, stU s2 2 = (v, s) := ⟨_, _, rfl⟩
  have ok3 : RSok s3 := by have := stU_ok (z := 2) ok2; rw [q3] at this; exact this
  have b3 := stU_bd 2 ok2 q3
  obtain ⟨v4, s4, q4⟩ : ∃ v s, stU s3 1 = (v, s) := ⟨_, _, rfl⟩
  have ok4 : RSok s4 := by have := stU_ok (z := 1) ok3; rw [q4] at this; exact this
  have b4 := stU_bd 1 ok3 q4
  obtain ⟨v5, s5, q5⟩ : ∃ v s, stI s4 = (v, s) := ⟨_, _, rfl⟩
  have ok5 : RSok s5 := by have := stI_ok ok4; rw [q5] at this; exact this
  obtain ⟨v6, s6, q6⟩ : ∃ v s, stU s5 4 = (v, s) := ⟨_, _, rfl⟩
  have ok6 : RSok s6 := by have := stU_ok (z := 4) ok5; rw [q6] at this; exact this
  have b6 := stU_bd 4 ok5 q6
  obtain ⟨v7, s7, q7⟩ : ∃ v s, stU s6 1 = (v, s) := ⟨_, _, rfl⟩
  have ok7 : RSok s7 := by have := stU_ok (z := 1) ok6; rw [q7] at this; exact this
  have b7 := stU_bd 1 ok6 q7
  rw [q1] at hk
  simp only at hk
  subst hk
  obtain ⟨pf, hpf⟩ : ∃ p : Pd, p = { zeroP 3 v2 v3 with cls := v4, size := v5, sum := v6, code := v7 } := ⟨_, rfl⟩
  have hfl : fld s0 = (pf, s7) := by
    rw [hpf]; unfold fld fldH; simp only [q1, q2, q3]; unfold fldB; simp [zeroP, q4, q5, q6, q7]
  rw [hfl]
  clear hfl
  have e2 := i64_in v2 (by omega) (by omega)
  have e3 := i64_in v3 (by omega) (by omega)
  have e4 := i64_in v4 (by omega) (by omega)
  have e6 := u32_in v6 (by omega) (by omega)
  have e7 := i64_in v7 (by omega) (by omega)
  have Q1 := Lib.hid q1
  have Q2 := Lib.hid q2
  have Q3 := Lib.hid q3
  have Q4 := Lib.hid q4
  have Q5 := Lib.hid q5
  have Q6 := Lib.hid q6
  have Q7 := Lib.hid q7
  have HPF := Lib.hid hpf
  clear hpf q1 q2 q3 q4 q5 q6 q7
  have OK0 := Lib.hid ok0
  have OK1 := Lib.hid ok1
  have OK2 := Lib.hid ok2
  have OK3 := Lib.hid ok3
  have OK4 := Lib.hid ok4
  have OK5 := Lib.hid ok5
  have OK6 := Lib.hid ok6
  have OK7 := Lib.hid ok7
  have HR0 := Lib.hid hr
  clear hr hok ok0 ok1 ok2 ok3 ok4 ok5 ok6 ok7
  have k1 : Keep w.heap.size [] w (w.alloc (.cells (pcs zP zL) TP)) := (Keep.refl _ _ w).alloc (Nat.le_refl _) _
  have hb0 := Blk.new w TP (pcs zP zL)
  obtain ⟨W0, hW0⟩ : ∃ W0, W0 = w.alloc (.cells (pcs zP zL) TP) := ⟨_, rfl⟩
  rw [← hW0] at k1 hb0
  have K0 := Lib.hid k1
  obtain ⟨r, hrr⟩ : ∃ r, r = w.heap.size := ⟨_, rfl⟩
  have B0 : Hid (Blk W0 r TP (pcs zP zL)) := Lib.hid (by rw [hrr]; exact hb0)
  have hr0 : w.heap.size ≤ r := by omega
  have hrl := B0.out.lt
  have R0 : Hid (RO W0 g X s0) := Lib.hid (RO_k _ _ _ _ _ _ HR0.out k1 (by simp) (by simp))
  clear hb0 k1
  go_enter Try.func37, Try.ntmps37
  go_upto_region 1 with fail
  change Code.wp _ _ _ _ (w.alloc (.cells (pcs zP zL) TP))
  rw [← hW0, ← hrr]
  clear hW0 hrr
  go_wp2_with fail
  refine (ruint_s _ g X s0 1 OK0.out R0.out).mono ?_
  rintro e W1 ⟨X1, rfl, h1, h2, h3⟩
  rw [Q1.out] at h1 ⊢
  simp only at h1
  have H1 := Lib.hid h1
  have K1 := Lib.hid h2
  have XX := Lib.hid h3
  clear h1 h2 h3
  go_upto_region 2 with fail
  change Code.wp _ _ _ _ (W1.alloc (.cells (pcs (zeroP 3 0 0) zL) TP))
  have F2 := Lib.hid (FW.first RO_k (by have := K0.out.size; omega) (fun x hx => by have := hX x hx; have := K0.out.size; omega) H1.out OK1.out K1.out XX.out 3)
  obtain ⟨W2, hW2⟩ : ∃ W, W = W1.alloc (.cells (pcs (zeroP 3 0 0) zL) TP) := ⟨_, rfl⟩
  obtain ⟨b, hbq⟩ : ∃ b, b = W1.heap.size := ⟨_, rfl⟩
  rw [← hW2, ← hbq] at F2 ⊢
  clear hW2 hbq
  go_wp2_with fail
  refine (fu_o F2.out 1 Q2.out).mono ?_
  rintro e W3 ⟨rfl, X3, f3⟩
  have F3 := Lib.hid f3
  clear f3
  go_wp2_with fail
  refine (fu_o F3.out 2 Q3.out).mono ?_
  rintro e W4 ⟨rfl, X4, f4⟩
  have F4 := Lib.hid f4
  clear f4
  have z1 := F4.out.box.frozen 1
  have z2 := F4.out.box.frozen 2
  have c0 : W4.cell? ⟨b, 0, none⟩ = some (.int .i64 3) := F4.out.box.cell 0
  have c1 : W4.cell? ⟨b, 1, none⟩ = some (.int .i64 0) := F4.out.box.cell 1
  have c2 : W4.cell? ⟨b, 2, none⟩ = some (.int .i64 0) := F4.out.box.cell 2
  go_upto_region 3 with fail
  have F5 : Hid (FW RO W0 ((W4.setCell ⟨b, 1, none⟩ (.int .i64 v2)).setCell ⟨b, 2, none⟩ (.int .i64 v3)) g b X4 s3 (zeroP 3 v2 v3) zL) := Lib.hid (F4.out.setID RO_k v2 v3)
  obtain ⟨W5, hW5⟩ : ∃ W, W = (W4.setCell ⟨b, 1, none⟩ (.int .i64 v2)).setCell ⟨b, 2, none⟩ (.int .i64 v3) := ⟨_, rfl⟩
  rw [← hW5] at F5 ⊢
  clear hW5 z1 z2 c0 c1 c2 F4 F3 F2
  have c0 : W5.cell? ⟨b, 0, none⟩ = some (.int .i64 3) := F5.out.box.cell 0
  go_wp2_with fail
  refine (fu_o F5.out 1 Q4.out).mono ?_
  rintro e U4 ⟨rfl, Y4, f4⟩
  have R4 := Lib.hid f4
  clear f4
  clear c0
  have z4 := R4.out.box.frozen 3
  have x4 : U4.cell? ⟨b, 3, none⟩ = some (.int .i64 0) := R4.out.box.cell 3
  have S4 := Lib.hid (R4.out.setCls RO_k v4)
  go_wp2_with fail
  refine (fi_o S4.out Q5.out).mono ?_
  rintro e U5 ⟨rfl, Y5, f5⟩
  have R5 := Lib.hid f5
  clear f5
  have z5 := R5.out.box.frozen 5
  have x5 : U5.cell? ⟨b, 5, none⟩ = some (.int .i64 0) := R5.out.box.cell 5
  have S5 := Lib.hid (R5.out.setSize RO_k v5)
  go_wp2_with fail
  refine (fu_o S5.out 4 Q6.out).mono ?_
  rintro e U6 ⟨rfl, Y6, f6⟩
  have R6 := Lib.hid f6
  clear f6
  have z6 := R6.out.box.frozen 8
  have x6 : U6.cell? ⟨b, 8, none⟩ = some (.int .u32 0) := R6.out.box.cell 8
  have S6 := Lib.hid (R6.out.setSum RO_k v6 (by omega))
  go_wp2_with fail
  refine (fu_o S6.out 1 Q7.out).mono ?_
  rintro e U7 ⟨rfl, Y7, f7⟩
  have R7 := Lib.hid f7
  clear f7
  have z7 := R7.out.box.frozen 9
  have x7 : U7.cell? ⟨b, 9, none⟩ = some (.int .i64 0) := R7.out.box.cell 9
  have S7 := Lib.hid (R7.out.setCode RO_k v7)
  have G : Hid (FW RO W0 (U7.setCell ⟨b, 9, none⟩ (.int .i64 v7)) g b Y7 s7 pf zL) := Lib.hid (by rw [HPF.out]; exact S7.out)
  go_wp2_with fail
  refine (fe_o G.out).mono ?_
  rintro e WE ⟨rfl, rfl⟩
  obtain ⟨WF, hWF⟩ : ∃ W, W = (U7.setCell ⟨b, 9, none⟩ (.int .i64 v7)) := ⟨_, rfl⟩
  rw [← hWF] at G ⊢
  clear hWF
  clear z4 x4 z5 x5 z6 x6 z7 x7
  have HPK : Hid (Keep w.heap.size [g] w WF) := Lib.hid (K0.out.trans0 G.out.keep)
  cases hE : endS s7 with
  | false =>
    go_wp2_with fail
    exact ⟨rfl, HPK.out, fun _ => rfl, fun h => absurd h (by simp [okB, hE])⟩
  | true =>
    have HE := Lib.hid hE
    clear hE
    have c0 : WF.cell? ⟨b, 0, none⟩ = some (.int .i64 pf.kind) := (G.out).box.cell 0
    have c1 : WF.cell? ⟨b, 1, none⟩ = some (.int .i64 pf.src) := (G.out).box.cell 1
    have c2 : WF.cell? ⟨b, 2, none⟩ = some (.int .i64 pf.num) := (G.out).box.cell 2
    have c3 : WF.cell? ⟨b, 3, none⟩ = some (.int .i64 pf.cls) := (G.out).box.cell 3
    have c4 : WF.cell? ⟨b, 4, none⟩ = some (.string (strOfNums pf.name)) := (G.out).box.cell 4
    have c5 : WF.cell? ⟨b, 5, none⟩ = some (.int .i64 pf.size) := (G.out).box.cell 5
    have c6 : WF.cell? ⟨b, 6, none⟩ = some (.int .i64 pf.off) := (G.out).box.cell 6
    have c7 : WF.cell? ⟨b, 7, none⟩ = some (.slice (zL : Lc).D (zL : Lc).dn (zL : Lc).dc) := (G.out).box.cell 7
    have c8 : WF.cell? ⟨b, 8, none⟩ = some (.int .u32 pf.sum) := (G.out).box.cell 8
    have c9 : WF.cell? ⟨b, 9, none⟩ = some (.int .i64 pf.code) := (G.out).box.cell 9
    have c10 : WF.cell? ⟨b, 10, none⟩ = some (.slice (zL : Lc).G (zL : Lc).gn (zL : Lc).gc) := (G.out).box.cell 10
    go_wp2_with fail
    cases hvb : validP pf with
    | false =>
      refine (pvalid_b _ pf zL false G.out.pin hvb).mono ?_
      rintro e WV ⟨rfl, hkv⟩
      have FV := Lib.hid (G.out.other RO_k hkv)
      clear hkv c0 c1 c2 c3 c4 c5 c6 c7 c8 c9 c10
      go_wp2_with fail
      exact ⟨rfl, K0.out.trans0 FV.out.keep, fun _ => rfl, fun h => absurd h (by simp [okB, hvb])⟩
    | true =>
      refine (pvalid_b _ pf zL true G.out.pin hvb).mono ?_
      rintro e WV ⟨rfl, hkv⟩
      have FV := Lib.hid (G.out.other RO_k hkv)
      clear hkv c0 c1 c2 c3 c4 c5 c6 c7 c8 c9 c10
      have BR : Hid (Blk WV r TP (pcs zP zL)) := Lib.hid (B0.out.keep FV.out.keep hrl (by have := FV.out.hg; simp; omega))
      have c0 : WV.cell? ⟨b, 0, none⟩ = some (.int .i64 pf.kind) := (FV.out).box.cell 0
      have c1 : WV.cell? ⟨b, 1, none⟩ = some (.int .i64 pf.src) := (FV.out).box.cell 1
      have c2 : WV.cell? ⟨b, 2, none⟩ = some (.int .i64 pf.num) := (FV.out).box.cell 2
      have c3 : WV.cell? ⟨b, 3, none⟩ = some (.int .i64 pf.cls) := (FV.out).box.cell 3
      have c4 : WV.cell? ⟨b, 4, none⟩ = some (.string (strOfNums pf.name)) := (FV.out).box.cell 4
      have c5 : WV.cell? ⟨b, 5, none⟩ = some (.int .i64 pf.size) := (FV.out).box.cell 5
      have c6 : WV.cell? ⟨b, 6, none⟩ = some (.int .i64 pf.off) := (FV.out).box.cell 6
      have c7 : WV.cell? ⟨b, 7, none⟩ = some (.slice (zL : Lc).D (zL : Lc).dn (zL : Lc).dc) := (FV.out).box.cell 7
      have c8 : WV.cell? ⟨b, 8, none⟩ = some (.int .u32 pf.sum) := (FV.out).box.cell 8
      have c9 : WV.cell? ⟨b, 9, none⟩ = some (.int .i64 pf.code) := (FV.out).box.cell 9
      have c10 : WV.cell? ⟨b, 10, none⟩ = some (.slice (zL : Lc).G (zL : Lc).gn (zL : Lc).gc) := (FV.out).box.cell 10
      have y0 := BR.out.frozen 0
      have x0 : WV.cell? ⟨r, 0, none⟩ = some (.int .i64 0) := BR.out.cell 0
      have y1 := BR.out.frozen 1
      have x1 : WV.cell? ⟨r, 1, none⟩ = some (.int .i64 0) := BR.out.cell 1
      have y2 := BR.out.frozen 2
      have x2 : WV.cell? ⟨r, 2, none⟩ = some (.int .i64 0) := BR.out.cell 2
      have y3 := BR.out.frozen 3
      have x3 : WV.cell? ⟨r, 3, none⟩ = some (.int .i64 0) := BR.out.cell 3
      have y4 := BR.out.frozen 4
      have x4 : WV.cell? ⟨r, 4, none⟩ = some (.string ⟨#[]⟩) := BR.out.cell 4
      have y5 := BR.out.frozen 5
      have x5 : WV.cell? ⟨r, 5, none⟩ = some (.int .i64 0) := BR.out.cell 5
      have y6 := BR.out.frozen 6
      have x6 : WV.cell? ⟨r, 6, none⟩ = some (.int .i64 0) := BR.out.cell 6
      have y7 := BR.out.frozen 7
      have x7 : WV.cell? ⟨r, 7, none⟩ = some (.slice none 0 0) := BR.out.cell 7
      have y8 := BR.out.frozen 8
      have x8 : WV.cell? ⟨r, 8, none⟩ = some (.int .u32 0) := BR.out.cell 8
      have y9 := BR.out.frozen 9
      have x9 : WV.cell? ⟨r, 9, none⟩ = some (.int .i64 0) := BR.out.cell 9
      have y10 := BR.out.frozen 10
      have x10 : WV.cell? ⟨r, 10, none⟩ = some (.slice none 0 0) := BR.out.cell 10
      go_wp2_with fail
      refine bodyPost_ret (v := .agg (pcs pf zL)) (by simp [pcs, results, Try.results37, go_sem, x0, x1, x2, x3, x4, x5, x6, x7, x8, x9, x10]) rfl ?_
      have HRE := ret_ok (r := r) (K0.out.trans0 FV.out.keep) hr0 FV.out.pin (fun x hx => by have := (FV.out.hD x hx).1; omega) (fun x hx => by have := (FV.out.hG x hx).1; omega)
      exact ⟨HRE.1, fun h => absurd h (by simp [okB, HE.out, hvb]), fun _ => ⟨_, rfl, HRE.2, (fun x hx => by have := (FV.out.hD x hx).1; have := K0.out.size; omega), (fun x hx => by have := (FV.out.hG x hx).1; have := K0.out.size; omega)⟩⟩
set_option maxRecDepth 100000 in
set_option maxHeartbeats 16000000 in
theorem pfld_4 (w : World) (g : Nat) (X : Option Addr) (s0 : RS) (hok : RSok s0) (hr : RO w g X s0) (hg : g < w.heap.size) (hX : ∀ x, x ∈ blks X → x < w.heap.size) (hk : (stU s0 1).1 = 4) : Calls Try.prog 37 #[bptr g] w (FdPost w g (fld s0)) := by
  have ok0 := hok
  obtain ⟨v1, s1, q1⟩ : ∃ v s, stU s0 1 = (v, s) := ⟨_, _, rfl⟩
  have ok1 : RSok s1 := by have := stU_ok (z := 1) ok0; rw [q1] at this; exact this
  have b1 := stU_bd 1 ok0 q1
  obtain ⟨v2, s2, q2⟩ : ∃ v s, stU s1 1 = (v, s) := ⟨_, _, rfl⟩
  have ok2 : RSok s2 := by have := stU_ok (z := 1) ok1; rw [q2] at this; exact this
  have b2 := stU_bd 1 ok1 q2
  obtain ⟨v3, s3, q3⟩ : ∃ v s, stU s2 2 = (v, s) := ⟨_, _, rfl⟩
  have ok3 : RSok s3 := by have := stU_ok (z := 2) ok2; rw [q3] at this; exact this
  have b3 := stU_bd 2 ok2 q3
  rw [q1] at hk
  simp only at hk
  subst hk
  obtain ⟨v4, s4, q4⟩ : ∃ v s, stC s3 16 = (v, s) := ⟨_, _, rfl⟩
  have ok4 : RSok s4 := by have := stC_ok (z := 16) ok3; rw [q4] at this; exact this
  have b4 := stC_bd ok3 (by omega) q4
  obtain ⟨NG, rfl⟩ := Int.eq_ofNat_of_zero_le b4.1
  obtain ⟨pf, hpf⟩ : ∃ p : Pd, p = { zeroP 4 v2 v3 with gaps := (gapsRd NG s4).1 } := ⟨_, rfl⟩
  have hfl : fld s0 = (pf, (gapsRd NG s4).2) := by
    rw [hpf]; unfold fld fldH; simp only [q1, q2, q3]; unfold fldB; simp [zeroP, q4]
  rw [hfl]
  have Q4 := Lib.hid q4
  have OK4 := Lib.hid ok4
  clear q4 ok4
  clear hfl
  have e2 := i64_in v2 (by omega) (by omega)
  have e3 := i64_in v3 (by omega) (by omega)
  have Q1 := Lib.hid q1
  have Q2 := Lib.hid q2
  have Q3 := Lib.hid q3
  have HPF := Lib.hid hpf
  clear hpf q1 q2 q3
  have OK0 := Lib.hid ok0
  have OK1 := Lib.hid ok1
  have OK2 := Lib.hid ok2
  have OK3 := Lib.hid ok3
  have HR0 := Lib.hid hr
  clear hr hok ok0 ok1 ok2 ok3
  have k1 : Keep w.heap.size [] w (w.alloc (.cells (pcs zP zL) TP)) := (Keep.refl _ _ w).alloc (Nat.le_refl _) _
  have hb0 := Blk.new w TP (pcs zP zL)
  obtain ⟨W0, hW0⟩ : ∃ W0, W0 = w.alloc (.cells (pcs zP zL) TP) := ⟨_, rfl⟩
  rw [← hW0] at k1 hb0
  have K0 := Lib.hid k1
  obtain ⟨r, hrr⟩ : ∃ r, r = w.heap.size := ⟨_, rfl⟩
  have B0 : Hid (Blk W0 r TP (pcs zP zL)) := Lib.hid (by rw [hrr]; exact hb0)
  have hr0 : w.heap.size ≤ r := by omega
  have hrl := B0.out.lt
  have R0 : Hid (RO W0 g X s0) := Lib.hid (RO_k _ _ _ _ _ _ HR0.out k1 (by simp) (by simp))
  clear hb0 k1
  go_enter Try.func37, Try.ntmps37
  go_upto_region 1 with fail
  change Code.wp _ _ _ _ (w.alloc (.cells (pcs zP zL) TP))
  rw [← hW0, ← hrr]
  clear hW0 hrr
  go_wp2_with fail
  refine (ruint_s _ g X s0 1 OK0.out R0.out).mono ?_
  rintro e W1 ⟨X1, rfl, h1, h2, h3⟩
  rw [Q1.out] at h1 ⊢
  simp only at h1
  have H1 := Lib.hid h1
  have K1 := Lib.hid h2
  have XX := Lib.hid h3
  clear h1 h2 h3
  go_upto_region 2 with fail
  change Code.wp _ _ _ _ (W1.alloc (.cells (pcs (zeroP 4 0 0) zL) TP))
  have F2 := Lib.hid (FW.first RO_k (by have := K0.out.size; omega) (fun x hx => by have := hX x hx; have := K0.out.size; omega) H1.out OK1.out K1.out XX.out 4)
  obtain ⟨W2, hW2⟩ : ∃ W, W = W1.alloc (.cells (pcs (zeroP 4 0 0) zL) TP) := ⟨_, rfl⟩
  obtain ⟨b, hbq⟩ : ∃ b, b = W1.heap.size := ⟨_, rfl⟩
  rw [← hW2, ← hbq] at F2 ⊢
  clear hW2 hbq
  go_wp2_with fail
  refine (fu_o F2.out 1 Q2.out).mono ?_
  rintro e W3 ⟨rfl, X3, f3⟩
  have F3 := Lib.hid f3
  clear f3
  go_wp2_with fail
  refine (fu_o F3.out 2 Q3.out).mono ?_
  rintro e W4 ⟨rfl, X4, f4⟩
  have F4 := Lib.hid f4
  clear f4
  have z1 := F4.out.box.frozen 1
  have z2 := F4.out.box.frozen 2
  have c0 : W4.cell? ⟨b, 0, none⟩ = some (.int .i64 4) := F4.out.box.cell 0
  have c1 : W4.cell? ⟨b, 1, none⟩ = some (.int .i64 0) := F4.out.box.cell 1
  have c2 : W4.cell? ⟨b, 2, none⟩ = some (.int .i64 0) := F4.out.box.cell 2
  go_upto_region 3 with fail
  have F5 : Hid (FW RO W0 ((W4.setCell ⟨b, 1, none⟩ (.int .i64 v2)).setCell ⟨b, 2, none⟩ (.int .i64 v3)) g b X4 s3 (zeroP 4 v2 v3) zL) := Lib.hid (F4.out.setID RO_k v2 v3)
  obtain ⟨W5, hW5⟩ : ∃ W, W = (W4.setCell ⟨b, 1, none⟩ (.int .i64 v2)).setCell ⟨b, 2, none⟩ (.int .i64 v3) := ⟨_, rfl⟩
  rw [← hW5] at F5 ⊢
  clear hW5 z1 z2 c0 c1 c2 F4 F3 F2
  have c0 : W5.cell? ⟨b, 0, none⟩ = some (.int .i64 4) := F5.out.box.cell 0
  go_wp2_with fail
  refine (fc_o F5.out 16 Q4.out).mono ?_
  rintro e U4 ⟨rfl, Y4, f4⟩
  have R4 := Lib.hid f4
  clear f4 c0
  obtain ⟨i0, hi0, hz0, hz1, hz2⟩ := info_parts infoRg
  go_wp2_with fail
  go_loopw [61] (fun j wr => ∃ (k : Nat) (Y A : Option Addr) (n c : Nat), k ≤ NG ∧ j = .int .i64 k ∧ n ≤ k ∧ FW RO W0 wr g b Y (gapsRd k s4).2 { zeroP 4 v2 v3 with gaps := (gapsRd k s4).1 } ⟨none, 0, 0, A, n, c⟩ ∧ Sl wr 41 2 A n c ((gapsRd k s4).1.flatMap gcells)) (fun j _ => NG - (intOf j).toNat)
  case atStart => exact ⟨0, _, none, 0, 0, Nat.zero_le _, rfl, Nat.le_refl _, R4.out, Sl.nil _ _ _⟩
  case round =>
    obtain ⟨k, Y, A, n, c, hk, rfl, hnk, hfw, hsl⟩ := hrel
    have FL := Lib.hid hfw
    have SL := Lib.hid hsl
    clear hfw hsl
    by_cases hlt : k < NG
    · have hkx : (k : Int) < (NG : Int) := by omega
      obtain ⟨f, t1, qf⟩ : ∃ f t, stI (gapsRd k s4).2 = (f, t) := ⟨_, _, rfl⟩
      obtain ⟨t, t2, qt⟩ : ∃ f t, stI t1 = (f, t) := ⟨_, _, rfl⟩
      have hsn : gapsRd (k + 1) s4 = ((gapsRd k s4).1 ++ [⟨f, t⟩], t2) := by rw [gapsRd_snoc, qf]; simp only [qt]
      have HSN := Lib.hid hsn
      have QF := Lib.hid qf
      have QT := Lib.hid qt
      clear hsn qf qt
      go_wp2_with fail
      refine (gi_o FL.out SL.out QF.out).mono ?_
      rintro e U5 ⟨rfl, Y5, f5, g5⟩
      have FA := Lib.hid (f5.other RO_k (Keep.refl _ _ _).drew)
      have SA := Lib.hid g5.drew
      have c10 : U5.cell? ⟨b, 10, none⟩ = some (.slice A n c) := f5.box.cell 10
      clear f5 g5
      go_wp2_with fail
      refine region_anyZ 9 (S := (fun w' => w'.cell? ⟨b, 10, none⟩ = some (.slice A n c))) (by kernel_rfl) (by exact FA.out.box.cell 10) (fun hHeld => ?_)
      refine anyZ.take (i := 0) (oi := { dst := some 65, op := Op.fieldAddr 29 (Operand.tmp 3) 9, type := 0, pos := _, after := #[], guard := none }) (v := _) rfl (by kernel_rfl) (by kernel_rfl) (by kernel_rfl) (by kernel_rfl) (by kernel_rfl) (fun _ _ _ h => h) (Or.inl ⟨by rfl, by (intro wS hSw; (try dsimp only at hSw); go_simp; try with_reducible rfl)⟩) (by exact hHeld) ?_
      (try simp only [Act.put, List.setIfInBounds_toArray, List.set_cons_zero, List.set_cons_succ])
      refine anyZ.take (i := 1) (oi := { dst := some 66, op := Op.load 27 (Operand.tmp 65), type := 27, pos := _, after := #[{ on := 0, ground := Ground.data }], guard := none }) (v := _) rfl (by kernel_rfl) (by kernel_rfl) (by kernel_rfl) (by kernel_rfl) (by kernel_rfl) (fun _ _ _ h => h) (Or.inl ⟨by rfl, by (intro wS hSw; (try dsimp only at hSw); go_simp; try with_reducible rfl)⟩) (by exact hHeld) ?_
      (try simp only [Act.put, List.setIfInBounds_toArray, List.set_cons_zero, List.set_cons_succ])
      refine anyZ.take (i := 2) (oi := { dst := some 67, op := Op.move (Operand.tmp 4), type := 3, pos := _, after := #[], guard := none }) (v := _) rfl (by kernel_rfl) (by kernel_rfl) (by kernel_rfl) (by kernel_rfl) (by kernel_rfl) (fun _ _ _ h => h) (Or.inl ⟨by rfl, by (intro wS hSw; (try dsimp only at hSw); go_simp; try with_reducible rfl)⟩) (by exact hHeld) ?_
      (try simp only [Act.put, List.setIfInBounds_toArray, List.set_cons_zero, List.set_cons_succ])
      refine anyZ.take (i := 3) (oi := { dst := some 68, op := Op.move (Operand.tmp 0), type := 60, pos := _, after := #[], guard := none }) (v := _) rfl (by kernel_rfl) (by kernel_rfl) (by kernel_rfl) (by kernel_rfl) (by kernel_rfl) (fun _ _ _ h => h) (Or.inl ⟨by rfl, by (intro wS hSw; (try dsimp only at hSw); go_simp; try with_reducible rfl)⟩) (by exact hHeld) ?_
      (try simp only [Act.put, List.setIfInBounds_toArray, List.set_cons_zero, List.set_cons_succ])
      refine anyZ.ready (rs := [4]) (by kernel_rfl) (by simp) ?_
      refine (AllZ.cons (o := { dst := some 69, op := Op.call { callee := Callee.value (Operand.func 47), args := #[Operand.tmp 68], argTypes := #[60] }, type := 3, pos := _, after := #[{ on := 3, ground := Ground.data }], guard := none }) rfl (fun K hK => ?_) AllZ.nil)
      go_simp
      refine (gi_o FA.out SA.out QT.out).mono ?_
      rintro e U6 ⟨rfl, Y6, f6, g6⟩
      have FB := Lib.hid f6
      have SB := Lib.hid g6
      clear f6 g6
      refine hK.out _ _ (fun _ => (by exact FB.out.box.cell 10)) (fun hHeld => ?_)
      clear hK K
      replace hHeld := hHeld (by kernel_rfl)
      (try simp only [Act.put, List.setIfInBounds_toArray, List.set_cons_zero, List.set_cons_succ])
      refine anyZ.take (i := 5) (oi := { dst := some 70, op := Op.build 41 #[(0, Operand.tmp 67), (1, Operand.tmp 69)], type := 41, pos := _, after := #[{ on := 2, ground := Ground.data }, { on := 4, ground := Ground.data }], guard := none }) (v := _) rfl (by kernel_rfl) (by kernel_rfl) (by kernel_rfl) (by kernel_rfl) (by kernel_rfl) (fun _ _ _ h => h) (Or.inl ⟨by rfl, by (intro wS hSw; (try dsimp only at hSw); go_simp; try with_reducible rfl)⟩) (by exact hHeld) ?_
      (try simp only [Act.put, List.setIfInBounds_toArray, List.set_cons_zero, List.set_cons_succ])
      refine anyZ.ready (rs := [6]) (by kernel_rfl) (by simp) ?_
      refine (AllZ.cons (o := { dst := some 71, op := Op.buildSlice 27 1 #[(0, Operand.tmp 70)], type := 27, pos := _, after := #[{ on := 5, ground := Ground.data }], guard := none }) rfl (fun K hK => ?_) AllZ.nil)
      go_simp
      obtain ⟨V7, hV7⟩ : ∃ V, V = U6.alloc (.cells #[.int .i64 f, .int .i64 t] 41) := ⟨_, rfl⟩
      have kv : Keep U6.heap.size [] U6 V7 := by rw [hV7]; exact (Keep.refl _ _ _).alloc (Nat.le_refl _) _
      have FC := Lib.hid (FB.out.other RO_k kv)
      have SC := Lib.hid (SB.out.keep0 kv)
      have BC : Hid (Blk V7 U6.heap.size 41 #[.int .i64 f, .int .i64 t]) := Lib.hid (by rw [hV7]; exact Blk.new _ _ _)
      rw [← hV7]
      clear hV7 kv
      refine hK.out _ _ (fun _ => (by exact FC.out.box.cell 10)) (fun hHeld => ?_)
      clear hK K
      replace hHeld := hHeld (by kernel_rfl)
      (try simp only [Act.put, List.setIfInBounds_toArray, List.set_cons_zero, List.set_cons_succ])
      refine anyZ.ready (rs := [7]) (by kernel_rfl) (by simp) ?_
      refine (AllZ.cons (o := { dst := some 72, op := Op.call { callee := Callee.builtin Builtin.append, args := #[Operand.tmp 66, Operand.tmp 71], argTypes := #[27, 27] }, type := 27, pos := _, after := #[{ on := 1, ground := Ground.data }, { on := 6, ground := Ground.data }, { on := 4, ground := Ground.chain }], guard := none }) rfl (fun K hK => ?_) AllZ.nil)
      refine step_app1 _ (by rfl) (.tmp 66) (.tmp 71) 27 (by rfl) 41 i0 _ 2 16 Try.underlying27 hi0 hz0 hz1 hz2 rfl (by omega) A n c ((gapsRd k s4).1.flatMap gcells) (by rfl) (by exact SC.out) _ _ _ (by rfl) (by exact BC.out) rfl rfl (by omega) (by omega) ?_
      intro A8 c8 w8 hs8 hk8 hb8
      have GA := Lib.hid (FC.out.gapAdd (y := ⟨f, t⟩) RO_k (by omega) hs8 hk8 hb8)
      have hbx := FC.out.box.keepS hk8 (fun hm => (FC.out.hG b hm).2 rfl)
      have z10 := hbx.frozen 10
      have x10 : w8.cell? ⟨b, 10, none⟩ = some (.slice A n c) := hbx.cell 10
      have HBX := Lib.hid hbx
      clear hs8 hk8 hb8 hbx
      refine hK.out _ _ (fun _ => (by exact HBX.out.cell 10)) (fun hHeld => ?_)
      clear hK K
      replace hHeld := hHeld (by kernel_rfl)
      (try simp only [Act.put, List.setIfInBounds_toArray, List.set_cons_zero, List.set_cons_succ])
      refine anyZ.take (i := 8) (oi := { dst := some 73, op := Op.fieldAddr 29 (Operand.tmp 3) 9, type := 0, pos := _, after := #[{ on := 0, ground := Ground.phase }, { on := 1, ground := Ground.phase }, { on := 2, ground := Ground.phase }, { on := 3, ground := Ground.phase }, { on := 4, ground := Ground.phase }, { on := 5, ground := Ground.phase }, { on := 6, ground := Ground.phase }, { on := 7, ground := Ground.phase }], guard := none }) (v := _) rfl (by kernel_rfl) (by kernel_rfl) (by kernel_rfl) (by kernel_rfl) (by kernel_rfl) (fun _ _ _ h => h) (Or.inl ⟨by rfl, by (intro wS hSw; (try dsimp only at hSw); go_simp; try with_reducible rfl)⟩) (by exact hHeld) ?_
      (try simp only [Act.put, List.setIfInBounds_toArray, List.set_cons_zero, List.set_cons_succ])
      refine anyZ.ready (rs := [9]) (by kernel_rfl) (by simp) ?_
      refine (AllZ.cons (o := { dst := none, op := Op.store 27 (Operand.tmp 73) (Operand.tmp 72), type := 0, pos := _, after := #[{ on := 8, ground := Ground.data }, { on := 7, ground := Ground.data }, { on := 7, ground := Ground.chain }, { on := 0, ground := Ground.phase }, { on := 1, ground := Ground.phase }, { on := 2, ground := Ground.phase }, { on := 3, ground := Ground.phase }, { on := 4, ground := Ground.phase }, { on := 5, ground := Ground.phase }, { on := 6, ground := Ground.phase }, { on := 7, ground := Ground.phase }], guard := none }) rfl (fun K hK => ?_) AllZ.nil)
      go_simp
      refine hK.out _ _ (fun h => absurd h (by decide)) (fun hHeld => ?_)
      clear hK K
      (try simp only [Act.put, List.setIfInBounds_toArray, List.set_cons_zero, List.set_cons_succ])
      refine anyZ.done (by kernel_rfl) ?_ _
      clear hHeld
      go_wp2_with fail
      go_roundw
      case rel =>
        refine ⟨k + 1, Y6, A8, n + 1, c8, by omega, by go_num, by omega, ?_, ?_⟩
        · rw [HSN.out]; exact GA.out.1
        · rw [HSN.out]; exact GA.out.2
      case measure => simp [intOf] <;> omega
    · obtain rfl : NG = k := by omega
      have G : Hid (FW RO W0 wr g b Y (gapsRd NG s4).2 pf ⟨none, 0, 0, A, n, c⟩) := Lib.hid (by rw [HPF.out]; exact FL.out)
      go_wp2_with fail
      refine (fe_o G.out).mono ?_
      rintro e WE ⟨rfl, rfl⟩
      obtain ⟨WF, hWF⟩ : ∃ W, W = wr := ⟨_, rfl⟩
      rw [← hWF] at G ⊢
      clear hWF
      have HPK : Hid (Keep w.heap.size [g] w WF) := Lib.hid (K0.out.trans0 G.out.keep)
      cases hE : endS (gapsRd NG s4).2 with
      | false =>
        go_wp2_with fail
        exact ⟨rfl, HPK.out, fun _ => rfl, fun h => absurd h (by simp [okB, hE])⟩
      | true =>
        have HE := Lib.hid hE
        clear hE
        have c0 : WF.cell? ⟨b, 0, none⟩ = some (.int .i64 pf.kind) := (G.out).box.cell 0
        have c1 : WF.cell? ⟨b, 1, none⟩ = some (.int .i64 pf.src) := (G.out).box.cell 1
        have c2 : WF.cell? ⟨b, 2, none⟩ = some (.int .i64 pf.num) := (G.out).box.cell 2
        have c3 : WF.cell? ⟨b, 3, none⟩ = some (.int .i64 pf.cls) := (G.out).box.cell 3
        have c4 : WF.cell? ⟨b, 4, none⟩ = some (.string (strOfNums pf.name)) := (G.out).box.cell 4
        have c5 : WF.cell? ⟨b, 5, none⟩ = some (.int .i64 pf.size) := (G.out).box.cell 5
        have c6 : WF.cell? ⟨b, 6, none⟩ = some (.int .i64 pf.off) := (G.out).box.cell 6
        have c7 : WF.cell? ⟨b, 7, none⟩ = some (.slice (⟨none, 0, 0, A, n, c⟩ : Lc).D (⟨none, 0, 0, A, n, c⟩ : Lc).dn (⟨none, 0, 0, A, n, c⟩ : Lc).dc) := (G.out).box.cell 7
        have c8 : WF.cell? ⟨b, 8, none⟩ = some (.int .u32 pf.sum) := (G.out).box.cell 8
        have c9 : WF.cell? ⟨b, 9, none⟩ = some (.int .i64 pf.code) := (G.out).box.cell 9
        have c10 : WF.cell? ⟨b, 10, none⟩ = some (.slice (⟨none, 0, 0, A, n, c⟩ : Lc).G (⟨none, 0, 0, A, n, c⟩ : Lc).gn (⟨none, 0, 0, A, n, c⟩ : Lc).gc) := (G.out).box.cell 10
        go_wp2_with fail
        cases hvb : validP pf with
        | false =>
          refine (pvalid_b _ pf ⟨none, 0, 0, A, n, c⟩ false G.out.pin hvb).mono ?_
          rintro e WV ⟨rfl, hkv⟩
          have FV := Lib.hid (G.out.other RO_k hkv)
          clear hkv c0 c1 c2 c3 c4 c5 c6 c7 c8 c9 c10
          go_wp2_with fail
          exact ⟨rfl, K0.out.trans0 FV.out.keep, fun _ => rfl, fun h => absurd h (by simp [okB, hvb])⟩
        | true =>
          refine (pvalid_b _ pf ⟨none, 0, 0, A, n, c⟩ true G.out.pin hvb).mono ?_
          rintro e WV ⟨rfl, hkv⟩
          have FV := Lib.hid (G.out.other RO_k hkv)
          clear hkv c0 c1 c2 c3 c4 c5 c6 c7 c8 c9 c10
          have BR : Hid (Blk WV r TP (pcs zP zL)) := Lib.hid (B0.out.keep FV.out.keep hrl (by have := FV.out.hg; simp; omega))
          have c0 : WV.cell? ⟨b, 0, none⟩ = some (.int .i64 pf.kind) := (FV.out).box.cell 0
          have c1 : WV.cell? ⟨b, 1, none⟩ = some (.int .i64 pf.src) := (FV.out).box.cell 1
          have c2 : WV.cell? ⟨b, 2, none⟩ = some (.int .i64 pf.num) := (FV.out).box.cell 2
          have c3 : WV.cell? ⟨b, 3, none⟩ = some (.int .i64 pf.cls) := (FV.out).box.cell 3
          have c4 : WV.cell? ⟨b, 4, none⟩ = some (.string (strOfNums pf.name)) := (FV.out).box.cell 4
          have c5 : WV.cell? ⟨b, 5, none⟩ = some (.int .i64 pf.size) := (FV.out).box.cell 5
          have c6 : WV.cell? ⟨b, 6, none⟩ = some (.int .i64 pf.off) := (FV.out).box.cell 6
          have c7 : WV.cell? ⟨b, 7, none⟩ = some (.slice (⟨none, 0, 0, A, n, c⟩ : Lc).D (⟨none, 0, 0, A, n, c⟩ : Lc).dn (⟨none, 0, 0, A, n, c⟩ : Lc).dc) := (FV.out).box.cell 7
          have c8 : WV.cell? ⟨b, 8, none⟩ = some (.int .u32 pf.sum) := (FV.out).box.cell 8
          have c9 : WV.cell? ⟨b, 9, none⟩ = some (.int .i64 pf.code) := (FV.out).box.cell 9
          have c10 : WV.cell? ⟨b, 10, none⟩ = some (.slice (⟨none, 0, 0, A, n, c⟩ : Lc).G (⟨none, 0, 0, A, n, c⟩ : Lc).gn (⟨none, 0, 0, A, n, c⟩ : Lc).gc) := (FV.out).box.cell 10
          have y0 := BR.out.frozen 0
          have x0 : WV.cell? ⟨r, 0, none⟩ = some (.int .i64 0) := BR.out.cell 0
          have y1 := BR.out.frozen 1
          have x1 : WV.cell? ⟨r, 1, none⟩ = some (.int .i64 0) := BR.out.cell 1
          have y2 := BR.out.frozen 2
          have x2 : WV.cell? ⟨r, 2, none⟩ = some (.int .i64 0) := BR.out.cell 2
          have y3 := BR.out.frozen 3
          have x3 : WV.cell? ⟨r, 3, none⟩ = some (.int .i64 0) := BR.out.cell 3
          have y4 := BR.out.frozen 4
          have x4 : WV.cell? ⟨r, 4, none⟩ = some (.string ⟨#[]⟩) := BR.out.cell 4
          have y5 := BR.out.frozen 5
          have x5 : WV.cell? ⟨r, 5, none⟩ = some (.int .i64 0) := BR.out.cell 5
          have y6 := BR.out.frozen 6
          have x6 : WV.cell? ⟨r, 6, none⟩ = some (.int .i64 0) := BR.out.cell 6
          have y7 := BR.out.frozen 7
          have x7 : WV.cell? ⟨r, 7, none⟩ = some (.slice none 0 0) := BR.out.cell 7
          have y8 := BR.out.frozen 8
          have x8 : WV.cell? ⟨r, 8, none⟩ = some (.int .u32 0) := BR.out.cell 8
          have y9 := BR.out.frozen 9
          have x9 : WV.cell? ⟨r, 9, none⟩ = some (.int .i64 0) := BR.out.cell 9
          have y10 := BR.out.frozen 10
          have x10 : WV.cell? ⟨r, 10, none⟩ = some (.slice none 0 0) := BR.out.cell 10
          go_wp2_with fail
          refine bodyPost_ret (v := .agg (pcs pf ⟨none, 0, 0, A, n, c⟩)) (by simp [pcs, results, Try.results37, go_sem, x0, x1, x2, x3, x4, x5, x6, x7, x8, x9, x10]) rfl ?_
          have HRE := ret_ok (r := r) (K0.out.trans0 FV.out.keep) hr0 FV.out.pin (fun x hx => by have := (FV.out.hD x hx).1; omega) (fun x hx => by have := (FV.out.hG x hx).1; omega)
          exact ⟨HRE.1, fun h => absurd h (by simp [okB, HE.out, hvb]), fun _ => ⟨_, rfl, HRE.2, (fun x hx => by have := (FV.out.hD x hx).1; have := K0.out.size; omega), (fun x hx => by have := (FV.out.hG x hx).1; have := K0.out.size; omega)⟩⟩
      
set_option maxRecDepth 100000 in
set_option maxHeartbeats 16000000 in
theorem pfld_5 (w : World) (g : Nat) (X : Option Addr) (s0 : RS) (hok : RSok s0) (hr : RO w g X s0) (hg : g < w.heap.size) (hX : ∀ x, x ∈ blks X → x < w.heap.size) (hk : (stU s0 1).1 = 5) : Calls Try.prog 37 #[bptr g] w (FdPost w g (fld s0)) := by
  have ok0 := hok
  obtain ⟨v1, s1, q1⟩ : ∃ v s, stU s0 1 = (v, s) := ⟨_, _, rfl⟩
  have ok1 : RSok s1 := by have := stU_ok (z := 1) ok0; rw [q1] at this; exact this
  have b1 := stU_bd 1 ok0 q1
  obtain ⟨v2, s2, q2⟩ : ∃ v s, stU s1 1 = (v, s) := ⟨_, _, rfl⟩
  have ok2 : RSok s2 := by have := stU_ok (z := 1) ok1; rw [q2] at this; exact this
  have b2 := stU_bd 1 ok1 q2
  obtain ⟨v3, s3, q3⟩ : ∃ v s, stU s2 2 = (v, s) := ⟨_, _, rfl⟩
  have ok3 : RSok s3 := by have := stU_ok (z := 2) ok2; rw [q3] at this; exact this
  have b3 := stU_bd 2 ok2 q3
  obtain ⟨v4, s4, q4⟩ : ∃ v s, stU s3 1 = (v, s) := ⟨_, _, rfl⟩
  have ok4 : RSok s4 := by have := stU_ok (z := 1) ok3; rw [q4] at this; exact this
  have b4 := stU_bd 1 ok3 q4
  rw [q1] at hk
  simp only at hk
  subst hk
  obtain ⟨pf, hpf⟩ : ∃ p : Pd, p = { zeroP 5 v2 v3 with code := v4 } := ⟨_, rfl⟩
  have hfl : fld s0 = (pf, s4) := by
    rw [hpf]; unfold fld fldH; simp only [q1, q2, q3]; unfold fldB; simp [zeroP, q4]
  rw [hfl]
  clear hfl
  have e2 := i64_in v2 (by omega) (by omega)
  have e3 := i64_in v3 (by omega) (by omega)
  have e4 := i64_in v4 (by omega) (by omega)
  have Q1 := Lib.hid q1
  have Q2 := Lib.hid q2
  have Q3 := Lib.hid q3
  have Q4 := Lib.hid q4
  have HPF := Lib.hid hpf
  clear hpf q1 q2 q3 q4
  have OK0 := Lib.hid ok0
  have OK1 := Lib.hid ok1
  have OK2 := Lib.hid ok2
  have OK3 := Lib.hid ok3
  have OK4 := Lib.hid ok4
  have HR0 := Lib.hid hr
  clear hr hok ok0 ok1 ok2 ok3 ok4
  have k1 : Keep w.heap.size [] w (w.alloc (.cells (pcs zP zL) TP)) := (Keep.refl _ _ w).alloc (Nat.le_refl _) _
  have hb0 := Blk.new w TP (pcs zP zL)
  obtain ⟨W0, hW0⟩ : ∃ W0, W0 = w.alloc (.cells (pcs zP zL) TP) := ⟨_, rfl⟩
  rw [← hW0] at k1 hb0
  have K0 := Lib.hid k1
  obtain ⟨r, hrr⟩ : ∃ r, r = w.heap.size := ⟨_, rfl⟩
  have B0 : Hid (Blk W0 r TP (pcs zP zL)) := Lib.hid (by rw [hrr]; exact hb0)
  have hr0 : w.heap.size ≤ r := by omega
  have hrl := B0.out.lt
  have R0 : Hid (RO W0 g X s0) := Lib.hid (RO_k _ _ _ _ _ _ HR0.out k1 (by simp) (by simp))
  clear hb0 k1
  go_enter Try.func37, Try.ntmps37
  go_upto_region 1 with fail
  change Code.wp _ _ _ _ (w.alloc (.cells (pcs zP zL) TP))
  rw [← hW0, ← hrr]
  clear hW0 hrr
  go_wp2_with fail
  refine (ruint_s _ g X s0 1 OK0.out R0.out).mono ?_
  rintro e W1 ⟨X1, rfl, h1, h2, h3⟩
  rw [Q1.out] at h1 ⊢
  simp only at h1
  have H1 := Lib.hid h1
  have K1 := Lib.hid h2
  have XX := Lib.hid h3
  clear h1 h2 h3
  go_upto_region 2 with fail
  change Code.wp _ _ _ _ (W1.alloc (.cells (pcs (zeroP 5 0 0) zL) TP))
  have F2 := Lib.hid (FW.first RO_k (by have := K0.out.size; omega) (fun x hx => by have := hX x hx; have := K0.out.size; omega) H1.out OK1.out K1.out XX.out 5)
  obtain ⟨W2, hW2⟩ : ∃ W, W = W1.alloc (.cells (pcs (zeroP 5 0 0) zL) TP) := ⟨_, rfl⟩
  obtain ⟨b, hbq⟩ : ∃ b, b = W1.heap.size := ⟨_, rfl⟩
  rw [← hW2, ← hbq] at F2 ⊢
  clear hW2 hbq
  go_wp2_with fail
  refine (fu_o F2.out 1 Q2.out).mono ?_
  rintro e W3 ⟨rfl, X3, f3⟩
  have F3 := Lib.hid f3
  clear f3
  go_wp2_with fail
  refine (fu_o F3.out 2 Q3.out).mono ?_
  rintro e W4 ⟨rfl, X4, f4⟩
  have F4 := Lib.hid f4
  clear f4
  have z1 := F4.out.box.frozen 1
  have z2 := F4.out.box.frozen 2
  have c0 : W4.cell? ⟨b, 0, none⟩ = some (.int .i64 5) := F4.out.box.cell 0
  have c1 : W4.cell? ⟨b, 1, none⟩ = some (.int .i64 0) := F4.out.box.cell 1
  have c2 : W4.cell? ⟨b, 2, none⟩ = some (.int .i64 0) := F4.out.box.cell 2
  go_upto_region 3 with fail
  have F5 : Hid (FW RO W0 ((W4.setCell ⟨b, 1, none⟩ (.int .i64 v2)).setCell ⟨b, 2, none⟩ (.int .i64 v3)) g b X4 s3 (zeroP 5 v2 v3) zL) := Lib.hid (F4.out.setID RO_k v2 v3)
  obtain ⟨W5, hW5⟩ : ∃ W, W = (W4.setCell ⟨b, 1, none⟩ (.int .i64 v2)).setCell ⟨b, 2, none⟩ (.int .i64 v3) := ⟨_, rfl⟩
  rw [← hW5] at F5 ⊢
  clear hW5 z1 z2 c0 c1 c2 F4 F3 F2
  have c0 : W5.cell? ⟨b, 0, none⟩ = some (.int .i64 5) := F5.out.box.cell 0
  go_wp2_with fail
  refine (fu_o F5.out 1 Q4.out).mono ?_
  rintro e U4 ⟨rfl, Y4, f4⟩
  have R4 := Lib.hid f4
  clear f4
  clear c0
  have z4 := R4.out.box.frozen 9
  have x4 : U4.cell? ⟨b, 9, none⟩ = some (.int .i64 0) := R4.out.box.cell 9
  have S4 := Lib.hid (R4.out.setCode RO_k v4)
  have G : Hid (FW RO W0 (U4.setCell ⟨b, 9, none⟩ (.int .i64 v4)) g b Y4 s4 pf zL) := Lib.hid (by rw [HPF.out]; exact S4.out)
  go_wp2_with fail
  refine (fe_o G.out).mono ?_
  rintro e WE ⟨rfl, rfl⟩
  obtain ⟨WF, hWF⟩ : ∃ W, W = (U4.setCell ⟨b, 9, none⟩ (.int .i64 v4)) := ⟨_, rfl⟩
  rw [← hWF] at G ⊢
  clear hWF
  clear z4 x4
  have HPK : Hid (Keep w.heap.size [g] w WF) := Lib.hid (K0.out.trans0 G.out.keep)
  cases hE : endS s4 with
  | false =>
    go_wp2_with fail
    exact ⟨rfl, HPK.out, fun _ => rfl, fun h => absurd h (by simp [okB, hE])⟩
  | true =>
    have HE := Lib.hid hE
    clear hE
    have c0 : WF.cell? ⟨b, 0, none⟩ = some (.int .i64 pf.kind) := (G.out).box.cell 0
    have c1 : WF.cell? ⟨b, 1, none⟩ = some (.int .i64 pf.src) := (G.out).box.cell 1
    have c2 : WF.cell? ⟨b, 2, none⟩ = some (.int .i64 pf.num) := (G.out).box.cell 2
    have c3 : WF.cell? ⟨b, 3, none⟩ = some (.int .i64 pf.cls) := (G.out).box.cell 3
    have c4 : WF.cell? ⟨b, 4, none⟩ = some (.string (strOfNums pf.name)) := (G.out).box.cell 4
    have c5 : WF.cell? ⟨b, 5, none⟩ = some (.int .i64 pf.size) := (G.out).box.cell 5
    have c6 : WF.cell? ⟨b, 6, none⟩ = some (.int .i64 pf.off) := (G.out).box.cell 6
    have c7 : WF.cell? ⟨b, 7, none⟩ = some (.slice (zL : Lc).D (zL : Lc).dn (zL : Lc).dc) := (G.out).box.cell 7
    have c8 : WF.cell? ⟨b, 8, none⟩ = some (.int .u32 pf.sum) := (G.out).box.cell 8
    have c9 : WF.cell? ⟨b, 9, none⟩ = some (.int .i64 pf.code) := (G.out).box.cell 9
    have c10 : WF.cell? ⟨b, 10, none⟩ = some (.slice (zL : Lc).G (zL : Lc).gn (zL : Lc).gc) := (G.out).box.cell 10
    go_wp2_with fail
    cases hvb : validP pf with
    | false =>
      refine (pvalid_b _ pf zL false G.out.pin hvb).mono ?_
      rintro e WV ⟨rfl, hkv⟩
      have FV := Lib.hid (G.out.other RO_k hkv)
      clear hkv c0 c1 c2 c3 c4 c5 c6 c7 c8 c9 c10
      go_wp2_with fail
      exact ⟨rfl, K0.out.trans0 FV.out.keep, fun _ => rfl, fun h => absurd h (by simp [okB, hvb])⟩
    | true =>
      refine (pvalid_b _ pf zL true G.out.pin hvb).mono ?_
      rintro e WV ⟨rfl, hkv⟩
      have FV := Lib.hid (G.out.other RO_k hkv)
      clear hkv c0 c1 c2 c3 c4 c5 c6 c7 c8 c9 c10
      have BR : Hid (Blk WV r TP (pcs zP zL)) := Lib.hid (B0.out.keep FV.out.keep hrl (by have := FV.out.hg; simp; omega))
      have c0 : WV.cell? ⟨b, 0, none⟩ = some (.int .i64 pf.kind) := (FV.out).box.cell 0
      have c1 : WV.cell? ⟨b, 1, none⟩ = some (.int .i64 pf.src) := (FV.out).box.cell 1
      have c2 : WV.cell? ⟨b, 2, none⟩ = some (.int .i64 pf.num) := (FV.out).box.cell 2
      have c3 : WV.cell? ⟨b, 3, none⟩ = some (.int .i64 pf.cls) := (FV.out).box.cell 3
      have c4 : WV.cell? ⟨b, 4, none⟩ = some (.string (strOfNums pf.name)) := (FV.out).box.cell 4
      have c5 : WV.cell? ⟨b, 5, none⟩ = some (.int .i64 pf.size) := (FV.out).box.cell 5
      have c6 : WV.cell? ⟨b, 6, none⟩ = some (.int .i64 pf.off) := (FV.out).box.cell 6
      have c7 : WV.cell? ⟨b, 7, none⟩ = some (.slice (zL : Lc).D (zL : Lc).dn (zL : Lc).dc) := (FV.out).box.cell 7
      have c8 : WV.cell? ⟨b, 8, none⟩ = some (.int .u32 pf.sum) := (FV.out).box.cell 8
      have c9 : WV.cell? ⟨b, 9, none⟩ = some (.int .i64 pf.code) := (FV.out).box.cell 9
      have c10 : WV.cell? ⟨b, 10, none⟩ = some (.slice (zL : Lc).G (zL : Lc).gn (zL : Lc).gc) := (FV.out).box.cell 10
      have y0 := BR.out.frozen 0
      have x0 : WV.cell? ⟨r, 0, none⟩ = some (.int .i64 0) := BR.out.cell 0
      have y1 := BR.out.frozen 1
      have x1 : WV.cell? ⟨r, 1, none⟩ = some (.int .i64 0) := BR.out.cell 1
      have y2 := BR.out.frozen 2
      have x2 : WV.cell? ⟨r, 2, none⟩ = some (.int .i64 0) := BR.out.cell 2
      have y3 := BR.out.frozen 3
      have x3 : WV.cell? ⟨r, 3, none⟩ = some (.int .i64 0) := BR.out.cell 3
      have y4 := BR.out.frozen 4
      have x4 : WV.cell? ⟨r, 4, none⟩ = some (.string ⟨#[]⟩) := BR.out.cell 4
      have y5 := BR.out.frozen 5
      have x5 : WV.cell? ⟨r, 5, none⟩ = some (.int .i64 0) := BR.out.cell 5
      have y6 := BR.out.frozen 6
      have x6 : WV.cell? ⟨r, 6, none⟩ = some (.int .i64 0) := BR.out.cell 6
      have y7 := BR.out.frozen 7
      have x7 : WV.cell? ⟨r, 7, none⟩ = some (.slice none 0 0) := BR.out.cell 7
      have y8 := BR.out.frozen 8
      have x8 : WV.cell? ⟨r, 8, none⟩ = some (.int .u32 0) := BR.out.cell 8
      have y9 := BR.out.frozen 9
      have x9 : WV.cell? ⟨r, 9, none⟩ = some (.int .i64 0) := BR.out.cell 9
      have y10 := BR.out.frozen 10
      have x10 : WV.cell? ⟨r, 10, none⟩ = some (.slice none 0 0) := BR.out.cell 10
      go_wp2_with fail
      refine bodyPost_ret (v := .agg (pcs pf zL)) (by simp [pcs, results, Try.results37, go_sem, x0, x1, x2, x3, x4, x5, x6, x7, x8, x9, x10]) rfl ?_
      have HRE := ret_ok (r := r) (K0.out.trans0 FV.out.keep) hr0 FV.out.pin (fun x hx => by have := (FV.out.hD x hx).1; omega) (fun x hx => by have := (FV.out.hG x hx).1; omega)
      exact ⟨HRE.1, fun h => absurd h (by simp [okB, HE.out, hvb]), fun _ => ⟨_, rfl, HRE.2, (fun x hx => by have := (FV.out.hD x hx).1; have := K0.out.size; omega), (fun x hx => by have := (FV.out.hG x hx).1; have := K0.out.size; omega)⟩⟩
end Go.Proofs.Ytijionfhnoffcaa
