/- The reference's Decode, each kind. -/
import Derived.Test.YtijionfhnoffcaaPDec2
import Derived.Deep.DeepCutAuto
namespace Go.Proofs.Ytijionfhnoffcaa
set_option linter.unusedVariables false
set_option linter.unusedSimpArgs false
open Go.RowKit
set_option maxRecDepth 100000 in
set_option maxHeartbeats 16000000 in
theorem rdec_0 (w : World) (X : Option Addr) (m c : Nat) (L : List Int) (hO : Oct L) (hl : L.length ≤ 100000) (hmc : m ≤ c) (hcm : c ≤ maxLen) (hv : Vw w X m 1 (octs L)) (hk : (stU (some L) 1).1 < 1 ∨ 5 < (stU (some L) 1).1) : Calls Try.prog 17 #[.slice X m c] w (DecPost w (decR (rdecP L)).1 (decR (rdecP L)).2) := by
  have ok0 : RSok (some L) := by rintro _ ⟨⟩; exact ⟨hO, by omega⟩
  obtain ⟨s0, hs0⟩ : ∃ s, s = some L := ⟨_, rfl⟩
  rw [← hs0] at ok0 hk
  obtain ⟨v1, s1, q1⟩ : ∃ v s, stU s0 1 = (v, s) := ⟨_, _, rfl⟩
  have ok1 : RSok s1 := by have := stU_ok (z := 1) ok0; rw [q1] at this; exact this
  have b1 := stU_bd 1 ok0 q1
  obtain ⟨v2, s2, q2⟩ : ∃ v s, stU s1 1 = (v, s) := ⟨_, _, rfl⟩
  have ok2 : RSok s2 := by have := stU_ok (z := 1) ok1; rw [q2] at this; exact this
  have b2 := stU_bd 1 ok1 q2
  obtain ⟨v3, s3, q3⟩ : ∃ v s, stU s2 2 = (v, s) := ⟨_, _, rfl⟩
  have ok3 : RSok s3 := by have := stU_ok (z := 2) ok2; rw [q3] at this; exact this
  have b3 := stU_bd 2 ok2 q3
  rw [q1] at hk
  simp only at hk
  obtain ⟨pf, hpf⟩ : ∃ p : Pd, p = (zeroP v1 v2 v3) := ⟨_, rfl⟩
  have hfl : fld s0 = (pf, s3) := by
    rw [hpf]; unfold fld fldH; simp only [q1, q2, q3]; unfold fldB
    rw [if_neg (by simp only [zeroP]; omega), if_neg (by simp only [zeroP]; omega), if_neg (by simp only [zeroP]; omega), if_neg (by simp only [zeroP]; omega), if_neg (by simp only [zeroP]; omega)]
  rw [hs0] at hfl
  have hR : rdecP L = if (s3).isSome && (validP pf && decide (encP pf = L)) then some pf else none := by unfold rdecP; rw [hfl]
  rw [hR]
  obtain ⟨O, hOO⟩ : ∃ O, decR (if (s3).isSome && (validP pf && decide (encP pf = L)) then some pf else none) = O := ⟨_, rfl⟩
  rw [hOO]
  have HOO := Lib.hid hOO
  clear hfl hR hOO
  have e1 := i64_in v1 (by omega) (by omega)
  have e2 := i64_in v2 (by omega) (by omega)
  have e3 := i64_in v3 (by omega) (by omega)
  have Q1 := Lib.hid q1
  have Q2 := Lib.hid q2
  have Q3 := Lib.hid q3
  have HPF := Lib.hid hpf
  have HS0 := Lib.hid hs0
  clear hpf hs0 q1 q2 q3 ok0 ok1 ok2 ok3
  have HV := Lib.hid hv
  have HO := Lib.hid hO
  obtain ⟨W0, hW0⟩ : ∃ W, W = (w.alloc (.cells (pcs zP zL) TP)).alloc (.cells #[.slice X m c, .bool false] 63) := ⟨_, rfl⟩
  obtain ⟨X0, hst⟩ := rstart w X m c L hO hl hmc hcm hv W0 hW0
  have k1 : Keep w.heap.size [] w W0 := by rw [hW0]; exact ((Keep.refl _ _ w).alloc (Nat.le_refl _) _).alloc (by simp) _
  have hbr : Blk W0 w.heap.size TP (pcs zP zL) := by rw [hW0]; exact (Blk.new _ _ _).alloc _
  have hsz : W0.heap.size = w.heap.size + 2 := by rw [hW0]; simp
  obtain ⟨r, hr⟩ : ∃ r, r = w.heap.size := ⟨_, rfl⟩
  obtain ⟨g, hg⟩ : ∃ g, g = r + 1 := ⟨_, rfl⟩
  have hbq : W0.heap.size = g + 1 := by omega
  obtain ⟨b, hb⟩ : ∃ b, b = g + 1 := ⟨_, rfl⟩
  rw [hbq, ← hr, ← hg, ← hb] at hst
  rw [← hr] at hbr
  obtain ⟨W1, hW1⟩ : ∃ W, W = W0.alloc (.cells (pcs (zeroP 0 0 0) zL) TP) := ⟨_, rfl⟩
  rw [← hW1, ← HS0.out] at hst
  have F0 := Lib.hid hst
  have K0 := Lib.hid k1
  have BR := Lib.hid hbr
  have hrl := hbr.lt
  have hr0 : w.heap.size ≤ r := by omega
  have hg0 : w.heap.size ≤ g := by omega
  have hrg : r ≠ g := by omega
  have hrb : r < W0.heap.size := by omega
  clear hst k1 hbr hv hO hsz hbq
  go_enter Try.func17, Try.ntmps17
  go_upto_region 3 with fail
  change Code.wp _ _ _ _ (((w.alloc (.cells (pcs zP zL) TP)).alloc (.cells #[.slice X m c, .bool false] 63)).alloc (.cells (pcs (zeroP 0 0 0) zL) TP))
  rw [← hW0, ← hW1, ← hr, ← hg, ← hb]
  clear hW0 hW1 hr hg hb
  go_wp2_with fail
  refine (fu_x F0.out 1 Q1.out).mono ?_
  rintro e U1 ⟨rfl, Y1, f1⟩
  have R1 := Lib.hid f1
  clear f1
  have z1 := R1.out.box.frozen 0
  have x1 : U1.cell? ⟨b, 0, none⟩ = some (.int .i64 0) := R1.out.box.cell 0
  have S1 := Lib.hid (R1.out.setKind RX_k v1)
  go_wp2_with fail
  refine (fu_x S1.out 1 Q2.out).mono ?_
  rintro e U2 ⟨rfl, Y2, f2⟩
  have R2 := Lib.hid f2
  clear f2
  have z2 := R2.out.box.frozen 1
  have x2 : U2.cell? ⟨b, 1, none⟩ = some (.int .i64 0) := R2.out.box.cell 1
  have S2 := Lib.hid (R2.out.setSrc RX_k v2)
  go_wp2_with fail
  refine (fu_x S2.out 2 Q3.out).mono ?_
  rintro e U3 ⟨rfl, Y3, f3⟩
  have R3 := Lib.hid f3
  clear f3
  have z3 := R3.out.box.frozen 2
  have x3 : U3.cell? ⟨b, 2, none⟩ = some (.int .i64 0) := R3.out.box.cell 2
  have S3 := Lib.hid (R3.out.setNum RX_k v3)
  go_upto_region 6 with fail
  have F3 : Hid (FW RX W0 (U3.setCell ⟨b, 2, none⟩ (.int .i64 v3)) g b Y3 s3 (zeroP v1 v2 v3) zL) := Lib.hid S3.out
  obtain ⟨W5, hW5⟩ : ∃ W, W = U3.setCell ⟨b, 2, none⟩ (.int .i64 v3) := ⟨_, rfl⟩
  rw [← hW5] at F3 ⊢
  clear hW5 z1 z2 z3 x1 x2 x3 S1 S2 S3 R1 R2 R3 F0
  have c0 : W5.cell? ⟨b, 0, none⟩ = some (.int .i64 v1) := F3.out.box.cell 0
  have n1 : ¬ v1 = 1 := by omega
  have n2 : ¬ v1 = 2 := by omega
  have n3 : ¬ v1 = 3 := by omega
  have n4 : ¬ v1 = 4 := by omega
  have n5 : ¬ v1 = 5 := by omega
  have G : Hid (FW RX W0 W5 g b Y3 s3 pf zL) := Lib.hid (by rw [HPF.out]; exact F3.out)
  go_upto_region 28 with fail
  obtain ⟨WF, hWF⟩ : ∃ W, W = W5 := ⟨_, rfl⟩
  rw [← hWF] at G ⊢
  clear hWF
  clear c0
  obtain ⟨sf, hsf⟩ : ∃ s, s = s3 := ⟨_, rfl⟩
  rw [← hsf] at G HOO
  clear hsf
  have c0 : WF.cell? ⟨b, 0, none⟩ = some (.int .i64 pf.kind) := (G.out).box.cell 0
  have c1 : WF.cell? ⟨b, 1, none⟩ = some (.int .i64 pf.src) := (G.out).box.cell 1
  have c2 : WF.cell? ⟨b, 2, none⟩ = some (.int .i64 pf.num) := (G.out).box.cell 2
  have c3 : WF.cell? ⟨b, 3, none⟩ = some (.int .i64 pf.cls) := (G.out).box.cell 3
  have c4 : WF.cell? ⟨b, 4, none⟩ = some (.string (strOfNums pf.name)) := (G.out).box.cell 4
  have c5 : WF.cell? ⟨b, 5, none⟩ = some (.int .i64 pf.size) := (G.out).box.cell 5
  have c6 : WF.cell? ⟨b, 6, none⟩ = some (.int .i64 pf.off) := (G.out).box.cell 6
  have c7 : WF.cell? ⟨b, 7, none⟩ = some (.slice (zL : Lc).D (zL : Lc).dn (zL : Lc).dc) := (G.out).box.cell 7
  have c8 : WF.cell? ⟨b, 8, none⟩ = some (.int .u32 pf.sum) := (G.out).box.cell 8
  have c9 : WF.cell? ⟨b, 9, none⟩ = some (.int .i64 pf.code) := (G.out).box.cell 9
  have c10 : WF.cell? ⟨b, 10, none⟩ = some (.slice (zL : Lc).G (zL : Lc).gn (zL : Lc).gc) := (G.out).box.cell 10
  cases hvb : validP pf with
  | false =>
    have hen : encR pf = ([], 1) := by unfold encR; rw [hvb]; rfl
    have HEN := Lib.hid hen
    have HVB := Lib.hid hvb
    clear hen hvb
    go_wp2_with fail
    refine (Calls.mono (renc_any _ pf zL G.out.pin)) ?_
    rw [HEN.out]
    rintro e WE ⟨AE, nE, dE, rfl, hav⟩
    have HS : Hid (Sl WE 5 1 AE nE dE (octs [])) := Lib.hid hav.1
    have FE := Lib.hid (G.out.other RX_k hav.2.1)
    clear hav c0 c1 c2 c3 c4 c5 c6 c7 c8 c9 c10
    have BX : Hid (Blk WE r TP (pcs zP zL)) := Lib.hid (BR.out.keep FE.out.keep hrl (by simpa using hrg))
    have KE : Hid (Keep w.heap.size [] w WE) := Lib.hid (K0.out.chain1 (Nat.le_refl _) FE.out.keep hg0)
    have cb := FE.out.rd.bad
    have y0 := BX.out.frozen 0
    have x0 : WE.cell? ⟨r, 0, none⟩ = some (.int .i64 0) := BX.out.cell 0
    have y1 := BX.out.frozen 1
    have x1 : WE.cell? ⟨r, 1, none⟩ = some (.int .i64 0) := BX.out.cell 1
    have y2 := BX.out.frozen 2
    have x2 : WE.cell? ⟨r, 2, none⟩ = some (.int .i64 0) := BX.out.cell 2
    have y3 := BX.out.frozen 3
    have x3 : WE.cell? ⟨r, 3, none⟩ = some (.int .i64 0) := BX.out.cell 3
    have y4 := BX.out.frozen 4
    have x4 : WE.cell? ⟨r, 4, none⟩ = some (.string ⟨#[]⟩) := BX.out.cell 4
    have y5 := BX.out.frozen 5
    have x5 : WE.cell? ⟨r, 5, none⟩ = some (.int .i64 0) := BX.out.cell 5
    have y6 := BX.out.frozen 6
    have x6 : WE.cell? ⟨r, 6, none⟩ = some (.int .i64 0) := BX.out.cell 6
    have y7 := BX.out.frozen 7
    have x7 : WE.cell? ⟨r, 7, none⟩ = some (.slice none 0 0) := BX.out.cell 7
    have y8 := BX.out.frozen 8
    have x8 : WE.cell? ⟨r, 8, none⟩ = some (.int .u32 0) := BX.out.cell 8
    have y9 := BX.out.frozen 9
    have x9 : WE.cell? ⟨r, 9, none⟩ = some (.int .i64 0) := BX.out.cell 9
    have y10 := BX.out.frozen 10
    have x10 : WE.cell? ⟨r, 10, none⟩ = some (.slice none 0 0) := BX.out.cell 10
    cases hsf : sf.isNone with
    | true =>
      rw [hsf] at cb
      have HSF := Lib.hid hsf
      clear hsf
      go_wp2_with fail
      refine bodyPost_ret (v := .tuple #[.agg (pcs zP zL), .int .i64 4]) (by simp [pcs, zP, zL, zeroP, strNil, results, Try.results17, go_sem, x0, x1, x2, x3, x4, x5, x6, x7, x8, x9, x10]) rfl ?_
      have hO2 : O = (zP, 4) := by rw [← HOO.out, if_neg (by rw [HVB.out]; simp)]; rfl
      rw [hO2]
      have HRE := ret_ok2 KE.out hr0 (zin _ 0 0 0) (by simp [blks, zL]) (by simp [blks, zL]) (set_keep WE r zP zL)
      exact ⟨HRE.1, zL, rfl, HRE.2, by simp [blks, zL], by simp [blks, zL]⟩
    | false =>
      rw [hsf] at cb
      have HSF := Lib.hid hsf
      clear hsf
      go_wp2_with fail
      refine bodyPost_ret (v := .tuple #[.agg (pcs zP zL), .int .i64 4]) (by simp [pcs, zP, zL, zeroP, strNil, results, Try.results17, go_sem, x0, x1, x2, x3, x4, x5, x6, x7, x8, x9, x10]) rfl ?_
      have hO2 : O = (zP, 4) := by rw [← HOO.out, if_neg (by rw [HVB.out]; simp)]; rfl
      rw [hO2]
      have HRE := ret_ok2 KE.out hr0 (zin _ 0 0 0) (by simp [blks, zL]) (by simp [blks, zL]) (set_keep WE r zP zL)
      exact ⟨HRE.1, zL, rfl, HRE.2, by simp [blks, zL], by simp [blks, zL]⟩
  | true =>
    have hen : encR pf = (encP pf, 0) := by unfold encR; rw [hvb]; rfl
    have HEN := Lib.hid hen
    have HVB := Lib.hid hvb
    clear hen hvb
    go_wp2_with fail
    refine (Calls.mono (renc_any _ pf zL G.out.pin)) ?_
    rw [HEN.out]
    rintro e WE ⟨AE, nE, dE, rfl, hav⟩
    have HS : Hid (Sl WE 5 1 AE nE dE (octs (encP pf))) := Lib.hid hav.1
    have FE := Lib.hid (G.out.other RX_k hav.2.1)
    clear hav c0 c1 c2 c3 c4 c5 c6 c7 c8 c9 c10
    have BX : Hid (Blk WE r TP (pcs zP zL)) := Lib.hid (BR.out.keep FE.out.keep hrl (by simpa using hrg))
    have KE : Hid (Keep w.heap.size [] w WE) := Lib.hid (K0.out.chain1 (Nat.le_refl _) FE.out.keep hg0)
    have cb := FE.out.rd.bad
    have y0 := BX.out.frozen 0
    have x0 : WE.cell? ⟨r, 0, none⟩ = some (.int .i64 0) := BX.out.cell 0
    have y1 := BX.out.frozen 1
    have x1 : WE.cell? ⟨r, 1, none⟩ = some (.int .i64 0) := BX.out.cell 1
    have y2 := BX.out.frozen 2
    have x2 : WE.cell? ⟨r, 2, none⟩ = some (.int .i64 0) := BX.out.cell 2
    have y3 := BX.out.frozen 3
    have x3 : WE.cell? ⟨r, 3, none⟩ = some (.int .i64 0) := BX.out.cell 3
    have y4 := BX.out.frozen 4
    have x4 : WE.cell? ⟨r, 4, none⟩ = some (.string ⟨#[]⟩) := BX.out.cell 4
    have y5 := BX.out.frozen 5
    have x5 : WE.cell? ⟨r, 5, none⟩ = some (.int .i64 0) := BX.out.cell 5
    have y6 := BX.out.frozen 6
    have x6 : WE.cell? ⟨r, 6, none⟩ = some (.int .i64 0) := BX.out.cell 6
    have y7 := BX.out.frozen 7
    have x7 : WE.cell? ⟨r, 7, none⟩ = some (.slice none 0 0) := BX.out.cell 7
    have y8 := BX.out.frozen 8
    have x8 : WE.cell? ⟨r, 8, none⟩ = some (.int .u32 0) := BX.out.cell 8
    have y9 := BX.out.frozen 9
    have x9 : WE.cell? ⟨r, 9, none⟩ = some (.int .i64 0) := BX.out.cell 9
    have y10 := BX.out.frozen 10
    have x10 : WE.cell? ⟨r, 10, none⟩ = some (.slice none 0 0) := BX.out.cell 10
    cases hsf : sf.isNone with
    | true =>
      rw [hsf] at cb
      have HSF := Lib.hid hsf
      clear hsf
      go_wp2_with fail
      refine bodyPost_ret (v := .tuple #[.agg (pcs zP zL), .int .i64 4]) (by simp [pcs, zP, zL, zeroP, strNil, results, Try.results17, go_sem, x0, x1, x2, x3, x4, x5, x6, x7, x8, x9, x10]) rfl ?_
      have hO2 : O = (zP, 4) := by rw [← HOO.out, if_neg (by have h := HSF.out; cases sf; simp; simp at h)]; rfl
      rw [hO2]
      have HRE := ret_ok2 KE.out hr0 (zin _ 0 0 0) (by simp [blks, zL]) (by simp [blks, zL]) (set_keep WE r zP zL)
      exact ⟨HRE.1, zL, rfl, HRE.2, by simp [blks, zL], by simp [blks, zL]⟩
    | false =>
      rw [hsf] at cb
      have HSF : Hid (sf.isSome = true) := Lib.hid (by cases sf; simp at hsf; rfl)
      clear hsf
      have hoe : Oct (encP pf) := encP_oct FE.out.pin HVB.out
      have hc1 := conv_str (P := Try.prog) (w := WE) 24 9 5 Try.underlying24 Try.underlying5 Try.underlying9 AE nE dE (encP pf) (HS.out.vw (by omega))
      have hc2 := conv_str (P := Try.prog) (w := WE) 24 9 5 Try.underlying24 Try.underlying5 Try.underlying9 X m c L (HV.out.keep0 KE.out)
      have hbq := strOf_beq hoe HO.out
      by_cases heq : encP pf = L
      · rw [decide_eq_true heq] at hbq
        have HEQ := Lib.hid heq
        clear heq hoe
        have c0 : WE.cell? ⟨b, 0, none⟩ = some (.int .i64 pf.kind) := (FE.out).box.cell 0
        have c1 : WE.cell? ⟨b, 1, none⟩ = some (.int .i64 pf.src) := (FE.out).box.cell 1
        have c2 : WE.cell? ⟨b, 2, none⟩ = some (.int .i64 pf.num) := (FE.out).box.cell 2
        have c3 : WE.cell? ⟨b, 3, none⟩ = some (.int .i64 pf.cls) := (FE.out).box.cell 3
        have c4 : WE.cell? ⟨b, 4, none⟩ = some (.string (strOfNums pf.name)) := (FE.out).box.cell 4
        have c5 : WE.cell? ⟨b, 5, none⟩ = some (.int .i64 pf.size) := (FE.out).box.cell 5
        have c6 : WE.cell? ⟨b, 6, none⟩ = some (.int .i64 pf.off) := (FE.out).box.cell 6
        have c7 : WE.cell? ⟨b, 7, none⟩ = some (.slice (zL : Lc).D (zL : Lc).dn (zL : Lc).dc) := (FE.out).box.cell 7
        have c8 : WE.cell? ⟨b, 8, none⟩ = some (.int .u32 pf.sum) := (FE.out).box.cell 8
        have c9 : WE.cell? ⟨b, 9, none⟩ = some (.int .i64 pf.code) := (FE.out).box.cell 9
        have c10 : WE.cell? ⟨b, 10, none⟩ = some (.slice (zL : Lc).G (zL : Lc).gn (zL : Lc).gc) := (FE.out).box.cell 10
        go_wp2_with fail
        refine bodyPost_ret (v := .tuple #[.agg (pcs pf zL), .int .i64 0]) (by simp [pcs, results, Try.results17, go_sem, x0, x1, x2, x3, x4, x5, x6, x7, x8, x9, x10]) rfl ?_
        have hO2 : O = (pf, 0) := by rw [← HOO.out, if_pos (by rw [HSF.out, HVB.out, HEQ.out]; simp)]; rfl
        rw [hO2]
        have HRE := ret_ok2 KE.out hr0 FE.out.pin (fun x hx => by have := (FE.out.hD x hx).1; omega) (fun x hx => by have := (FE.out.hG x hx).1; omega) (set_keep WE r pf zL)
        exact ⟨HRE.1, zL, rfl, HRE.2, (fun x hx => by have := (FE.out.hD x hx).1; have := K0.out.size; omega), (fun x hx => by have := (FE.out.hG x hx).1; have := K0.out.size; omega)⟩
      · rw [decide_eq_false heq] at hbq
        have HEQ := Lib.hid heq
        clear heq hoe
        go_wp2_with fail
        refine bodyPost_ret (v := .tuple #[.agg (pcs zP zL), .int .i64 4]) (by simp [pcs, zP, zL, zeroP, strNil, results, Try.results17, go_sem, x0, x1, x2, x3, x4, x5, x6, x7, x8, x9, x10]) rfl ?_
        have hO2 : O = (zP, 4) := by rw [← HOO.out, if_neg (by rw [decide_eq_false HEQ.out]; simp)]; rfl
        rw [hO2]
        have HRE := ret_ok2 KE.out hr0 (zin _ 0 0 0) (by simp [blks, zL]) (by simp [blks, zL]) (set_keep WE r zP zL)
        exact ⟨HRE.1, zL, rfl, HRE.2, by simp [blks, zL], by simp [blks, zL]⟩
set_option maxRecDepth 100000 in
set_option maxHeartbeats 16000000 in
theorem rdec_1 (w : World) (X : Option Addr) (m c : Nat) (L : List Int) (hO : Oct L) (hl : L.length ≤ 100000) (hmc : m ≤ c) (hcm : c ≤ maxLen) (hv : Vw w X m 1 (octs L)) (hk : (stU (some L) 1).1 = 1) : Calls Try.prog 17 #[.slice X m c] w (DecPost w (decR (rdecP L)).1 (decR (rdecP L)).2) := by
  have ok0 : RSok (some L) := by rintro _ ⟨⟩; exact ⟨hO, by omega⟩
  obtain ⟨s0, hs0⟩ : ∃ s, s = some L := ⟨_, rfl⟩
  rw [← hs0] at ok0 hk
  obtain ⟨v1, s1, q1⟩ : ∃ v s, stU s0 1 = (v, s) := ⟨_, _, rfl⟩
  have ok1 : RSok s1 := by have := stU_ok (z := 1) ok0; rw [q1] at this; exact this
  have b1 := stU_bd 1 ok0 q1
  obtain ⟨v2, s2, q2⟩ : ∃ v s, stU s1 1 = (v, s) := ⟨_, _, rfl⟩
  have ok2 : RSok s2 := by have := stU_ok (z := 1) ok1; rw [q2] at this; exact this
  have b2 := stU_bd 1 ok1 q2
  obtain ⟨v3, s3, q3⟩ : ∃ v s, stU s2 2 = (v, s) := ⟨_, _, rfl⟩
  have ok3 : RSok s3 := by have := stU_ok (z := 2) ok2; rw [q3] at this; exact this
  have b3 := stU_bd 2 ok2 q3
  obtain ⟨v4, s4, q4⟩ : ∃ v s, stU s3 1 = (v, s) := ⟨_, _, rfl⟩
  have ok4 : RSok s4 := by have := stU_ok (z := 1) ok3; rw [q4] at this; exact this
  have b4 := stU_bd 1 ok3 q4
  obtain ⟨v5, s5, q5⟩ : ∃ v s, stI s4 = (v, s) := ⟨_, _, rfl⟩
  have ok5 : RSok s5 := by have := stI_ok ok4; rw [q5] at this; exact this
  obtain ⟨v6, s6, q6⟩ : ∃ v s, stB s5 64 = (v, s) := ⟨_, _, rfl⟩
  have ok6 : RSok s6 := by have := stB_ok (z := 64) ok5; rw [q6] at this; exact this
  have b6 := stB_bd ok5 (by omega) q6
  rw [q1] at hk
  simp only at hk
  subst hk
  obtain ⟨pf, hpf⟩ : ∃ p : Pd, p = { zeroP 1 v2 v3 with cls := v4, size := v5, name := v6 } := ⟨_, rfl⟩
  have hfl : fld s0 = (pf, s6) := by
    rw [hpf]; unfold fld fldH; simp only [q1, q2, q3]; unfold fldB; simp [zeroP, q4, q5, q6]
  rw [hs0] at hfl
  have hR : rdecP L = if (s6).isSome && (validP pf && decide (encP pf = L)) then some pf else none := by unfold rdecP; rw [hfl]
  rw [hR]
  obtain ⟨O, hOO⟩ : ∃ O, decR (if (s6).isSome && (validP pf && decide (encP pf = L)) then some pf else none) = O := ⟨_, rfl⟩
  rw [hOO]
  have HOO := Lib.hid hOO
  clear hfl hR hOO
  have e2 := i64_in v2 (by omega) (by omega)
  have e3 := i64_in v3 (by omega) (by omega)
  have e4 := i64_in v4 (by omega) (by omega)
  have Q1 := Lib.hid q1
  have Q2 := Lib.hid q2
  have Q3 := Lib.hid q3
  have Q4 := Lib.hid q4
  have Q5 := Lib.hid q5
  have Q6 := Lib.hid q6
  have HPF := Lib.hid hpf
  have HS0 := Lib.hid hs0
  clear hpf hs0 q1 q2 q3 q4 q5 q6 ok0 ok1 ok2 ok3 ok4 ok5 ok6
  have HV := Lib.hid hv
  have HO := Lib.hid hO
  obtain ⟨W0, hW0⟩ : ∃ W, W = (w.alloc (.cells (pcs zP zL) TP)).alloc (.cells #[.slice X m c, .bool false] 63) := ⟨_, rfl⟩
  obtain ⟨X0, hst⟩ := rstart w X m c L hO hl hmc hcm hv W0 hW0
  have k1 : Keep w.heap.size [] w W0 := by rw [hW0]; exact ((Keep.refl _ _ w).alloc (Nat.le_refl _) _).alloc (by simp) _
  have hbr : Blk W0 w.heap.size TP (pcs zP zL) := by rw [hW0]; exact (Blk.new _ _ _).alloc _
  have hsz : W0.heap.size = w.heap.size + 2 := by rw [hW0]; simp
  obtain ⟨r, hr⟩ : ∃ r, r = w.heap.size := ⟨_, rfl⟩
  obtain ⟨g, hg⟩ : ∃ g, g = r + 1 := ⟨_, rfl⟩
  have hbq : W0.heap.size = g + 1 := by omega
  obtain ⟨b, hb⟩ : ∃ b, b = g + 1 := ⟨_, rfl⟩
  rw [hbq, ← hr, ← hg, ← hb] at hst
  rw [← hr] at hbr
  obtain ⟨W1, hW1⟩ : ∃ W, W = W0.alloc (.cells (pcs (zeroP 0 0 0) zL) TP) := ⟨_, rfl⟩
  rw [← hW1, ← HS0.out] at hst
  have F0 := Lib.hid hst
  have K0 := Lib.hid k1
  have BR := Lib.hid hbr
  have hrl := hbr.lt
  have hr0 : w.heap.size ≤ r := by omega
  have hg0 : w.heap.size ≤ g := by omega
  have hrg : r ≠ g := by omega
  have hrb : r < W0.heap.size := by omega
  clear hst k1 hbr hv hO hsz hbq
  go_enter Try.func17, Try.ntmps17
  go_upto_region 3 with fail
  change Code.wp _ _ _ _ (((w.alloc (.cells (pcs zP zL) TP)).alloc (.cells #[.slice X m c, .bool false] 63)).alloc (.cells (pcs (zeroP 0 0 0) zL) TP))
  rw [← hW0, ← hW1, ← hr, ← hg, ← hb]
  clear hW0 hW1 hr hg hb
  go_wp2_with fail
  refine (fu_x F0.out 1 Q1.out).mono ?_
  rintro e U1 ⟨rfl, Y1, f1⟩
  have R1 := Lib.hid f1
  clear f1
  have z1 := R1.out.box.frozen 0
  have x1 : U1.cell? ⟨b, 0, none⟩ = some (.int .i64 0) := R1.out.box.cell 0
  have S1 := Lib.hid (R1.out.setKind RX_k 1)
  go_wp2_with fail
  refine (fu_x S1.out 1 Q2.out).mono ?_
  rintro e U2 ⟨rfl, Y2, f2⟩
  have R2 := Lib.hid f2
  clear f2
  have z2 := R2.out.box.frozen 1
  have x2 : U2.cell? ⟨b, 1, none⟩ = some (.int .i64 0) := R2.out.box.cell 1
  have S2 := Lib.hid (R2.out.setSrc RX_k v2)
  go_wp2_with fail
  refine (fu_x S2.out 2 Q3.out).mono ?_
  rintro e U3 ⟨rfl, Y3, f3⟩
  have R3 := Lib.hid f3
  clear f3
  have z3 := R3.out.box.frozen 2
  have x3 : U3.cell? ⟨b, 2, none⟩ = some (.int .i64 0) := R3.out.box.cell 2
  have S3 := Lib.hid (R3.out.setNum RX_k v3)
  go_upto_region 6 with fail
  have F3 : Hid (FW RX W0 (U3.setCell ⟨b, 2, none⟩ (.int .i64 v3)) g b Y3 s3 (zeroP 1 v2 v3) zL) := Lib.hid S3.out
  obtain ⟨W5, hW5⟩ : ∃ W, W = U3.setCell ⟨b, 2, none⟩ (.int .i64 v3) := ⟨_, rfl⟩
  rw [← hW5] at F3 ⊢
  clear hW5 z1 z2 z3 x1 x2 x3 S1 S2 S3 R1 R2 R3 F0
  have c0 : W5.cell? ⟨b, 0, none⟩ = some (.int .i64 1) := F3.out.box.cell 0
  go_wp2_with fail
  refine (fu_x F3.out 1 Q4.out).mono ?_
  rintro e U4 ⟨rfl, Y4, f4⟩
  have R4 := Lib.hid f4
  clear f4
  have z4 := R4.out.box.frozen 3
  have x4 : U4.cell? ⟨b, 3, none⟩ = some (.int .i64 0) := R4.out.box.cell 3
  clear c0
  have S4 := Lib.hid (R4.out.setCls RX_k v4)
  go_wp2_with fail
  refine (fi_x S4.out Q5.out).mono ?_
  rintro e U5 ⟨rfl, Y5, f5⟩
  have R5 := Lib.hid f5
  clear f5
  have z5 := R5.out.box.frozen 5
  have x5 : U5.cell? ⟨b, 5, none⟩ = some (.int .i64 0) := R5.out.box.cell 5
  have S5 := Lib.hid (R5.out.setSize RX_k v5)
  go_wp2_with fail
  refine (fb_x S5.out 64 Q6.out).mono ?_
  rintro e U6 ⟨A6, n6, d6, Y6, rfl, hv6, f6⟩
  have R6 := Lib.hid f6
  have HV6 := Lib.hid hv6
  clear f6 hv6
  have z6 := R6.out.box.frozen 4
  have x6 : U6.cell? ⟨b, 4, none⟩ = some (.string ⟨#[]⟩) := R6.out.box.cell 4
  have hcv := conv_str (P := Try.prog) (w := U6) 24 9 5 Try.underlying24 Try.underlying5 Try.underlying9 A6 n6 d6 v6 HV6.out
  have S6 := Lib.hid (R6.out.setName RX_k v6 b6.1 (by have := b6.2; omega))
  have G : Hid (FW RX W0 (U6.setCell ⟨b, 4, none⟩ (.string (strOfNums v6))) g b Y6 s6 pf zL) := Lib.hid (by rw [HPF.out]; exact S6.out)
  go_upto_region 28 with fail
  obtain ⟨WF, hWF⟩ : ∃ W, W = (U6.setCell ⟨b, 4, none⟩ (.string (strOfNums v6))) := ⟨_, rfl⟩
  rw [← hWF] at G ⊢
  clear hWF
  clear z4 x4 z5 x5 z6 x6 hcv
  obtain ⟨sf, hsf⟩ : ∃ s, s = s6 := ⟨_, rfl⟩
  rw [← hsf] at G HOO
  clear hsf
  have c0 : WF.cell? ⟨b, 0, none⟩ = some (.int .i64 pf.kind) := (G.out).box.cell 0
  have c1 : WF.cell? ⟨b, 1, none⟩ = some (.int .i64 pf.src) := (G.out).box.cell 1
  have c2 : WF.cell? ⟨b, 2, none⟩ = some (.int .i64 pf.num) := (G.out).box.cell 2
  have c3 : WF.cell? ⟨b, 3, none⟩ = some (.int .i64 pf.cls) := (G.out).box.cell 3
  have c4 : WF.cell? ⟨b, 4, none⟩ = some (.string (strOfNums pf.name)) := (G.out).box.cell 4
  have c5 : WF.cell? ⟨b, 5, none⟩ = some (.int .i64 pf.size) := (G.out).box.cell 5
  have c6 : WF.cell? ⟨b, 6, none⟩ = some (.int .i64 pf.off) := (G.out).box.cell 6
  have c7 : WF.cell? ⟨b, 7, none⟩ = some (.slice (zL : Lc).D (zL : Lc).dn (zL : Lc).dc) := (G.out).box.cell 7
  have c8 : WF.cell? ⟨b, 8, none⟩ = some (.int .u32 pf.sum) := (G.out).box.cell 8
  have c9 : WF.cell? ⟨b, 9, none⟩ = some (.int .i64 pf.code) := (G.out).box.cell 9
  have c10 : WF.cell? ⟨b, 10, none⟩ = some (.slice (zL : Lc).G (zL : Lc).gn (zL : Lc).gc) := (G.out).box.cell 10
  cases hvb : validP pf with
  | false =>
    have hen : encR pf = ([], 1) := by unfold encR; rw [hvb]; rfl
    have HEN := Lib.hid hen
    have HVB := Lib.hid hvb
    clear hen hvb
    go_wp2_with fail
    refine (Calls.mono (renc_any _ pf zL G.out.pin)) ?_
    rw [HEN.out]
    rintro e WE ⟨AE, nE, dE, rfl, hav⟩
    have HS : Hid (Sl WE 5 1 AE nE dE (octs [])) := Lib.hid hav.1
    have FE := Lib.hid (G.out.other RX_k hav.2.1)
    clear hav c0 c1 c2 c3 c4 c5 c6 c7 c8 c9 c10
    have BX : Hid (Blk WE r TP (pcs zP zL)) := Lib.hid (BR.out.keep FE.out.keep hrl (by simpa using hrg))
    have KE : Hid (Keep w.heap.size [] w WE) := Lib.hid (K0.out.chain1 (Nat.le_refl _) FE.out.keep hg0)
    have cb := FE.out.rd.bad
    have y0 := BX.out.frozen 0
    have x0 : WE.cell? ⟨r, 0, none⟩ = some (.int .i64 0) := BX.out.cell 0
    have y1 := BX.out.frozen 1
    have x1 : WE.cell? ⟨r, 1, none⟩ = some (.int .i64 0) := BX.out.cell 1
    have y2 := BX.out.frozen 2
    have x2 : WE.cell? ⟨r, 2, none⟩ = some (.int .i64 0) := BX.out.cell 2
    have y3 := BX.out.frozen 3
    have x3 : WE.cell? ⟨r, 3, none⟩ = some (.int .i64 0) := BX.out.cell 3
    have y4 := BX.out.frozen 4
    have x4 : WE.cell? ⟨r, 4, none⟩ = some (.string ⟨#[]⟩) := BX.out.cell 4
    have y5 := BX.out.frozen 5
    have x5 : WE.cell? ⟨r, 5, none⟩ = some (.int .i64 0) := BX.out.cell 5
    have y6 := BX.out.frozen 6
    have x6 : WE.cell? ⟨r, 6, none⟩ = some (.int .i64 0) := BX.out.cell 6
    have y7 := BX.out.frozen 7
    have x7 : WE.cell? ⟨r, 7, none⟩ = some (.slice none 0 0) := BX.out.cell 7
    have y8 := BX.out.frozen 8
    have x8 : WE.cell? ⟨r, 8, none⟩ = some (.int .u32 0) := BX.out.cell 8
    have y9 := BX.out.frozen 9
    have x9 : WE.cell? ⟨r, 9, none⟩ = some (.int .i64 0) := BX.out.cell 9
    have y10 := BX.out.frozen 10
    have x10 : WE.cell? ⟨r, 10, none⟩ = some (.slice none 0 0) := BX.out.cell 10
    cases hsf : sf.isNone with
    | true =>
      rw [hsf] at cb
      have HSF := Lib.hid hsf
      clear hsf
      go_wp2_with fail
      refine bodyPost_ret (v := .tuple #[.agg (pcs zP zL), .int .i64 4]) (by simp [pcs, zP, zL, zeroP, strNil, results, Try.results17, go_sem, x0, x1, x2, x3, x4, x5, x6, x7, x8, x9, x10]) rfl ?_
      have hO2 : O = (zP, 4) := by rw [← HOO.out, if_neg (by rw [HVB.out]; simp)]; rfl
      rw [hO2]
      have HRE := ret_ok2 KE.out hr0 (zin _ 0 0 0) (by simp [blks, zL]) (by simp [blks, zL]) (set_keep WE r zP zL)
      exact ⟨HRE.1, zL, rfl, HRE.2, by simp [blks, zL], by simp [blks, zL]⟩
    | false =>
      rw [hsf] at cb
      have HSF := Lib.hid hsf
      clear hsf
      go_wp2_with fail
      refine bodyPost_ret (v := .tuple #[.agg (pcs zP zL), .int .i64 4]) (by simp [pcs, zP, zL, zeroP, strNil, results, Try.results17, go_sem, x0, x1, x2, x3, x4, x5, x6, x7, x8, x9, x10]) rfl ?_
      have hO2 : O = (zP, 4) := by rw [← HOO.out, if_neg (by rw [HVB.out]; simp)]; rfl
      rw [hO2]
      have HRE := ret_ok2 KE.out hr0 (zin _ 0 0 0) (by simp [blks, zL]) (by simp [blks, zL]) (set_keep WE r zP zL)
      exact ⟨HRE.1, zL, rfl, HRE.2, by simp [blks, zL], by simp [blks, zL]⟩
  | true =>
    have hen : encR pf = (encP pf, 0) := by unfold encR; rw [hvb]; rfl
    have HEN := Lib.hid hen
    have HVB := Lib.hid hvb
    clear hen hvb
    go_wp2_with fail
    refine (Calls.mono (renc_any _ pf zL G.out.pin)) ?_
    rw [HEN.out]
    rintro e WE ⟨AE, nE, dE, rfl, hav⟩
    have HS : Hid (Sl WE 5 1 AE nE dE (octs (encP pf))) := Lib.hid hav.1
    have FE := Lib.hid (G.out.other RX_k hav.2.1)
    clear hav c0 c1 c2 c3 c4 c5 c6 c7 c8 c9 c10
    have BX : Hid (Blk WE r TP (pcs zP zL)) := Lib.hid (BR.out.keep FE.out.keep hrl (by simpa using hrg))
    have KE : Hid (Keep w.heap.size [] w WE) := Lib.hid (K0.out.chain1 (Nat.le_refl _) FE.out.keep hg0)
    have cb := FE.out.rd.bad
    have y0 := BX.out.frozen 0
    have x0 : WE.cell? ⟨r, 0, none⟩ = some (.int .i64 0) := BX.out.cell 0
    have y1 := BX.out.frozen 1
    have x1 : WE.cell? ⟨r, 1, none⟩ = some (.int .i64 0) := BX.out.cell 1
    have y2 := BX.out.frozen 2
    have x2 : WE.cell? ⟨r, 2, none⟩ = some (.int .i64 0) := BX.out.cell 2
    have y3 := BX.out.frozen 3
    have x3 : WE.cell? ⟨r, 3, none⟩ = some (.int .i64 0) := BX.out.cell 3
    have y4 := BX.out.frozen 4
    have x4 : WE.cell? ⟨r, 4, none⟩ = some (.string ⟨#[]⟩) := BX.out.cell 4
    have y5 := BX.out.frozen 5
    have x5 : WE.cell? ⟨r, 5, none⟩ = some (.int .i64 0) := BX.out.cell 5
    have y6 := BX.out.frozen 6
    have x6 : WE.cell? ⟨r, 6, none⟩ = some (.int .i64 0) := BX.out.cell 6
    have y7 := BX.out.frozen 7
    have x7 : WE.cell? ⟨r, 7, none⟩ = some (.slice none 0 0) := BX.out.cell 7
    have y8 := BX.out.frozen 8
    have x8 : WE.cell? ⟨r, 8, none⟩ = some (.int .u32 0) := BX.out.cell 8
    have y9 := BX.out.frozen 9
    have x9 : WE.cell? ⟨r, 9, none⟩ = some (.int .i64 0) := BX.out.cell 9
    have y10 := BX.out.frozen 10
    have x10 : WE.cell? ⟨r, 10, none⟩ = some (.slice none 0 0) := BX.out.cell 10
    cases hsf : sf.isNone with
    | true =>
      rw [hsf] at cb
      have HSF := Lib.hid hsf
      clear hsf
      go_wp2_with fail
      refine bodyPost_ret (v := .tuple #[.agg (pcs zP zL), .int .i64 4]) (by simp [pcs, zP, zL, zeroP, strNil, results, Try.results17, go_sem, x0, x1, x2, x3, x4, x5, x6, x7, x8, x9, x10]) rfl ?_
      have hO2 : O = (zP, 4) := by rw [← HOO.out, if_neg (by have h := HSF.out; cases sf; simp; simp at h)]; rfl
      rw [hO2]
      have HRE := ret_ok2 KE.out hr0 (zin _ 0 0 0) (by simp [blks, zL]) (by simp [blks, zL]) (set_keep WE r zP zL)
      exact ⟨HRE.1, zL, rfl, HRE.2, by simp [blks, zL], by simp [blks, zL]⟩
    | false =>
      rw [hsf] at cb
      have HSF : Hid (sf.isSome = true) := Lib.hid (by cases sf; simp at hsf; rfl)
      clear hsf
      have hoe : Oct (encP pf) := encP_oct FE.out.pin HVB.out
      have hc1 := conv_str (P := Try.prog) (w := WE) 24 9 5 Try.underlying24 Try.underlying5 Try.underlying9 AE nE dE (encP pf) (HS.out.vw (by omega))
      have hc2 := conv_str (P := Try.prog) (w := WE) 24 9 5 Try.underlying24 Try.underlying5 Try.underlying9 X m c L (HV.out.keep0 KE.out)
      have hbq := strOf_beq hoe HO.out
      by_cases heq : encP pf = L
      · rw [decide_eq_true heq] at hbq
        have HEQ := Lib.hid heq
        clear heq hoe
        have c0 : WE.cell? ⟨b, 0, none⟩ = some (.int .i64 pf.kind) := (FE.out).box.cell 0
        have c1 : WE.cell? ⟨b, 1, none⟩ = some (.int .i64 pf.src) := (FE.out).box.cell 1
        have c2 : WE.cell? ⟨b, 2, none⟩ = some (.int .i64 pf.num) := (FE.out).box.cell 2
        have c3 : WE.cell? ⟨b, 3, none⟩ = some (.int .i64 pf.cls) := (FE.out).box.cell 3
        have c4 : WE.cell? ⟨b, 4, none⟩ = some (.string (strOfNums pf.name)) := (FE.out).box.cell 4
        have c5 : WE.cell? ⟨b, 5, none⟩ = some (.int .i64 pf.size) := (FE.out).box.cell 5
        have c6 : WE.cell? ⟨b, 6, none⟩ = some (.int .i64 pf.off) := (FE.out).box.cell 6
        have c7 : WE.cell? ⟨b, 7, none⟩ = some (.slice (zL : Lc).D (zL : Lc).dn (zL : Lc).dc) := (FE.out).box.cell 7
        have c8 : WE.cell? ⟨b, 8, none⟩ = some (.int .u32 pf.sum) := (FE.out).box.cell 8
        have c9 : WE.cell? ⟨b, 9, none⟩ = some (.int .i64 pf.code) := (FE.out).box.cell 9
        have c10 : WE.cell? ⟨b, 10, none⟩ = some (.slice (zL : Lc).G (zL : Lc).gn (zL : Lc).gc) := (FE.out).box.cell 10
        go_wp2_with fail
        refine bodyPost_ret (v := .tuple #[.agg (pcs pf zL), .int .i64 0]) (by simp [pcs, results, Try.results17, go_sem, x0, x1, x2, x3, x4, x5, x6, x7, x8, x9, x10]) rfl ?_
        have hO2 : O = (pf, 0) := by rw [← HOO.out, if_pos (by rw [HSF.out, HVB.out, HEQ.out]; simp)]; rfl
        rw [hO2]
        have HRE := ret_ok2 KE.out hr0 FE.out.pin (fun x hx => by have := (FE.out.hD x hx).1; omega) (fun x hx => by have := (FE.out.hG x hx).1; omega) (set_keep WE r pf zL)
        exact ⟨HRE.1, zL, rfl, HRE.2, (fun x hx => by have := (FE.out.hD x hx).1; have := K0.out.size; omega), (fun x hx => by have := (FE.out.hG x hx).1; have := K0.out.size; omega)⟩
      · rw [decide_eq_false heq] at hbq
        have HEQ := Lib.hid heq
        clear heq hoe
        go_wp2_with fail
        refine bodyPost_ret (v := .tuple #[.agg (pcs zP zL), .int .i64 4]) (by simp [pcs, zP, zL, zeroP, strNil, results, Try.results17, go_sem, x0, x1, x2, x3, x4, x5, x6, x7, x8, x9, x10]) rfl ?_
        have hO2 : O = (zP, 4) := by rw [← HOO.out, if_neg (by rw [decide_eq_false HEQ.out]; simp)]; rfl
        rw [hO2]
        have HRE := ret_ok2 KE.out hr0 (zin _ 0 0 0) (by simp [blks, zL]) (by simp [blks, zL]) (set_keep WE r zP zL)
        exact ⟨HRE.1, zL, rfl, HRE.2, by simp [blks, zL], by simp [blks, zL]⟩
set_option maxRecDepth 100000 in
set_option maxHeartbeats 16000000 in
theorem rdec_2 (w : World) (X : Option Addr) (m c : Nat) (L : List Int) (hO : Oct L) (hl : L.length ≤ 100000) (hmc : m ≤ c) (hcm : c ≤ maxLen) (hv : Vw w X m 1 (octs L)) (hk : (stU (some L) 1).1 = 2) : Calls Try.prog 17 #[.slice X m c] w (DecPost w (decR (rdecP L)).1 (decR (rdecP L)).2) := by
  have ok0 : RSok (some L) := by rintro _ ⟨⟩; exact ⟨hO, by omega⟩
  obtain ⟨s0, hs0⟩ : ∃ s, s = some L := ⟨_, rfl⟩
  rw [← hs0] at ok0 hk
  obtain ⟨v1, s1, q1⟩ : ∃ v s, stU s0 1 = (v, s) := ⟨_, _, rfl⟩
  have ok1 : RSok s1 := by have := stU_ok (z := 1) ok0; rw [q1] at this; exact this
  have b1 := stU_bd 1 ok0 q1
  obtain ⟨v2, s2, q2⟩ : ∃ v s, stU s1 1 = (v, s) := ⟨_, _, rfl⟩
  have ok2 : RSok s2 := by have := stU_ok (z := 1) ok1; rw [q2] at this; exact this
  have b2 := stU_bd 1 ok1 q2
  obtain ⟨v3, s3, q3⟩ : ∃ v s, stU s2 2 = (v, s) := ⟨_, _, rfl⟩
  have ok3 : RSok s3 := by have := stU_ok (z := 2) ok2; rw [q3] at this; exact this
  have b3 := stU_bd 2 ok2 q3
  obtain ⟨v4, s4, q4⟩ : ∃ v s, stI s3 = (v, s) := ⟨_, _, rfl⟩
  have ok4 : RSok s4 := by have := stI_ok ok3; rw [q4] at this; exact this
  obtain ⟨v5, s5, q5⟩ : ∃ v s, stB s4 512 = (v, s) := ⟨_, _, rfl⟩
  have ok5 : RSok s5 := by have := stB_ok (z := 512) ok4; rw [q5] at this; exact this
  have b5 := stB_bd ok4 (by omega) q5
  rw [q1] at hk
  simp only at hk
  subst hk
  obtain ⟨pf, hpf⟩ : ∃ p : Pd, p = { zeroP 2 v2 v3 with off := v4, data := v5 } := ⟨_, rfl⟩
  have hfl : fld s0 = (pf, s5) := by
    rw [hpf]; unfold fld fldH; simp only [q1, q2, q3]; unfold fldB; simp [zeroP, q4, q5]
  rw [hs0] at hfl
  have hR : rdecP L = if (s5).isSome && (validP pf && decide (encP pf = L)) then some pf else none := by unfold rdecP; rw [hfl]
  rw [hR]
  obtain ⟨O, hOO⟩ : ∃ O, decR (if (s5).isSome && (validP pf && decide (encP pf = L)) then some pf else none) = O := ⟨_, rfl⟩
  rw [hOO]
  have HOO := Lib.hid hOO
  clear hfl hR hOO
  have e2 := i64_in v2 (by omega) (by omega)
  have e3 := i64_in v3 (by omega) (by omega)
  have Q1 := Lib.hid q1
  have Q2 := Lib.hid q2
  have Q3 := Lib.hid q3
  have Q4 := Lib.hid q4
  have Q5 := Lib.hid q5
  have HPF := Lib.hid hpf
  have HS0 := Lib.hid hs0
  clear hpf hs0 q1 q2 q3 q4 q5 ok0 ok1 ok2 ok3 ok4 ok5
  have HV := Lib.hid hv
  have HO := Lib.hid hO
  obtain ⟨W0, hW0⟩ : ∃ W, W = (w.alloc (.cells (pcs zP zL) TP)).alloc (.cells #[.slice X m c, .bool false] 63) := ⟨_, rfl⟩
  obtain ⟨X0, hst⟩ := rstart w X m c L hO hl hmc hcm hv W0 hW0
  have k1 : Keep w.heap.size [] w W0 := by rw [hW0]; exact ((Keep.refl _ _ w).alloc (Nat.le_refl _) _).alloc (by simp) _
  have hbr : Blk W0 w.heap.size TP (pcs zP zL) := by rw [hW0]; exact (Blk.new _ _ _).alloc _
  have hsz : W0.heap.size = w.heap.size + 2 := by rw [hW0]; simp
  obtain ⟨r, hr⟩ : ∃ r, r = w.heap.size := ⟨_, rfl⟩
  obtain ⟨g, hg⟩ : ∃ g, g = r + 1 := ⟨_, rfl⟩
  have hbq : W0.heap.size = g + 1 := by omega
  obtain ⟨b, hb⟩ : ∃ b, b = g + 1 := ⟨_, rfl⟩
  rw [hbq, ← hr, ← hg, ← hb] at hst
  rw [← hr] at hbr
  obtain ⟨W1, hW1⟩ : ∃ W, W = W0.alloc (.cells (pcs (zeroP 0 0 0) zL) TP) := ⟨_, rfl⟩
  rw [← hW1, ← HS0.out] at hst
  have F0 := Lib.hid hst
  have K0 := Lib.hid k1
  have BR := Lib.hid hbr
  have hrl := hbr.lt
  have hr0 : w.heap.size ≤ r := by omega
  have hg0 : w.heap.size ≤ g := by omega
  have hrg : r ≠ g := by omega
  have hrb : r < W0.heap.size := by omega
  clear hst k1 hbr hv hO hsz hbq
  go_enter Try.func17, Try.ntmps17
  go_upto_region 3 with fail
  change Code.wp _ _ _ _ (((w.alloc (.cells (pcs zP zL) TP)).alloc (.cells #[.slice X m c, .bool false] 63)).alloc (.cells (pcs (zeroP 0 0 0) zL) TP))
  rw [← hW0, ← hW1, ← hr, ← hg, ← hb]
  clear hW0 hW1 hr hg hb
  go_wp2_with fail
  refine (fu_x F0.out 1 Q1.out).mono ?_
  rintro e U1 ⟨rfl, Y1, f1⟩
  have R1 := Lib.hid f1
  clear f1
  have z1 := R1.out.box.frozen 0
  have x1 : U1.cell? ⟨b, 0, none⟩ = some (.int .i64 0) := R1.out.box.cell 0
  have S1 := Lib.hid (R1.out.setKind RX_k 2)
  go_wp2_with fail
  refine (fu_x S1.out 1 Q2.out).mono ?_
  rintro e U2 ⟨rfl, Y2, f2⟩
  have R2 := Lib.hid f2
  clear f2
  have z2 := R2.out.box.frozen 1
  have x2 : U2.cell? ⟨b, 1, none⟩ = some (.int .i64 0) := R2.out.box.cell 1
  have S2 := Lib.hid (R2.out.setSrc RX_k v2)
  go_wp2_with fail
  refine (fu_x S2.out 2 Q3.out).mono ?_
  rintro e U3 ⟨rfl, Y3, f3⟩
  have R3 := Lib.hid f3
  clear f3
  have z3 := R3.out.box.frozen 2
  have x3 : U3.cell? ⟨b, 2, none⟩ = some (.int .i64 0) := R3.out.box.cell 2
  have S3 := Lib.hid (R3.out.setNum RX_k v3)
  go_upto_region 6 with fail
  have F3 : Hid (FW RX W0 (U3.setCell ⟨b, 2, none⟩ (.int .i64 v3)) g b Y3 s3 (zeroP 2 v2 v3) zL) := Lib.hid S3.out
  obtain ⟨W5, hW5⟩ : ∃ W, W = U3.setCell ⟨b, 2, none⟩ (.int .i64 v3) := ⟨_, rfl⟩
  rw [← hW5] at F3 ⊢
  clear hW5 z1 z2 z3 x1 x2 x3 S1 S2 S3 R1 R2 R3 F0
  have c0 : W5.cell? ⟨b, 0, none⟩ = some (.int .i64 2) := F3.out.box.cell 0
  go_wp2_with fail
  refine (fi_x F3.out Q4.out).mono ?_
  rintro e U4 ⟨rfl, Y4, f4⟩
  have R4 := Lib.hid f4
  clear f4
  have z4 := R4.out.box.frozen 6
  have x4 : U4.cell? ⟨b, 6, none⟩ = some (.int .i64 0) := R4.out.box.cell 6
  clear c0
  have S4 := Lib.hid (R4.out.setOff RX_k v4)
  have c7 : (U4.setCell ⟨b, 6, none⟩ (.int .i64 v4)).cell? ⟨b, 7, none⟩ = some (.slice none 0 0) := S4.out.box.cell 7
  have FA := Lib.hid (S4.out.other RX_k (Keep.refl _ _ _).drew)
  obtain ⟨i0, hi0, hz0, hz1, hz2⟩ := info_parts infoU8
  go_upto_region 13 with fail
  refine region_anyZ 5 (S := (fun w' => w'.cell? ⟨b, 7, none⟩ = some (.slice none 0 0))) (by kernel_rfl) (by exact FA.out.box.cell 7) (fun hHeld => ?_)
  refine anyZ.take (i := 0) (oi := { dst := some 40, op := Op.fieldAddr 29 (Operand.tmp 5) 6, type := 0, pos := _, after := #[], guard := none }) (v := _) rfl (by kernel_rfl) (by kernel_rfl) (by kernel_rfl) (by kernel_rfl) (by kernel_rfl) (fun _ _ _ h => h) (Or.inl ⟨by rfl, by (intro wS hSw; (try dsimp only at hSw); go_simp; try with_reducible rfl)⟩) (by exact hHeld) ?_
  (try simp only [Act.put, List.setIfInBounds_toArray, List.set_cons_zero, List.set_cons_succ])
  refine anyZ.take (i := 1) (oi := { dst := some 41, op := Op.load 24 (Operand.tmp 40), type := 24, pos := _, after := #[{ on := 0, ground := Ground.data }], guard := none }) (v := _) rfl (by kernel_rfl) (by kernel_rfl) (by kernel_rfl) (by kernel_rfl) (by kernel_rfl) (fun _ _ _ h => h) (Or.inl ⟨by rfl, by (intro wS hSw; (try dsimp only at hSw); go_simp; try with_reducible rfl)⟩) (by exact hHeld) ?_
  (try simp only [Act.put, List.setIfInBounds_toArray, List.set_cons_zero, List.set_cons_succ])
  refine anyZ.ready (rs := [2]) (by kernel_rfl) (by simp) ?_
  refine (AllZ.cons (o := { dst := some 42, op := Op.call { callee := Callee.value (Operand.func 41), args := #[Operand.tmp 4, Operand.const (Value.int IntKind.i64 512)], argTypes := #[63, 3] }, type := 24, pos := _, after := #[], guard := none }) rfl (fun K hK => ?_) AllZ.nil)
  go_simp
  refine (fb_x FA.out 512 Q5.out).mono ?_
  rintro e U5 ⟨A5, n5, d5, Y5, rfl, hv5, f5⟩
  have FB := Lib.hid f5
  have HV5 := Lib.hid hv5
  have hn5 : n5 ≤ 512 := by have := b5.2; have := hv5.1; simp [octs] at this; omega
  clear f5 hv5
  refine hK.out _ _ (fun _ => (by exact FB.out.box.cell 7)) (fun hHeld => ?_)
  clear hK K
  replace hHeld := hHeld (by kernel_rfl)
  (try simp only [Act.put, List.setIfInBounds_toArray, List.set_cons_zero, List.set_cons_succ])
  refine anyZ.ready (rs := [3]) (by kernel_rfl) (by simp) ?_
  refine (AllZ.cons (o := { dst := some 43, op := Op.call { callee := Callee.builtin Builtin.append, args := #[Operand.tmp 41, Operand.tmp 42], argTypes := #[24, 24] }, type := 24, pos := _, after := #[{ on := 1, ground := Ground.data }, { on := 2, ground := Ground.data }, { on := 2, ground := Ground.chain }], guard := none }) rfl (fun K hK => ?_) AllZ.nil)
  refine step_appV _ (by rfl) (.tmp 41) (.tmp 42) 24 (by rfl) 5 i0 _ 1 1 Try.underlying24 hi0 hz0 hz1 hz2 rfl (by omega) none 0 0 [] (by rfl) (by exact Sl.nil _ _ _) A5 n5 d5 (octs v5) (by rfl) (by exact HV5.out) (oct_one _) (by omega) (by omega) ?_
  intro A8 ce8 w8 hs8 hk8 hb8
  simp only [Nat.zero_add, List.nil_append] at hs8 ⊢
  have FC := Lib.hid (FB.out.other RX_k hk8)
  have HA8 : Hid (∀ x, x ∈ blks A8 → W0.heap.size ≤ x ∧ x ≠ b) := Lib.hid (fun x hx => by have h1 := FB.out.keep.size; have h2 := FB.out.box.lt; rcases hb8 x hx with h | h; simp [blks] at h; omega)
  have HS8 := Lib.hid hs8
  have z7 := FC.out.box.frozen 7
  have x7 : w8.cell? ⟨b, 7, none⟩ = some (.slice none 0 0) := FC.out.box.cell 7
  clear hs8 hk8 hb8
  refine hK.out _ _ (fun _ => (by exact FC.out.box.cell 7)) (fun hHeld => ?_)
  clear hK K
  replace hHeld := hHeld (by kernel_rfl)
  (try simp only [Act.put, List.setIfInBounds_toArray, List.set_cons_zero, List.set_cons_succ])
  refine anyZ.take (i := 4) (oi := { dst := some 44, op := Op.fieldAddr 29 (Operand.tmp 5) 6, type := 0, pos := _, after := #[{ on := 0, ground := Ground.phase }, { on := 1, ground := Ground.phase }, { on := 2, ground := Ground.phase }, { on := 3, ground := Ground.phase }], guard := none }) (v := _) rfl (by kernel_rfl) (by kernel_rfl) (by kernel_rfl) (by kernel_rfl) (by kernel_rfl) (fun _ _ _ h => h) (Or.inl ⟨by rfl, by (intro wS hSw; (try dsimp only at hSw); go_simp; try with_reducible rfl)⟩) (by exact hHeld) ?_
  (try simp only [Act.put, List.setIfInBounds_toArray, List.set_cons_zero, List.set_cons_succ])
  refine anyZ.ready (rs := [5]) (by kernel_rfl) (by simp) ?_
  refine (AllZ.cons (o := { dst := none, op := Op.store 24 (Operand.tmp 44) (Operand.tmp 43), type := 0, pos := _, after := #[{ on := 4, ground := Ground.data }, { on := 3, ground := Ground.data }, { on := 3, ground := Ground.chain }, { on := 0, ground := Ground.phase }, { on := 1, ground := Ground.phase }, { on := 2, ground := Ground.phase }, { on := 3, ground := Ground.phase }], guard := none }) rfl (fun K hK => ?_) AllZ.nil)
  go_simp
  refine hK.out _ _ (fun h => absurd h (by decide)) (fun hHeld => ?_)
  clear hK K
  (try simp only [Act.put, List.setIfInBounds_toArray, List.set_cons_zero, List.set_cons_succ])
  refine anyZ.done (by kernel_rfl) ?_ _
  clear hHeld
  have S5 := Lib.hid (FC.out.setData RX_k v5 A8 n5 ce8 b5.1 (HS8.out.vw (by omega)) HS8.out.cap (by omega) HA8.out)
  have G : Hid (FW RX W0 (w8.setCell ⟨b, 7, none⟩ (.slice A8 n5 ce8)) g b Y5 s5 pf ⟨A8, n5, ce8, none, 0, 0⟩) := Lib.hid (by rw [HPF.out]; exact S5.out)
  go_upto_region 28 with fail
  obtain ⟨WF, hWF⟩ : ∃ W, W = (w8.setCell ⟨b, 7, none⟩ (.slice A8 n5 ce8)) := ⟨_, rfl⟩
  rw [← hWF] at G ⊢
  clear hWF
  clear z4 x4 c7 z7 x7
  obtain ⟨sf, hsf⟩ : ∃ s, s = s5 := ⟨_, rfl⟩
  rw [← hsf] at G HOO
  clear hsf
  have c0 : WF.cell? ⟨b, 0, none⟩ = some (.int .i64 pf.kind) := (G.out).box.cell 0
  have c1 : WF.cell? ⟨b, 1, none⟩ = some (.int .i64 pf.src) := (G.out).box.cell 1
  have c2 : WF.cell? ⟨b, 2, none⟩ = some (.int .i64 pf.num) := (G.out).box.cell 2
  have c3 : WF.cell? ⟨b, 3, none⟩ = some (.int .i64 pf.cls) := (G.out).box.cell 3
  have c4 : WF.cell? ⟨b, 4, none⟩ = some (.string (strOfNums pf.name)) := (G.out).box.cell 4
  have c5 : WF.cell? ⟨b, 5, none⟩ = some (.int .i64 pf.size) := (G.out).box.cell 5
  have c6 : WF.cell? ⟨b, 6, none⟩ = some (.int .i64 pf.off) := (G.out).box.cell 6
  have c7 : WF.cell? ⟨b, 7, none⟩ = some (.slice (⟨A8, n5, ce8, none, 0, 0⟩ : Lc).D (⟨A8, n5, ce8, none, 0, 0⟩ : Lc).dn (⟨A8, n5, ce8, none, 0, 0⟩ : Lc).dc) := (G.out).box.cell 7
  have c8 : WF.cell? ⟨b, 8, none⟩ = some (.int .u32 pf.sum) := (G.out).box.cell 8
  have c9 : WF.cell? ⟨b, 9, none⟩ = some (.int .i64 pf.code) := (G.out).box.cell 9
  have c10 : WF.cell? ⟨b, 10, none⟩ = some (.slice (⟨A8, n5, ce8, none, 0, 0⟩ : Lc).G (⟨A8, n5, ce8, none, 0, 0⟩ : Lc).gn (⟨A8, n5, ce8, none, 0, 0⟩ : Lc).gc) := (G.out).box.cell 10
  cases hvb : validP pf with
  | false =>
    have hen : encR pf = ([], 1) := by unfold encR; rw [hvb]; rfl
    have HEN := Lib.hid hen
    have HVB := Lib.hid hvb
    clear hen hvb
    go_wp2_with fail
    refine (Calls.mono (renc_any _ pf ⟨A8, n5, ce8, none, 0, 0⟩ G.out.pin)) ?_
    rw [HEN.out]
    rintro e WE ⟨AE, nE, dE, rfl, hav⟩
    have HS : Hid (Sl WE 5 1 AE nE dE (octs [])) := Lib.hid hav.1
    have FE := Lib.hid (G.out.other RX_k hav.2.1)
    clear hav c0 c1 c2 c3 c4 c5 c6 c7 c8 c9 c10
    have BX : Hid (Blk WE r TP (pcs zP zL)) := Lib.hid (BR.out.keep FE.out.keep hrl (by simpa using hrg))
    have KE : Hid (Keep w.heap.size [] w WE) := Lib.hid (K0.out.chain1 (Nat.le_refl _) FE.out.keep hg0)
    have cb := FE.out.rd.bad
    have y0 := BX.out.frozen 0
    have x0 : WE.cell? ⟨r, 0, none⟩ = some (.int .i64 0) := BX.out.cell 0
    have y1 := BX.out.frozen 1
    have x1 : WE.cell? ⟨r, 1, none⟩ = some (.int .i64 0) := BX.out.cell 1
    have y2 := BX.out.frozen 2
    have x2 : WE.cell? ⟨r, 2, none⟩ = some (.int .i64 0) := BX.out.cell 2
    have y3 := BX.out.frozen 3
    have x3 : WE.cell? ⟨r, 3, none⟩ = some (.int .i64 0) := BX.out.cell 3
    have y4 := BX.out.frozen 4
    have x4 : WE.cell? ⟨r, 4, none⟩ = some (.string ⟨#[]⟩) := BX.out.cell 4
    have y5 := BX.out.frozen 5
    have x5 : WE.cell? ⟨r, 5, none⟩ = some (.int .i64 0) := BX.out.cell 5
    have y6 := BX.out.frozen 6
    have x6 : WE.cell? ⟨r, 6, none⟩ = some (.int .i64 0) := BX.out.cell 6
    have y7 := BX.out.frozen 7
    have x7 : WE.cell? ⟨r, 7, none⟩ = some (.slice none 0 0) := BX.out.cell 7
    have y8 := BX.out.frozen 8
    have x8 : WE.cell? ⟨r, 8, none⟩ = some (.int .u32 0) := BX.out.cell 8
    have y9 := BX.out.frozen 9
    have x9 : WE.cell? ⟨r, 9, none⟩ = some (.int .i64 0) := BX.out.cell 9
    have y10 := BX.out.frozen 10
    have x10 : WE.cell? ⟨r, 10, none⟩ = some (.slice none 0 0) := BX.out.cell 10
    cases hsf : sf.isNone with
    | true =>
      rw [hsf] at cb
      have HSF := Lib.hid hsf
      clear hsf
      go_wp2_with fail
      refine bodyPost_ret (v := .tuple #[.agg (pcs zP zL), .int .i64 4]) (by simp [pcs, zP, zL, zeroP, strNil, results, Try.results17, go_sem, x0, x1, x2, x3, x4, x5, x6, x7, x8, x9, x10]) rfl ?_
      have hO2 : O = (zP, 4) := by rw [← HOO.out, if_neg (by rw [HVB.out]; simp)]; rfl
      rw [hO2]
      have HRE := ret_ok2 KE.out hr0 (zin _ 0 0 0) (by simp [blks, zL]) (by simp [blks, zL]) (set_keep WE r zP zL)
      exact ⟨HRE.1, zL, rfl, HRE.2, by simp [blks, zL], by simp [blks, zL]⟩
    | false =>
      rw [hsf] at cb
      have HSF := Lib.hid hsf
      clear hsf
      go_wp2_with fail
      refine bodyPost_ret (v := .tuple #[.agg (pcs zP zL), .int .i64 4]) (by simp [pcs, zP, zL, zeroP, strNil, results, Try.results17, go_sem, x0, x1, x2, x3, x4, x5, x6, x7, x8, x9, x10]) rfl ?_
      have hO2 : O = (zP, 4) := by rw [← HOO.out, if_neg (by rw [HVB.out]; simp)]; rfl
      rw [hO2]
      have HRE := ret_ok2 KE.out hr0 (zin _ 0 0 0) (by simp [blks, zL]) (by simp [blks, zL]) (set_keep WE r zP zL)
      exact ⟨HRE.1, zL, rfl, HRE.2, by simp [blks, zL], by simp [blks, zL]⟩
  | true =>
    have hen : encR pf = (encP pf, 0) := by unfold encR; rw [hvb]; rfl
    have HEN := Lib.hid hen
    have HVB := Lib.hid hvb
    clear hen hvb
    go_wp2_with fail
    refine (Calls.mono (renc_any _ pf ⟨A8, n5, ce8, none, 0, 0⟩ G.out.pin)) ?_
    rw [HEN.out]
    rintro e WE ⟨AE, nE, dE, rfl, hav⟩
    have HS : Hid (Sl WE 5 1 AE nE dE (octs (encP pf))) := Lib.hid hav.1
    have FE := Lib.hid (G.out.other RX_k hav.2.1)
    clear hav c0 c1 c2 c3 c4 c5 c6 c7 c8 c9 c10
    have BX : Hid (Blk WE r TP (pcs zP zL)) := Lib.hid (BR.out.keep FE.out.keep hrl (by simpa using hrg))
    have KE : Hid (Keep w.heap.size [] w WE) := Lib.hid (K0.out.chain1 (Nat.le_refl _) FE.out.keep hg0)
    have cb := FE.out.rd.bad
    have y0 := BX.out.frozen 0
    have x0 : WE.cell? ⟨r, 0, none⟩ = some (.int .i64 0) := BX.out.cell 0
    have y1 := BX.out.frozen 1
    have x1 : WE.cell? ⟨r, 1, none⟩ = some (.int .i64 0) := BX.out.cell 1
    have y2 := BX.out.frozen 2
    have x2 : WE.cell? ⟨r, 2, none⟩ = some (.int .i64 0) := BX.out.cell 2
    have y3 := BX.out.frozen 3
    have x3 : WE.cell? ⟨r, 3, none⟩ = some (.int .i64 0) := BX.out.cell 3
    have y4 := BX.out.frozen 4
    have x4 : WE.cell? ⟨r, 4, none⟩ = some (.string ⟨#[]⟩) := BX.out.cell 4
    have y5 := BX.out.frozen 5
    have x5 : WE.cell? ⟨r, 5, none⟩ = some (.int .i64 0) := BX.out.cell 5
    have y6 := BX.out.frozen 6
    have x6 : WE.cell? ⟨r, 6, none⟩ = some (.int .i64 0) := BX.out.cell 6
    have y7 := BX.out.frozen 7
    have x7 : WE.cell? ⟨r, 7, none⟩ = some (.slice none 0 0) := BX.out.cell 7
    have y8 := BX.out.frozen 8
    have x8 : WE.cell? ⟨r, 8, none⟩ = some (.int .u32 0) := BX.out.cell 8
    have y9 := BX.out.frozen 9
    have x9 : WE.cell? ⟨r, 9, none⟩ = some (.int .i64 0) := BX.out.cell 9
    have y10 := BX.out.frozen 10
    have x10 : WE.cell? ⟨r, 10, none⟩ = some (.slice none 0 0) := BX.out.cell 10
    cases hsf : sf.isNone with
    | true =>
      rw [hsf] at cb
      have HSF := Lib.hid hsf
      clear hsf
      go_wp2_with fail
      refine bodyPost_ret (v := .tuple #[.agg (pcs zP zL), .int .i64 4]) (by simp [pcs, zP, zL, zeroP, strNil, results, Try.results17, go_sem, x0, x1, x2, x3, x4, x5, x6, x7, x8, x9, x10]) rfl ?_
      have hO2 : O = (zP, 4) := by rw [← HOO.out, if_neg (by have h := HSF.out; cases sf; simp; simp at h)]; rfl
      rw [hO2]
      have HRE := ret_ok2 KE.out hr0 (zin _ 0 0 0) (by simp [blks, zL]) (by simp [blks, zL]) (set_keep WE r zP zL)
      exact ⟨HRE.1, zL, rfl, HRE.2, by simp [blks, zL], by simp [blks, zL]⟩
    | false =>
      rw [hsf] at cb
      have HSF : Hid (sf.isSome = true) := Lib.hid (by cases sf; simp at hsf; rfl)
      clear hsf
      have hoe : Oct (encP pf) := encP_oct FE.out.pin HVB.out
      have hc1 := conv_str (P := Try.prog) (w := WE) 24 9 5 Try.underlying24 Try.underlying5 Try.underlying9 AE nE dE (encP pf) (HS.out.vw (by omega))
      have hc2 := conv_str (P := Try.prog) (w := WE) 24 9 5 Try.underlying24 Try.underlying5 Try.underlying9 X m c L (HV.out.keep0 KE.out)
      have hbq := strOf_beq hoe HO.out
      by_cases heq : encP pf = L
      · rw [decide_eq_true heq] at hbq
        have HEQ := Lib.hid heq
        clear heq hoe
        have c0 : WE.cell? ⟨b, 0, none⟩ = some (.int .i64 pf.kind) := (FE.out).box.cell 0
        have c1 : WE.cell? ⟨b, 1, none⟩ = some (.int .i64 pf.src) := (FE.out).box.cell 1
        have c2 : WE.cell? ⟨b, 2, none⟩ = some (.int .i64 pf.num) := (FE.out).box.cell 2
        have c3 : WE.cell? ⟨b, 3, none⟩ = some (.int .i64 pf.cls) := (FE.out).box.cell 3
        have c4 : WE.cell? ⟨b, 4, none⟩ = some (.string (strOfNums pf.name)) := (FE.out).box.cell 4
        have c5 : WE.cell? ⟨b, 5, none⟩ = some (.int .i64 pf.size) := (FE.out).box.cell 5
        have c6 : WE.cell? ⟨b, 6, none⟩ = some (.int .i64 pf.off) := (FE.out).box.cell 6
        have c7 : WE.cell? ⟨b, 7, none⟩ = some (.slice (⟨A8, n5, ce8, none, 0, 0⟩ : Lc).D (⟨A8, n5, ce8, none, 0, 0⟩ : Lc).dn (⟨A8, n5, ce8, none, 0, 0⟩ : Lc).dc) := (FE.out).box.cell 7
        have c8 : WE.cell? ⟨b, 8, none⟩ = some (.int .u32 pf.sum) := (FE.out).box.cell 8
        have c9 : WE.cell? ⟨b, 9, none⟩ = some (.int .i64 pf.code) := (FE.out).box.cell 9
        have c10 : WE.cell? ⟨b, 10, none⟩ = some (.slice (⟨A8, n5, ce8, none, 0, 0⟩ : Lc).G (⟨A8, n5, ce8, none, 0, 0⟩ : Lc).gn (⟨A8, n5, ce8, none, 0, 0⟩ : Lc).gc) := (FE.out).box.cell 10
        go_wp2_with fail
        refine bodyPost_ret (v := .tuple #[.agg (pcs pf ⟨A8, n5, ce8, none, 0, 0⟩), .int .i64 0]) (by simp [pcs, results, Try.results17, go_sem, x0, x1, x2, x3, x4, x5, x6, x7, x8, x9, x10]) rfl ?_
        have hO2 : O = (pf, 0) := by rw [← HOO.out, if_pos (by rw [HSF.out, HVB.out, HEQ.out]; simp)]; rfl
        rw [hO2]
        have HRE := ret_ok2 KE.out hr0 FE.out.pin (fun x hx => by have := (FE.out.hD x hx).1; omega) (fun x hx => by have := (FE.out.hG x hx).1; omega) (set_keep WE r pf ⟨A8, n5, ce8, none, 0, 0⟩)
        exact ⟨HRE.1, ⟨A8, n5, ce8, none, 0, 0⟩, rfl, HRE.2, (fun x hx => by have := (FE.out.hD x hx).1; have := K0.out.size; omega), (fun x hx => by have := (FE.out.hG x hx).1; have := K0.out.size; omega)⟩
      · rw [decide_eq_false heq] at hbq
        have HEQ := Lib.hid heq
        clear heq hoe
        go_wp2_with fail
        refine bodyPost_ret (v := .tuple #[.agg (pcs zP zL), .int .i64 4]) (by simp [pcs, zP, zL, zeroP, strNil, results, Try.results17, go_sem, x0, x1, x2, x3, x4, x5, x6, x7, x8, x9, x10]) rfl ?_
        have hO2 : O = (zP, 4) := by rw [← HOO.out, if_neg (by rw [decide_eq_false HEQ.out]; simp)]; rfl
        rw [hO2]
        have HRE := ret_ok2 KE.out hr0 (zin _ 0 0 0) (by simp [blks, zL]) (by simp [blks, zL]) (set_keep WE r zP zL)
        exact ⟨HRE.1, zL, rfl, HRE.2, by simp [blks, zL], by simp [blks, zL]⟩
set_option maxRecDepth 100000 in
set_option maxHeartbeats 16000000 in
theorem rdec_3 (w : World) (X : Option Addr) (m c : Nat) (L : List Int) (hO : Oct L) (hl : L.length ≤ 100000) (hmc : m ≤ c) (hcm : c ≤ maxLen) (hv : Vw w X m 1 (octs L)) (hk : (stU (some L) 1).1 = 3) : Calls Try.prog 17 #[.slice X m c] w (DecPost w (decR (rdecP L)).1 (decR (rdecP L)).2) := by
  have ok0 : RSok (some L) := by rintro _ ⟨⟩; exact ⟨hO, by omega⟩
  obtain ⟨s0, hs0⟩ : ∃ s, s = some L := ⟨_, rfl⟩
  rw [← hs0] at ok0 hk
  obtain ⟨v1, s1, q1⟩ : ∃ v s, stU s0 1 = (v, s) := ⟨_, _, rfl⟩
  have ok1 : RSok s1 := by have := stU_ok (z := 1) ok0; rw [q1] at this; exact this
  have b1 := stU_bd 1 ok0 q1
  obtain ⟨v2, s2, q2⟩ : ∃ v s, stU s1 1 = (v, s) := ⟨_, _, rfl⟩
  have ok2 : RSok s2 := by have := stU_ok (z := 1) ok1; rw [q2] at this; exact this
  have b2 := stU_bd 1 ok1 q2
  obtain ⟨v3, s3, q3⟩ : ∃ v s, stU s2 2 = (v, s) := ⟨_, _, rfl⟩
  have ok3 : RSok s3 := by have := stU_ok (z := 2) ok2; rw [q3] at this; exact this
  have b3 := stU_bd 2 ok2 q3
  obtain ⟨v4, s4, q4⟩ : ∃ v s, stU s3 1 = (v, s) := ⟨_, _, rfl⟩
  have ok4 : RSok s4 := by have := stU_ok (z := 1) ok3; rw [q4] at this; exact this
  have b4 := stU_bd 1 ok3 q4
  obtain ⟨v5, s5, q5⟩ : ∃ v s, stI s4 = (v, s) := ⟨_, _, rfl⟩
  have ok5 : RSok s5 := by have := stI_ok ok4; rw [q5] at this; exact this
  obtain ⟨v6, s6, q6⟩ : ∃ v s, stU s5 4 = (v, s) := ⟨_, _, rfl⟩
  have ok6 : RSok s6 := by have := stU_ok (z := 4) ok5; rw [q6] at this; exact this
  have b6 := stU_bd 4 ok5 q6
  obtain ⟨v7, s7, q7⟩ : ∃ v s, stU s6 1 = (v, s) := ⟨_, _, rfl⟩
  have ok7 : RSok s7 := by have := stU_ok (z := 1) ok6; rw [q7] at this; exact this
  have b7 := stU_bd 1 ok6 q7
  rw [q1] at hk
  simp only at hk
  subst hk
  obtain ⟨pf, hpf⟩ : ∃ p : Pd, p = { zeroP 3 v2 v3 with cls := v4, size := v5, sum := v6, code := v7 } := ⟨_, rfl⟩
  have hfl : fld s0 = (pf, s7) := by
    rw [hpf]; unfold fld fldH; simp only [q1, q2, q3]; unfold fldB; simp [zeroP, q4, q5, q6, q7]
  rw [hs0] at hfl
  have hR : rdecP L = if (s7).isSome && (validP pf && decide (encP pf = L)) then some pf else none := by unfold rdecP; rw [hfl]
  rw [hR]
  obtain ⟨O, hOO⟩ : ∃ O, decR (if (s7).isSome && (validP pf && decide (encP pf = L)) then some pf else none) = O := ⟨_, rfl⟩
  rw [hOO]
  have HOO := Lib.hid hOO
  clear hfl hR hOO
  have e2 := i64_in v2 (by omega) (by omega)
  have e3 := i64_in v3 (by omega) (by omega)
  have e4 := i64_in v4 (by omega) (by omega)
  have e6 := u32_in v6 (by omega) (by omega)
  have e7 := i64_in v7 (by omega) (by omega)
  have Q1 := Lib.hid q1
  have Q2 := Lib.hid q2
  have Q3 := Lib.hid q3
  have Q4 := Lib.hid q4
  have Q5 := Lib.hid q5
  have Q6 := Lib.hid q6
  have Q7 := Lib.hid q7
  have HPF := Lib.hid hpf
  have HS0 := Lib.hid hs0
  clear hpf hs0 q1 q2 q3 q4 q5 q6 q7 ok0 ok1 ok2 ok3 ok4 ok5 ok6 ok7
  have HV := Lib.hid hv
  have HO := Lib.hid hO
  obtain ⟨W0, hW0⟩ : ∃ W, W = (w.alloc (.cells (pcs zP zL) TP)).alloc (.cells #[.slice X m c, .bool false] 63) := ⟨_, rfl⟩
  obtain ⟨X0, hst⟩ := rstart w X m c L hO hl hmc hcm hv W0 hW0
  have k1 : Keep w.heap.size [] w W0 := by rw [hW0]; exact ((Keep.refl _ _ w).alloc (Nat.le_refl _) _).alloc (by simp) _
  have hbr : Blk W0 w.heap.size TP (pcs zP zL) := by rw [hW0]; exact (Blk.new _ _ _).alloc _
  have hsz : W0.heap.size = w.heap.size + 2 := by rw [hW0]; simp
  obtain ⟨r, hr⟩ : ∃ r, r = w.heap.size := ⟨_, rfl⟩
  obtain ⟨g, hg⟩ : ∃ g, g = r + 1 := ⟨_, rfl⟩
  have hbq : W0.heap.size = g + 1 := by omega
  obtain ⟨b, hb⟩ : ∃ b, b = g + 1 := ⟨_, rfl⟩
  rw [hbq, ← hr, ← hg, ← hb] at hst
  rw [← hr] at hbr
  obtain ⟨W1, hW1⟩ : ∃ W, W = W0.alloc (.cells (pcs (zeroP 0 0 0) zL) TP) := ⟨_, rfl⟩
  rw [← hW1, ← HS0.out] at hst
  have F0 := Lib.hid hst
  have K0 := Lib.hid k1
  have BR := Lib.hid hbr
  have hrl := hbr.lt
  have hr0 : w.heap.size ≤ r := by omega
  have hg0 : w.heap.size ≤ g := by omega
  have hrg : r ≠ g := by omega
  have hrb : r < W0.heap.size := by omega
  clear hst k1 hbr hv hO hsz hbq
  go_enter Try.func17, Try.ntmps17
  go_upto_region 3 with fail
  change Code.wp _ _ _ _ (((w.alloc (.cells (pcs zP zL) TP)).alloc (.cells #[.slice X m c, .bool false] 63)).alloc (.cells (pcs (zeroP 0 0 0) zL) TP))
  rw [← hW0, ← hW1, ← hr, ← hg, ← hb]
  clear hW0 hW1 hr hg hb
  go_wp2_with fail
  refine (fu_x F0.out 1 Q1.out).mono ?_
  rintro e U1 ⟨rfl, Y1, f1⟩
  have R1 := Lib.hid f1
  clear f1
  have z1 := R1.out.box.frozen 0
  have x1 : U1.cell? ⟨b, 0, none⟩ = some (.int .i64 0) := R1.out.box.cell 0
  have S1 := Lib.hid (R1.out.setKind RX_k 3)
  go_wp2_with fail
  refine (fu_x S1.out 1 Q2.out).mono ?_
  rintro e U2 ⟨rfl, Y2, f2⟩
  have R2 := Lib.hid f2
  clear f2
  have z2 := R2.out.box.frozen 1
  have x2 : U2.cell? ⟨b, 1, none⟩ = some (.int .i64 0) := R2.out.box.cell 1
  have S2 := Lib.hid (R2.out.setSrc RX_k v2)
  go_wp2_with fail
  refine (fu_x S2.out 2 Q3.out).mono ?_
  rintro e U3 ⟨rfl, Y3, f3⟩
  have R3 := Lib.hid f3
  clear f3
  have z3 := R3.out.box.frozen 2
  have x3 : U3.cell? ⟨b, 2, none⟩ = some (.int .i64 0) := R3.out.box.cell 2
  have S3 := Lib.hid (R3.out.setNum RX_k v3)
  go_upto_region 6 with fail
  have F3 : Hid (FW RX W0 (U3.setCell ⟨b, 2, none⟩ (.int .i64 v3)) g b Y3 s3 (zeroP 3 v2 v3) zL) := Lib.hid S3.out
  obtain ⟨W5, hW5⟩ : ∃ W, W = U3.setCell ⟨b, 2, none⟩ (.int .i64 v3) := ⟨_, rfl⟩
  rw [← hW5] at F3 ⊢
  clear hW5 z1 z2 z3 x1 x2 x3 S1 S2 S3 R1 R2 R3 F0
  have c0 : W5.cell? ⟨b, 0, none⟩ = some (.int .i64 3) := F3.out.box.cell 0
  go_wp2_with fail
  refine (fu_x F3.out 1 Q4.out).mono ?_
  rintro e U4 ⟨rfl, Y4, f4⟩
  have R4 := Lib.hid f4
  clear f4
  have z4 := R4.out.box.frozen 3
  have x4 : U4.cell? ⟨b, 3, none⟩ = some (.int .i64 0) := R4.out.box.cell 3
  clear c0
  have S4 := Lib.hid (R4.out.setCls RX_k v4)
  go_wp2_with fail
  refine (fi_x S4.out Q5.out).mono ?_
  rintro e U5 ⟨rfl, Y5, f5⟩
  have R5 := Lib.hid f5
  clear f5
  have z5 := R5.out.box.frozen 5
  have x5 : U5.cell? ⟨b, 5, none⟩ = some (.int .i64 0) := R5.out.box.cell 5
  have S5 := Lib.hid (R5.out.setSize RX_k v5)
  go_wp2_with fail
  refine (fu_x S5.out 4 Q6.out).mono ?_
  rintro e U6 ⟨rfl, Y6, f6⟩
  have R6 := Lib.hid f6
  clear f6
  have z6 := R6.out.box.frozen 8
  have x6 : U6.cell? ⟨b, 8, none⟩ = some (.int .u32 0) := R6.out.box.cell 8
  have S6 := Lib.hid (R6.out.setSum RX_k v6 (by omega))
  go_wp2_with fail
  refine (fu_x S6.out 1 Q7.out).mono ?_
  rintro e U7 ⟨rfl, Y7, f7⟩
  have R7 := Lib.hid f7
  clear f7
  have z7 := R7.out.box.frozen 9
  have x7 : U7.cell? ⟨b, 9, none⟩ = some (.int .i64 0) := R7.out.box.cell 9
  have S7 := Lib.hid (R7.out.setCode RX_k v7)
  have G : Hid (FW RX W0 (U7.setCell ⟨b, 9, none⟩ (.int .i64 v7)) g b Y7 s7 pf zL) := Lib.hid (by rw [HPF.out]; exact S7.out)
  go_upto_region 28 with fail
  obtain ⟨WF, hWF⟩ : ∃ W, W = (U7.setCell ⟨b, 9, none⟩ (.int .i64 v7)) := ⟨_, rfl⟩
  rw [← hWF] at G ⊢
  clear hWF
  clear z4 x4 z5 x5 z6 x6 z7 x7
  obtain ⟨sf, hsf⟩ : ∃ s, s = s7 := ⟨_, rfl⟩
  rw [← hsf] at G HOO
  clear hsf
  have c0 : WF.cell? ⟨b, 0, none⟩ = some (.int .i64 pf.kind) := (G.out).box.cell 0
  have c1 : WF.cell? ⟨b, 1, none⟩ = some (.int .i64 pf.src) := (G.out).box.cell 1
  have c2 : WF.cell? ⟨b, 2, none⟩ = some (.int .i64 pf.num) := (G.out).box.cell 2
  have c3 : WF.cell? ⟨b, 3, none⟩ = some (.int .i64 pf.cls) := (G.out).box.cell 3
  have c4 : WF.cell? ⟨b, 4, none⟩ = some (.string (strOfNums pf.name)) := (G.out).box.cell 4
  have c5 : WF.cell? ⟨b, 5, none⟩ = some (.int .i64 pf.size) := (G.out).box.cell 5
  have c6 : WF.cell? ⟨b, 6, none⟩ = some (.int .i64 pf.off) := (G.out).box.cell 6
  have c7 : WF.cell? ⟨b, 7, none⟩ = some (.slice (zL : Lc).D (zL : Lc).dn (zL : Lc).dc) := (G.out).box.cell 7
  have c8 : WF.cell? ⟨b, 8, none⟩ = some (.int .u32 pf.sum) := (G.out).box.cell 8
  have c9 : WF.cell? ⟨b, 9, none⟩ = some (.int .i64 pf.code) := (G.out).box.cell 9
  have c10 : WF.cell? ⟨b, 10, none⟩ = some (.slice (zL : Lc).G (zL : Lc).gn (zL : Lc).gc) := (G.out).box.cell 10
  cases hvb : validP pf with
  | false =>
    have hen : encR pf = ([], 1) := by unfold encR; rw [hvb]; rfl
    have HEN := Lib.hid hen
    have HVB := Lib.hid hvb
    clear hen hvb
    go_wp2_with fail
    refine (Calls.mono (renc_any _ pf zL G.out.pin)) ?_
    rw [HEN.out]
    rintro e WE ⟨AE, nE, dE, rfl, hav⟩
    have HS : Hid (Sl WE 5 1 AE nE dE (octs [])) := Lib.hid hav.1
    have FE := Lib.hid (G.out.other RX_k hav.2.1)
    clear hav c0 c1 c2 c3 c4 c5 c6 c7 c8 c9 c10
    have BX : Hid (Blk WE r TP (pcs zP zL)) := Lib.hid (BR.out.keep FE.out.keep hrl (by simpa using hrg))
    have KE : Hid (Keep w.heap.size [] w WE) := Lib.hid (K0.out.chain1 (Nat.le_refl _) FE.out.keep hg0)
    have cb := FE.out.rd.bad
    have y0 := BX.out.frozen 0
    have x0 : WE.cell? ⟨r, 0, none⟩ = some (.int .i64 0) := BX.out.cell 0
    have y1 := BX.out.frozen 1
    have x1 : WE.cell? ⟨r, 1, none⟩ = some (.int .i64 0) := BX.out.cell 1
    have y2 := BX.out.frozen 2
    have x2 : WE.cell? ⟨r, 2, none⟩ = some (.int .i64 0) := BX.out.cell 2
    have y3 := BX.out.frozen 3
    have x3 : WE.cell? ⟨r, 3, none⟩ = some (.int .i64 0) := BX.out.cell 3
    have y4 := BX.out.frozen 4
    have x4 : WE.cell? ⟨r, 4, none⟩ = some (.string ⟨#[]⟩) := BX.out.cell 4
    have y5 := BX.out.frozen 5
    have x5 : WE.cell? ⟨r, 5, none⟩ = some (.int .i64 0) := BX.out.cell 5
    have y6 := BX.out.frozen 6
    have x6 : WE.cell? ⟨r, 6, none⟩ = some (.int .i64 0) := BX.out.cell 6
    have y7 := BX.out.frozen 7
    have x7 : WE.cell? ⟨r, 7, none⟩ = some (.slice none 0 0) := BX.out.cell 7
    have y8 := BX.out.frozen 8
    have x8 : WE.cell? ⟨r, 8, none⟩ = some (.int .u32 0) := BX.out.cell 8
    have y9 := BX.out.frozen 9
    have x9 : WE.cell? ⟨r, 9, none⟩ = some (.int .i64 0) := BX.out.cell 9
    have y10 := BX.out.frozen 10
    have x10 : WE.cell? ⟨r, 10, none⟩ = some (.slice none 0 0) := BX.out.cell 10
    cases hsf : sf.isNone with
    | true =>
      rw [hsf] at cb
      have HSF := Lib.hid hsf
      clear hsf
      go_wp2_with fail
      refine bodyPost_ret (v := .tuple #[.agg (pcs zP zL), .int .i64 4]) (by simp [pcs, zP, zL, zeroP, strNil, results, Try.results17, go_sem, x0, x1, x2, x3, x4, x5, x6, x7, x8, x9, x10]) rfl ?_
      have hO2 : O = (zP, 4) := by rw [← HOO.out, if_neg (by rw [HVB.out]; simp)]; rfl
      rw [hO2]
      have HRE := ret_ok2 KE.out hr0 (zin _ 0 0 0) (by simp [blks, zL]) (by simp [blks, zL]) (set_keep WE r zP zL)
      exact ⟨HRE.1, zL, rfl, HRE.2, by simp [blks, zL], by simp [blks, zL]⟩
    | false =>
      rw [hsf] at cb
      have HSF := Lib.hid hsf
      clear hsf
      go_wp2_with fail
      refine bodyPost_ret (v := .tuple #[.agg (pcs zP zL), .int .i64 4]) (by simp [pcs, zP, zL, zeroP, strNil, results, Try.results17, go_sem, x0, x1, x2, x3, x4, x5, x6, x7, x8, x9, x10]) rfl ?_
      have hO2 : O = (zP, 4) := by rw [← HOO.out, if_neg (by rw [HVB.out]; simp)]; rfl
      rw [hO2]
      have HRE := ret_ok2 KE.out hr0 (zin _ 0 0 0) (by simp [blks, zL]) (by simp [blks, zL]) (set_keep WE r zP zL)
      exact ⟨HRE.1, zL, rfl, HRE.2, by simp [blks, zL], by simp [blks, zL]⟩
  | true =>
    have hen : encR pf = (encP pf, 0) := by unfold encR; rw [hvb]; rfl
    have HEN := Lib.hid hen
    have HVB := Lib.hid hvb
    clear hen hvb
    go_wp2_with fail
    refine (Calls.mono (renc_any _ pf zL G.out.pin)) ?_
    rw [HEN.out]
    rintro e WE ⟨AE, nE, dE, rfl, hav⟩
    have HS : Hid (Sl WE 5 1 AE nE dE (octs (encP pf))) := Lib.hid hav.1
    have FE := Lib.hid (G.out.other RX_k hav.2.1)
    clear hav c0 c1 c2 c3 c4 c5 c6 c7 c8 c9 c10
    have BX : Hid (Blk WE r TP (pcs zP zL)) := Lib.hid (BR.out.keep FE.out.keep hrl (by simpa using hrg))
    have KE : Hid (Keep w.heap.size [] w WE) := Lib.hid (K0.out.chain1 (Nat.le_refl _) FE.out.keep hg0)
    have cb := FE.out.rd.bad
    have y0 := BX.out.frozen 0
    have x0 : WE.cell? ⟨r, 0, none⟩ = some (.int .i64 0) := BX.out.cell 0
    have y1 := BX.out.frozen 1
    have x1 : WE.cell? ⟨r, 1, none⟩ = some (.int .i64 0) := BX.out.cell 1
    have y2 := BX.out.frozen 2
    have x2 : WE.cell? ⟨r, 2, none⟩ = some (.int .i64 0) := BX.out.cell 2
    have y3 := BX.out.frozen 3
    have x3 : WE.cell? ⟨r, 3, none⟩ = some (.int .i64 0) := BX.out.cell 3
    have y4 := BX.out.frozen 4
    have x4 : WE.cell? ⟨r, 4, none⟩ = some (.string ⟨#[]⟩) := BX.out.cell 4
    have y5 := BX.out.frozen 5
    have x5 : WE.cell? ⟨r, 5, none⟩ = some (.int .i64 0) := BX.out.cell 5
    have y6 := BX.out.frozen 6
    have x6 : WE.cell? ⟨r, 6, none⟩ = some (.int .i64 0) := BX.out.cell 6
    have y7 := BX.out.frozen 7
    have x7 : WE.cell? ⟨r, 7, none⟩ = some (.slice none 0 0) := BX.out.cell 7
    have y8 := BX.out.frozen 8
    have x8 : WE.cell? ⟨r, 8, none⟩ = some (.int .u32 0) := BX.out.cell 8
    have y9 := BX.out.frozen 9
    have x9 : WE.cell? ⟨r, 9, none⟩ = some (.int .i64 0) := BX.out.cell 9
    have y10 := BX.out.frozen 10
    have x10 : WE.cell? ⟨r, 10, none⟩ = some (.slice none 0 0) := BX.out.cell 10
    cases hsf : sf.isNone with
    | true =>
      rw [hsf] at cb
      have HSF := Lib.hid hsf
      clear hsf
      go_wp2_with fail
      refine bodyPost_ret (v := .tuple #[.agg (pcs zP zL), .int .i64 4]) (by simp [pcs, zP, zL, zeroP, strNil, results, Try.results17, go_sem, x0, x1, x2, x3, x4, x5, x6, x7, x8, x9, x10]) rfl ?_
      have hO2 : O = (zP, 4) := by rw [← HOO.out, if_neg (by have h := HSF.out; cases sf; simp; simp at h)]; rfl
      rw [hO2]
      have HRE := ret_ok2 KE.out hr0 (zin _ 0 0 0) (by simp [blks, zL]) (by simp [blks, zL]) (set_keep WE r zP zL)
      exact ⟨HRE.1, zL, rfl, HRE.2, by simp [blks, zL], by simp [blks, zL]⟩
    | false =>
      rw [hsf] at cb
      have HSF : Hid (sf.isSome = true) := Lib.hid (by cases sf; simp at hsf; rfl)
      clear hsf
      have hoe : Oct (encP pf) := encP_oct FE.out.pin HVB.out
      have hc1 := conv_str (P := Try.prog) (w := WE) 24 9 5 Try.underlying24 Try.underlying5 Try.underlying9 AE nE dE (encP pf) (HS.out.vw (by omega))
      have hc2 := conv_str (P := Try.prog) (w := WE) 24 9 5 Try.underlying24 Try.underlying5 Try.underlying9 X m c L (HV.out.keep0 KE.out)
      have hbq := strOf_beq hoe HO.out
      by_cases heq : encP pf = L
      · rw [decide_eq_true heq] at hbq
        have HEQ := Lib.hid heq
        clear heq hoe
        have c0 : WE.cell? ⟨b, 0, none⟩ = some (.int .i64 pf.kind) := (FE.out).box.cell 0
        have c1 : WE.cell? ⟨b, 1, none⟩ = some (.int .i64 pf.src) := (FE.out).box.cell 1
        have c2 : WE.cell? ⟨b, 2, none⟩ = some (.int .i64 pf.num) := (FE.out).box.cell 2
        have c3 : WE.cell? ⟨b, 3, none⟩ = some (.int .i64 pf.cls) := (FE.out).box.cell 3
        have c4 : WE.cell? ⟨b, 4, none⟩ = some (.string (strOfNums pf.name)) := (FE.out).box.cell 4
        have c5 : WE.cell? ⟨b, 5, none⟩ = some (.int .i64 pf.size) := (FE.out).box.cell 5
        have c6 : WE.cell? ⟨b, 6, none⟩ = some (.int .i64 pf.off) := (FE.out).box.cell 6
        have c7 : WE.cell? ⟨b, 7, none⟩ = some (.slice (zL : Lc).D (zL : Lc).dn (zL : Lc).dc) := (FE.out).box.cell 7
        have c8 : WE.cell? ⟨b, 8, none⟩ = some (.int .u32 pf.sum) := (FE.out).box.cell 8
        have c9 : WE.cell? ⟨b, 9, none⟩ = some (.int .i64 pf.code) := (FE.out).box.cell 9
        have c10 : WE.cell? ⟨b, 10, none⟩ = some (.slice (zL : Lc).G (zL : Lc).gn (zL : Lc).gc) := (FE.out).box.cell 10
        go_wp2_with fail
        refine bodyPost_ret (v := .tuple #[.agg (pcs pf zL), .int .i64 0]) (by simp [pcs, results, Try.results17, go_sem, x0, x1, x2, x3, x4, x5, x6, x7, x8, x9, x10]) rfl ?_
        have hO2 : O = (pf, 0) := by rw [← HOO.out, if_pos (by rw [HSF.out, HVB.out, HEQ.out]; simp)]; rfl
        rw [hO2]
        have HRE := ret_ok2 KE.out hr0 FE.out.pin (fun x hx => by have := (FE.out.hD x hx).1; omega) (fun x hx => by have := (FE.out.hG x hx).1; omega) (set_keep WE r pf zL)
        exact ⟨HRE.1, zL, rfl, HRE.2, (fun x hx => by have := (FE.out.hD x hx).1; have := K0.out.size; omega), (fun x hx => by have := (FE.out.hG x hx).1; have := K0.out.size; omega)⟩
      · rw [decide_eq_false heq] at hbq
        have HEQ := Lib.hid heq
        clear heq hoe
        go_wp2_with fail
        refine bodyPost_ret (v := .tuple #[.agg (pcs zP zL), .int .i64 4]) (by simp [pcs, zP, zL, zeroP, strNil, results, Try.results17, go_sem, x0, x1, x2, x3, x4, x5, x6, x7, x8, x9, x10]) rfl ?_
        have hO2 : O = (zP, 4) := by rw [← HOO.out, if_neg (by rw [decide_eq_false HEQ.out]; simp)]; rfl
        rw [hO2]
        have HRE := ret_ok2 KE.out hr0 (zin _ 0 0 0) (by simp [blks, zL]) (by simp [blks, zL]) (set_keep WE r zP zL)
        exact ⟨HRE.1, zL, rfl, HRE.2, by simp [blks, zL], by simp [blks, zL]⟩
set_option maxRecDepth 100000 in
set_option maxHeartbeats 16000000 in
theorem rdec_4 (w : World) (X : Option Addr) (m c : Nat) (L : List Int) (hO : Oct L) (hl : L.length ≤ 100000) (hmc : m ≤ c) (hcm : c ≤ maxLen) (hv : Vw w X m 1 (octs L)) (hk : (stU (some L) 1).1 = 4) : Calls Try.prog 17 #[.slice X m c] w (DecPost w (decR (rdecP L)).1 (decR (rdecP L)).2) := by
  have ok0 : RSok (some L) := by rintro _ ⟨⟩; exact ⟨hO, by omega⟩
  obtain ⟨s0, hs0⟩ : ∃ s, s = some L := ⟨_, rfl⟩
  rw [← hs0] at ok0 hk
  obtain ⟨v1, s1, q1⟩ : ∃ v s, stU s0 1 = (v, s) := ⟨_, _, rfl⟩
  have ok1 : RSok s1 := by have := stU_ok (z := 1) ok0; rw [q1] at this; exact this
  have b1 := stU_bd 1 ok0 q1
  obtain ⟨v2, s2, q2⟩ : ∃ v s, stU s1 1 = (v, s) := ⟨_, _, rfl⟩
  have ok2 : RSok s2 := by have := stU_ok (z := 1) ok1; rw [q2] at this; exact this
  have b2 := stU_bd 1 ok1 q2
  obtain ⟨v3, s3, q3⟩ : ∃ v s, stU s2 2 = (v, s) := ⟨_, _, rfl⟩
  have ok3 : RSok s3 := by have := stU_ok (z := 2) ok2; rw [q3] at this; exact this
  have b3 := stU_bd 2 ok2 q3
  rw [q1] at hk
  simp only at hk
  subst hk
  obtain ⟨v4, s4, q4⟩ : ∃ v s, stC s3 16 = (v, s) := ⟨_, _, rfl⟩
  have ok4 : RSok s4 := by have := stC_ok (z := 16) ok3; rw [q4] at this; exact this
  have b4 := stC_bd ok3 (by omega) q4
  obtain ⟨NG, rfl⟩ := Int.eq_ofNat_of_zero_le b4.1
  obtain ⟨pf, hpf⟩ : ∃ p : Pd, p = { zeroP 4 v2 v3 with gaps := (gapsRd NG s4).1 } := ⟨_, rfl⟩
  have hfl : fld s0 = (pf, (gapsRd NG s4).2) := by
    rw [hpf]; unfold fld fldH; simp only [q1, q2, q3]; unfold fldB; simp [zeroP, q4]
  rw [hs0] at hfl
  have hR : rdecP L = if ((gapsRd NG s4).2).isSome && (validP pf && decide (encP pf = L)) then some pf else none := by unfold rdecP; rw [hfl]
  rw [hR]
  obtain ⟨O, hOO⟩ : ∃ O, decR (if ((gapsRd NG s4).2).isSome && (validP pf && decide (encP pf = L)) then some pf else none) = O := ⟨_, rfl⟩
  rw [hOO]
  have HOO := Lib.hid hOO
  clear hfl hR hOO
  have e2 := i64_in v2 (by omega) (by omega)
  have e3 := i64_in v3 (by omega) (by omega)
  have Q1 := Lib.hid q1
  have Q2 := Lib.hid q2
  have Q3 := Lib.hid q3
  have Q4 := Lib.hid q4
  have HPF := Lib.hid hpf
  have HS0 := Lib.hid hs0
  clear hpf hs0 q1 q2 q3 q4 ok0 ok1 ok2 ok3 ok4
  have HV := Lib.hid hv
  have HO := Lib.hid hO
  obtain ⟨W0, hW0⟩ : ∃ W, W = (w.alloc (.cells (pcs zP zL) TP)).alloc (.cells #[.slice X m c, .bool false] 63) := ⟨_, rfl⟩
  obtain ⟨X0, hst⟩ := rstart w X m c L hO hl hmc hcm hv W0 hW0
  have k1 : Keep w.heap.size [] w W0 := by rw [hW0]; exact ((Keep.refl _ _ w).alloc (Nat.le_refl _) _).alloc (by simp) _
  have hbr : Blk W0 w.heap.size TP (pcs zP zL) := by rw [hW0]; exact (Blk.new _ _ _).alloc _
  have hsz : W0.heap.size = w.heap.size + 2 := by rw [hW0]; simp
  obtain ⟨r, hr⟩ : ∃ r, r = w.heap.size := ⟨_, rfl⟩
  obtain ⟨g, hg⟩ : ∃ g, g = r + 1 := ⟨_, rfl⟩
  have hbq : W0.heap.size = g + 1 := by omega
  obtain ⟨b, hb⟩ : ∃ b, b = g + 1 := ⟨_, rfl⟩
  rw [hbq, ← hr, ← hg, ← hb] at hst
  rw [← hr] at hbr
  obtain ⟨W1, hW1⟩ : ∃ W, W = W0.alloc (.cells (pcs (zeroP 0 0 0) zL) TP) := ⟨_, rfl⟩
  rw [← hW1, ← HS0.out] at hst
  have F0 := Lib.hid hst
  have K0 := Lib.hid k1
  have BR := Lib.hid hbr
  have hrl := hbr.lt
  have hr0 : w.heap.size ≤ r := by omega
  have hg0 : w.heap.size ≤ g := by omega
  have hrg : r ≠ g := by omega
  have hrb : r < W0.heap.size := by omega
  clear hst k1 hbr hv hO hsz hbq
  go_enter Try.func17, Try.ntmps17
  go_upto_region 3 with fail
  change Code.wp _ _ _ _ (((w.alloc (.cells (pcs zP zL) TP)).alloc (.cells #[.slice X m c, .bool false] 63)).alloc (.cells (pcs (zeroP 0 0 0) zL) TP))
  rw [← hW0, ← hW1, ← hr, ← hg, ← hb]
  clear hW0 hW1 hr hg hb
  go_wp2_with fail
  refine (fu_x F0.out 1 Q1.out).mono ?_
  rintro e U1 ⟨rfl, Y1, f1⟩
  have R1 := Lib.hid f1
  clear f1
  have z1 := R1.out.box.frozen 0
  have x1 : U1.cell? ⟨b, 0, none⟩ = some (.int .i64 0) := R1.out.box.cell 0
  have S1 := Lib.hid (R1.out.setKind RX_k 4)
  go_wp2_with fail
  refine (fu_x S1.out 1 Q2.out).mono ?_
  rintro e U2 ⟨rfl, Y2, f2⟩
  have R2 := Lib.hid f2
  clear f2
  have z2 := R2.out.box.frozen 1
  have x2 : U2.cell? ⟨b, 1, none⟩ = some (.int .i64 0) := R2.out.box.cell 1
  have S2 := Lib.hid (R2.out.setSrc RX_k v2)
  go_wp2_with fail
  refine (fu_x S2.out 2 Q3.out).mono ?_
  rintro e U3 ⟨rfl, Y3, f3⟩
  have R3 := Lib.hid f3
  clear f3
  have z3 := R3.out.box.frozen 2
  have x3 : U3.cell? ⟨b, 2, none⟩ = some (.int .i64 0) := R3.out.box.cell 2
  have S3 := Lib.hid (R3.out.setNum RX_k v3)
  go_upto_region 6 with fail
  have F3 : Hid (FW RX W0 (U3.setCell ⟨b, 2, none⟩ (.int .i64 v3)) g b Y3 s3 (zeroP 4 v2 v3) zL) := Lib.hid S3.out
  obtain ⟨W5, hW5⟩ : ∃ W, W = U3.setCell ⟨b, 2, none⟩ (.int .i64 v3) := ⟨_, rfl⟩
  rw [← hW5] at F3 ⊢
  clear hW5 z1 z2 z3 x1 x2 x3 S1 S2 S3 R1 R2 R3 F0
  have c0 : W5.cell? ⟨b, 0, none⟩ = some (.int .i64 4) := F3.out.box.cell 0
  go_wp2_with fail
  refine (fc_x F3.out 16 Q4.out).mono ?_
  rintro e U4 ⟨rfl, Y4, f4⟩
  have R4 := Lib.hid f4
  clear f4 c0
  obtain ⟨i0, hi0, hz0, hz1, hz2⟩ := info_parts infoRg
  go_wp2_with fail
  go_loopw [7] (fun j wr => ∃ (k : Nat) (Y A : Option Addr) (n d : Nat), k ≤ NG ∧ j = .int .i64 k ∧ n ≤ k ∧ FW RX W0 wr g b Y (gapsRd k s4).2 { zeroP 4 v2 v3 with gaps := (gapsRd k s4).1 } ⟨none, 0, 0, A, n, d⟩ ∧ Sl wr 41 2 A n d ((gapsRd k s4).1.flatMap gcells)) (fun j _ => NG - (intOf j).toNat)
  case atStart => exact ⟨0, _, none, 0, 0, Nat.zero_le _, rfl, Nat.le_refl _, R4.out, Sl.nil _ _ _⟩
  case round =>
    obtain ⟨k, Y, A, n, d, hk, rfl, hnk, hfw, hsl⟩ := hrel
    have FL := Lib.hid hfw
    have SL := Lib.hid hsl
    clear hfw hsl
    by_cases hlt : k < NG
    · have hkx : (k : Int) < (NG : Int) := by omega
      obtain ⟨f, t1, qf⟩ : ∃ f t, stI (gapsRd k s4).2 = (f, t) := ⟨_, _, rfl⟩
      obtain ⟨t, t2, qt⟩ : ∃ f t, stI t1 = (f, t) := ⟨_, _, rfl⟩
      have hsn : gapsRd (k + 1) s4 = ((gapsRd k s4).1 ++ [⟨f, t⟩], t2) := by rw [gapsRd_snoc, qf]; simp only [qt]
      have HSN := Lib.hid hsn
      have QF := Lib.hid qf
      have QT := Lib.hid qt
      clear hsn qf qt
      go_wp2_with fail
      refine (gi_x FL.out SL.out QF.out).mono ?_
      rintro e U5 ⟨rfl, Y5, f5, g5⟩
      have FA := Lib.hid (f5.other RX_k (Keep.refl _ _ _).drew)
      have SA := Lib.hid g5.drew
      have c10 : U5.cell? ⟨b, 10, none⟩ = some (.slice A n d) := f5.box.cell 10
      clear f5 g5
      go_wp2_with fail
      refine region_anyZ 8 (S := (fun w' => w'.cell? ⟨b, 10, none⟩ = some (.slice A n d))) (by kernel_rfl) (by exact FA.out.box.cell 10) (fun hHeld => ?_)
      refine anyZ.take (i := 0) (oi := { dst := some 67, op := Op.fieldAddr 29 (Operand.tmp 5) 9, type := 0, pos := _, after := #[], guard := none }) (v := _) rfl (by kernel_rfl) (by kernel_rfl) (by kernel_rfl) (by kernel_rfl) (by kernel_rfl) (fun _ _ _ h => h) (Or.inl ⟨by rfl, by (intro wS hSw; (try dsimp only at hSw); go_simp; try with_reducible rfl)⟩) (by exact hHeld) ?_
      (try simp only [Act.put, List.setIfInBounds_toArray, List.set_cons_zero, List.set_cons_succ])
      refine anyZ.take (i := 1) (oi := { dst := some 68, op := Op.load 27 (Operand.tmp 67), type := 27, pos := _, after := #[{ on := 0, ground := Ground.data }], guard := none }) (v := _) rfl (by kernel_rfl) (by kernel_rfl) (by kernel_rfl) (by kernel_rfl) (by kernel_rfl) (fun _ _ _ h => h) (Or.inl ⟨by rfl, by (intro wS hSw; (try dsimp only at hSw); go_simp; try with_reducible rfl)⟩) (by exact hHeld) ?_
      (try simp only [Act.put, List.setIfInBounds_toArray, List.set_cons_zero, List.set_cons_succ])
      refine anyZ.take (i := 2) (oi := { dst := some 69, op := Op.move (Operand.tmp 8), type := 3, pos := _, after := #[], guard := none }) (v := _) rfl (by kernel_rfl) (by kernel_rfl) (by kernel_rfl) (by kernel_rfl) (by kernel_rfl) (fun _ _ _ h => h) (Or.inl ⟨by rfl, by (intro wS hSw; (try dsimp only at hSw); go_simp; try with_reducible rfl)⟩) (by exact hHeld) ?_
      (try simp only [Act.put, List.setIfInBounds_toArray, List.set_cons_zero, List.set_cons_succ])
      refine anyZ.ready (rs := [3]) (by kernel_rfl) (by simp) ?_
      refine (AllZ.cons (o := { dst := some 70, op := Op.call { callee := Callee.value (Operand.func 40), args := #[Operand.tmp 4], argTypes := #[63] }, type := 3, pos := _, after := #[], guard := none }) rfl (fun K hK => ?_) AllZ.nil)
      go_simp
      refine (gi_x FA.out SA.out QT.out).mono ?_
      rintro e U6 ⟨rfl, Y6, f6, g6⟩
      have FB := Lib.hid f6
      have SB := Lib.hid g6
      clear f6 g6
      refine hK.out _ _ (fun _ => (by exact FB.out.box.cell 10)) (fun hHeld => ?_)
      clear hK K
      replace hHeld := hHeld (by kernel_rfl)
      (try simp only [Act.put, List.setIfInBounds_toArray, List.set_cons_zero, List.set_cons_succ])
      refine anyZ.take (i := 4) (oi := { dst := some 71, op := Op.build 41 #[(0, Operand.tmp 69), (1, Operand.tmp 70)], type := 41, pos := _, after := #[{ on := 2, ground := Ground.data }, { on := 3, ground := Ground.data }], guard := none }) (v := _) rfl (by kernel_rfl) (by kernel_rfl) (by kernel_rfl) (by kernel_rfl) (by kernel_rfl) (fun _ _ _ h => h) (Or.inl ⟨by rfl, by (intro wS hSw; (try dsimp only at hSw); go_simp; try with_reducible rfl)⟩) (by exact hHeld) ?_
      (try simp only [Act.put, List.setIfInBounds_toArray, List.set_cons_zero, List.set_cons_succ])
      refine anyZ.ready (rs := [5]) (by kernel_rfl) (by simp) ?_
      refine (AllZ.cons (o := { dst := some 72, op := Op.buildSlice 27 1 #[(0, Operand.tmp 71)], type := 27, pos := _, after := #[{ on := 4, ground := Ground.data }], guard := none }) rfl (fun K hK => ?_) AllZ.nil)
      go_simp
      obtain ⟨V7, hV7⟩ : ∃ V, V = U6.alloc (.cells #[.int .i64 f, .int .i64 t] 41) := ⟨_, rfl⟩
      have kv : Keep U6.heap.size [] U6 V7 := by rw [hV7]; exact (Keep.refl _ _ _).alloc (Nat.le_refl _) _
      have FC := Lib.hid (FB.out.other RX_k kv)
      have SC := Lib.hid (SB.out.keep0 kv)
      have BC : Hid (Blk V7 U6.heap.size 41 #[.int .i64 f, .int .i64 t]) := Lib.hid (by rw [hV7]; exact Blk.new _ _ _)
      rw [← hV7]
      clear hV7 kv
      refine hK.out _ _ (fun _ => (by exact FC.out.box.cell 10)) (fun hHeld => ?_)
      clear hK K
      replace hHeld := hHeld (by kernel_rfl)
      (try simp only [Act.put, List.setIfInBounds_toArray, List.set_cons_zero, List.set_cons_succ])
      refine anyZ.ready (rs := [6]) (by kernel_rfl) (by simp) ?_
      refine (AllZ.cons (o := { dst := some 73, op := Op.call { callee := Callee.builtin Builtin.append, args := #[Operand.tmp 68, Operand.tmp 72], argTypes := #[27, 27] }, type := 27, pos := _, after := #[{ on := 1, ground := Ground.data }, { on := 5, ground := Ground.data }, { on := 3, ground := Ground.chain }], guard := none }) rfl (fun K hK => ?_) AllZ.nil)
      refine step_app1 _ (by rfl) (.tmp 68) (.tmp 72) 27 (by rfl) 41 i0 _ 2 16 Try.underlying27 hi0 hz0 hz1 hz2 rfl (by omega) A n d ((gapsRd k s4).1.flatMap gcells) (by rfl) (by exact SC.out) _ _ _ (by rfl) (by exact BC.out) rfl rfl (by omega) (by omega) ?_
      intro A8 c8 w8 hs8 hk8 hb8
      have GA := Lib.hid (FC.out.gapAdd (y := ⟨f, t⟩) RX_k (by omega) hs8 hk8 hb8)
      have hbx := FC.out.box.keepS hk8 (fun hm => (FC.out.hG b hm).2 rfl)
      have z10 := hbx.frozen 10
      have x10 : w8.cell? ⟨b, 10, none⟩ = some (.slice A n d) := hbx.cell 10
      have HBX := Lib.hid hbx
      clear hs8 hk8 hb8 hbx
      refine hK.out _ _ (fun _ => (by exact HBX.out.cell 10)) (fun hHeld => ?_)
      clear hK K
      replace hHeld := hHeld (by kernel_rfl)
      (try simp only [Act.put, List.setIfInBounds_toArray, List.set_cons_zero, List.set_cons_succ])
      refine anyZ.take (i := 7) (oi := { dst := some 74, op := Op.fieldAddr 29 (Operand.tmp 5) 9, type := 0, pos := _, after := #[{ on := 0, ground := Ground.phase }, { on := 1, ground := Ground.phase }, { on := 2, ground := Ground.phase }, { on := 3, ground := Ground.phase }, { on := 4, ground := Ground.phase }, { on := 5, ground := Ground.phase }, { on := 6, ground := Ground.phase }], guard := none }) (v := _) rfl (by kernel_rfl) (by kernel_rfl) (by kernel_rfl) (by kernel_rfl) (by kernel_rfl) (fun _ _ _ h => h) (Or.inl ⟨by rfl, by (intro wS hSw; (try dsimp only at hSw); go_simp; try with_reducible rfl)⟩) (by exact hHeld) ?_
      (try simp only [Act.put, List.setIfInBounds_toArray, List.set_cons_zero, List.set_cons_succ])
      refine anyZ.ready (rs := [8]) (by kernel_rfl) (by simp) ?_
      refine (AllZ.cons (o := { dst := none, op := Op.store 27 (Operand.tmp 74) (Operand.tmp 73), type := 0, pos := _, after := #[{ on := 7, ground := Ground.data }, { on := 6, ground := Ground.data }, { on := 6, ground := Ground.chain }, { on := 0, ground := Ground.phase }, { on := 1, ground := Ground.phase }, { on := 2, ground := Ground.phase }, { on := 3, ground := Ground.phase }, { on := 4, ground := Ground.phase }, { on := 5, ground := Ground.phase }, { on := 6, ground := Ground.phase }], guard := none }) rfl (fun K hK => ?_) AllZ.nil)
      go_simp
      refine hK.out _ _ (fun h => absurd h (by decide)) (fun hHeld => ?_)
      clear hK K
      (try simp only [Act.put, List.setIfInBounds_toArray, List.set_cons_zero, List.set_cons_succ])
      refine anyZ.done (by kernel_rfl) ?_ _
      clear hHeld
      go_wp2_with fail
      go_roundw
      case rel =>
        refine ⟨k + 1, Y6, A8, n + 1, c8, by omega, by go_num, by omega, ?_, ?_⟩
        · rw [HSN.out]; exact GA.out.1
        · rw [HSN.out]; exact GA.out.2
      case measure => simp [intOf] <;> omega
    · obtain rfl : NG = k := by omega
      have G : Hid (FW RX W0 wr g b Y (gapsRd NG s4).2 pf ⟨none, 0, 0, A, n, d⟩) := Lib.hid (by rw [HPF.out]; exact FL.out)
      go_upto_region 28 with fail
      obtain ⟨WF, hWF⟩ : ∃ W, W = wr := ⟨_, rfl⟩
      rw [← hWF] at G ⊢
      clear hWF
      obtain ⟨sf, hsf⟩ : ∃ s, s = (gapsRd NG s4).2 := ⟨_, rfl⟩
      rw [← hsf] at G HOO
      clear hsf
      have c0 : WF.cell? ⟨b, 0, none⟩ = some (.int .i64 pf.kind) := (G.out).box.cell 0
      have c1 : WF.cell? ⟨b, 1, none⟩ = some (.int .i64 pf.src) := (G.out).box.cell 1
      have c2 : WF.cell? ⟨b, 2, none⟩ = some (.int .i64 pf.num) := (G.out).box.cell 2
      have c3 : WF.cell? ⟨b, 3, none⟩ = some (.int .i64 pf.cls) := (G.out).box.cell 3
      have c4 : WF.cell? ⟨b, 4, none⟩ = some (.string (strOfNums pf.name)) := (G.out).box.cell 4
      have c5 : WF.cell? ⟨b, 5, none⟩ = some (.int .i64 pf.size) := (G.out).box.cell 5
      have c6 : WF.cell? ⟨b, 6, none⟩ = some (.int .i64 pf.off) := (G.out).box.cell 6
      have c7 : WF.cell? ⟨b, 7, none⟩ = some (.slice (⟨none, 0, 0, A, n, d⟩ : Lc).D (⟨none, 0, 0, A, n, d⟩ : Lc).dn (⟨none, 0, 0, A, n, d⟩ : Lc).dc) := (G.out).box.cell 7
      have c8 : WF.cell? ⟨b, 8, none⟩ = some (.int .u32 pf.sum) := (G.out).box.cell 8
      have c9 : WF.cell? ⟨b, 9, none⟩ = some (.int .i64 pf.code) := (G.out).box.cell 9
      have c10 : WF.cell? ⟨b, 10, none⟩ = some (.slice (⟨none, 0, 0, A, n, d⟩ : Lc).G (⟨none, 0, 0, A, n, d⟩ : Lc).gn (⟨none, 0, 0, A, n, d⟩ : Lc).gc) := (G.out).box.cell 10
      cases hvb : validP pf with
      | false =>
        have hen : encR pf = ([], 1) := by unfold encR; rw [hvb]; rfl
        have HEN := Lib.hid hen
        have HVB := Lib.hid hvb
        clear hen hvb
        go_wp2_with fail
        refine (Calls.mono (renc_any _ pf ⟨none, 0, 0, A, n, d⟩ G.out.pin)) ?_
        rw [HEN.out]
        rintro e WE ⟨AE, nE, dE, rfl, hav⟩
        have HS : Hid (Sl WE 5 1 AE nE dE (octs [])) := Lib.hid hav.1
        have FE := Lib.hid (G.out.other RX_k hav.2.1)
        clear hav c0 c1 c2 c3 c4 c5 c6 c7 c8 c9 c10
        have BX : Hid (Blk WE r TP (pcs zP zL)) := Lib.hid (BR.out.keep FE.out.keep hrl (by simpa using hrg))
        have KE : Hid (Keep w.heap.size [] w WE) := Lib.hid (K0.out.chain1 (Nat.le_refl _) FE.out.keep hg0)
        have cb := FE.out.rd.bad
        have y0 := BX.out.frozen 0
        have x0 : WE.cell? ⟨r, 0, none⟩ = some (.int .i64 0) := BX.out.cell 0
        have y1 := BX.out.frozen 1
        have x1 : WE.cell? ⟨r, 1, none⟩ = some (.int .i64 0) := BX.out.cell 1
        have y2 := BX.out.frozen 2
        have x2 : WE.cell? ⟨r, 2, none⟩ = some (.int .i64 0) := BX.out.cell 2
        have y3 := BX.out.frozen 3
        have x3 : WE.cell? ⟨r, 3, none⟩ = some (.int .i64 0) := BX.out.cell 3
        have y4 := BX.out.frozen 4
        have x4 : WE.cell? ⟨r, 4, none⟩ = some (.string ⟨#[]⟩) := BX.out.cell 4
        have y5 := BX.out.frozen 5
        have x5 : WE.cell? ⟨r, 5, none⟩ = some (.int .i64 0) := BX.out.cell 5
        have y6 := BX.out.frozen 6
        have x6 : WE.cell? ⟨r, 6, none⟩ = some (.int .i64 0) := BX.out.cell 6
        have y7 := BX.out.frozen 7
        have x7 : WE.cell? ⟨r, 7, none⟩ = some (.slice none 0 0) := BX.out.cell 7
        have y8 := BX.out.frozen 8
        have x8 : WE.cell? ⟨r, 8, none⟩ = some (.int .u32 0) := BX.out.cell 8
        have y9 := BX.out.frozen 9
        have x9 : WE.cell? ⟨r, 9, none⟩ = some (.int .i64 0) := BX.out.cell 9
        have y10 := BX.out.frozen 10
        have x10 : WE.cell? ⟨r, 10, none⟩ = some (.slice none 0 0) := BX.out.cell 10
        cases hsf : sf.isNone with
        | true =>
          rw [hsf] at cb
          have HSF := Lib.hid hsf
          clear hsf
          go_wp2_with fail
          refine bodyPost_ret (v := .tuple #[.agg (pcs zP zL), .int .i64 4]) (by simp [pcs, zP, zL, zeroP, strNil, results, Try.results17, go_sem, x0, x1, x2, x3, x4, x5, x6, x7, x8, x9, x10]) rfl ?_
          have hO2 : O = (zP, 4) := by rw [← HOO.out, if_neg (by rw [HVB.out]; simp)]; rfl
          rw [hO2]
          have HRE := ret_ok2 KE.out hr0 (zin _ 0 0 0) (by simp [blks, zL]) (by simp [blks, zL]) (set_keep WE r zP zL)
          exact ⟨HRE.1, zL, rfl, HRE.2, by simp [blks, zL], by simp [blks, zL]⟩
        | false =>
          rw [hsf] at cb
          have HSF := Lib.hid hsf
          clear hsf
          go_wp2_with fail
          refine bodyPost_ret (v := .tuple #[.agg (pcs zP zL), .int .i64 4]) (by simp [pcs, zP, zL, zeroP, strNil, results, Try.results17, go_sem, x0, x1, x2, x3, x4, x5, x6, x7, x8, x9, x10]) rfl ?_
          have hO2 : O = (zP, 4) := by rw [← HOO.out, if_neg (by rw [HVB.out]; simp)]; rfl
          rw [hO2]
          have HRE := ret_ok2 KE.out hr0 (zin _ 0 0 0) (by simp [blks, zL]) (by simp [blks, zL]) (set_keep WE r zP zL)
          exact ⟨HRE.1, zL, rfl, HRE.2, by simp [blks, zL], by simp [blks, zL]⟩
      | true =>
        have hen : encR pf = (encP pf, 0) := by unfold encR; rw [hvb]; rfl
        have HEN := Lib.hid hen
        have HVB := Lib.hid hvb
        clear hen hvb
        go_wp2_with fail
        refine (Calls.mono (renc_any _ pf ⟨none, 0, 0, A, n, d⟩ G.out.pin)) ?_
        rw [HEN.out]
        rintro e WE ⟨AE, nE, dE, rfl, hav⟩
        have HS : Hid (Sl WE 5 1 AE nE dE (octs (encP pf))) := Lib.hid hav.1
        have FE := Lib.hid (G.out.other RX_k hav.2.1)
        clear hav c0 c1 c2 c3 c4 c5 c6 c7 c8 c9 c10
        have BX : Hid (Blk WE r TP (pcs zP zL)) := Lib.hid (BR.out.keep FE.out.keep hrl (by simpa using hrg))
        have KE : Hid (Keep w.heap.size [] w WE) := Lib.hid (K0.out.chain1 (Nat.le_refl _) FE.out.keep hg0)
        have cb := FE.out.rd.bad
        have y0 := BX.out.frozen 0
        have x0 : WE.cell? ⟨r, 0, none⟩ = some (.int .i64 0) := BX.out.cell 0
        have y1 := BX.out.frozen 1
        have x1 : WE.cell? ⟨r, 1, none⟩ = some (.int .i64 0) := BX.out.cell 1
        have y2 := BX.out.frozen 2
        have x2 : WE.cell? ⟨r, 2, none⟩ = some (.int .i64 0) := BX.out.cell 2
        have y3 := BX.out.frozen 3
        have x3 : WE.cell? ⟨r, 3, none⟩ = some (.int .i64 0) := BX.out.cell 3
        have y4 := BX.out.frozen 4
        have x4 : WE.cell? ⟨r, 4, none⟩ = some (.string ⟨#[]⟩) := BX.out.cell 4
        have y5 := BX.out.frozen 5
        have x5 : WE.cell? ⟨r, 5, none⟩ = some (.int .i64 0) := BX.out.cell 5
        have y6 := BX.out.frozen 6
        have x6 : WE.cell? ⟨r, 6, none⟩ = some (.int .i64 0) := BX.out.cell 6
        have y7 := BX.out.frozen 7
        have x7 : WE.cell? ⟨r, 7, none⟩ = some (.slice none 0 0) := BX.out.cell 7
        have y8 := BX.out.frozen 8
        have x8 : WE.cell? ⟨r, 8, none⟩ = some (.int .u32 0) := BX.out.cell 8
        have y9 := BX.out.frozen 9
        have x9 : WE.cell? ⟨r, 9, none⟩ = some (.int .i64 0) := BX.out.cell 9
        have y10 := BX.out.frozen 10
        have x10 : WE.cell? ⟨r, 10, none⟩ = some (.slice none 0 0) := BX.out.cell 10
        cases hsf : sf.isNone with
        | true =>
          rw [hsf] at cb
          have HSF := Lib.hid hsf
          clear hsf
          go_wp2_with fail
          refine bodyPost_ret (v := .tuple #[.agg (pcs zP zL), .int .i64 4]) (by simp [pcs, zP, zL, zeroP, strNil, results, Try.results17, go_sem, x0, x1, x2, x3, x4, x5, x6, x7, x8, x9, x10]) rfl ?_
          have hO2 : O = (zP, 4) := by rw [← HOO.out, if_neg (by have h := HSF.out; cases sf; simp; simp at h)]; rfl
          rw [hO2]
          have HRE := ret_ok2 KE.out hr0 (zin _ 0 0 0) (by simp [blks, zL]) (by simp [blks, zL]) (set_keep WE r zP zL)
          exact ⟨HRE.1, zL, rfl, HRE.2, by simp [blks, zL], by simp [blks, zL]⟩
        | false =>
          rw [hsf] at cb
          have HSF : Hid (sf.isSome = true) := Lib.hid (by cases sf; simp at hsf; rfl)
          clear hsf
          have hoe : Oct (encP pf) := encP_oct FE.out.pin HVB.out
          have hc1 := conv_str (P := Try.prog) (w := WE) 24 9 5 Try.underlying24 Try.underlying5 Try.underlying9 AE nE dE (encP pf) (HS.out.vw (by omega))
          have hc2 := conv_str (P := Try.prog) (w := WE) 24 9 5 Try.underlying24 Try.underlying5 Try.underlying9 X m c L (HV.out.keep0 KE.out)
          have hbq := strOf_beq hoe HO.out
          by_cases heq : encP pf = L
          · rw [decide_eq_true heq] at hbq
            have HEQ := Lib.hid heq
            clear heq hoe
            have c0 : WE.cell? ⟨b, 0, none⟩ = some (.int .i64 pf.kind) := (FE.out).box.cell 0
            have c1 : WE.cell? ⟨b, 1, none⟩ = some (.int .i64 pf.src) := (FE.out).box.cell 1
            have c2 : WE.cell? ⟨b, 2, none⟩ = some (.int .i64 pf.num) := (FE.out).box.cell 2
            have c3 : WE.cell? ⟨b, 3, none⟩ = some (.int .i64 pf.cls) := (FE.out).box.cell 3
            have c4 : WE.cell? ⟨b, 4, none⟩ = some (.string (strOfNums pf.name)) := (FE.out).box.cell 4
            have c5 : WE.cell? ⟨b, 5, none⟩ = some (.int .i64 pf.size) := (FE.out).box.cell 5
            have c6 : WE.cell? ⟨b, 6, none⟩ = some (.int .i64 pf.off) := (FE.out).box.cell 6
            have c7 : WE.cell? ⟨b, 7, none⟩ = some (.slice (⟨none, 0, 0, A, n, d⟩ : Lc).D (⟨none, 0, 0, A, n, d⟩ : Lc).dn (⟨none, 0, 0, A, n, d⟩ : Lc).dc) := (FE.out).box.cell 7
            have c8 : WE.cell? ⟨b, 8, none⟩ = some (.int .u32 pf.sum) := (FE.out).box.cell 8
            have c9 : WE.cell? ⟨b, 9, none⟩ = some (.int .i64 pf.code) := (FE.out).box.cell 9
            have c10 : WE.cell? ⟨b, 10, none⟩ = some (.slice (⟨none, 0, 0, A, n, d⟩ : Lc).G (⟨none, 0, 0, A, n, d⟩ : Lc).gn (⟨none, 0, 0, A, n, d⟩ : Lc).gc) := (FE.out).box.cell 10
            go_wp2_with fail
            refine bodyPost_ret (v := .tuple #[.agg (pcs pf ⟨none, 0, 0, A, n, d⟩), .int .i64 0]) (by simp [pcs, results, Try.results17, go_sem, x0, x1, x2, x3, x4, x5, x6, x7, x8, x9, x10]) rfl ?_
            have hO2 : O = (pf, 0) := by rw [← HOO.out, if_pos (by rw [HSF.out, HVB.out, HEQ.out]; simp)]; rfl
            rw [hO2]
            have HRE := ret_ok2 KE.out hr0 FE.out.pin (fun x hx => by have := (FE.out.hD x hx).1; omega) (fun x hx => by have := (FE.out.hG x hx).1; omega) (set_keep WE r pf ⟨none, 0, 0, A, n, d⟩)
            exact ⟨HRE.1, ⟨none, 0, 0, A, n, d⟩, rfl, HRE.2, (fun x hx => by have := (FE.out.hD x hx).1; have := K0.out.size; omega), (fun x hx => by have := (FE.out.hG x hx).1; have := K0.out.size; omega)⟩
          · rw [decide_eq_false heq] at hbq
            have HEQ := Lib.hid heq
            clear heq hoe
            go_wp2_with fail
            refine bodyPost_ret (v := .tuple #[.agg (pcs zP zL), .int .i64 4]) (by simp [pcs, zP, zL, zeroP, strNil, results, Try.results17, go_sem, x0, x1, x2, x3, x4, x5, x6, x7, x8, x9, x10]) rfl ?_
            have hO2 : O = (zP, 4) := by rw [← HOO.out, if_neg (by rw [decide_eq_false HEQ.out]; simp)]; rfl
            rw [hO2]
            have HRE := ret_ok2 KE.out hr0 (zin _ 0 0 0) (by simp [blks, zL]) (by simp [blks, zL]) (set_keep WE r zP zL)
            exact ⟨HRE.1, zL, rfl, HRE.2, by simp [blks, zL], by simp [blks, zL]⟩
set_option maxRecDepth 100000 in
set_option maxHeartbeats 16000000 in
theorem rdec_5 (w : World) (X : Option Addr) (m c : Nat) (L : List Int) (hO : Oct L) (hl : L.length ≤ 100000) (hmc : m ≤ c) (hcm : c ≤ maxLen) (hv : Vw w X m 1 (octs L)) (hk : (stU (some L) 1).1 = 5) : Calls Try.prog 17 #[.slice X m c] w (DecPost w (decR (rdecP L)).1 (decR (rdecP L)).2) := by
  have ok0 : RSok (some L) := by rintro _ ⟨⟩; exact ⟨hO, by omega⟩
  obtain ⟨s0, hs0⟩ : ∃ s, s = some L := ⟨_, rfl⟩
  rw [← hs0] at ok0 hk
  obtain ⟨v1, s1, q1⟩ : ∃ v s, stU s0 1 = (v, s) := ⟨_, _, rfl⟩
  have ok1 : RSok s1 := by have := stU_ok (z := 1) ok0; rw [q1] at this; exact this
  have b1 := stU_bd 1 ok0 q1
  obtain ⟨v2, s2, q2⟩ : ∃ v s, stU s1 1 = (v, s) := ⟨_, _, rfl⟩
  have ok2 : RSok s2 := by have := stU_ok (z := 1) ok1; rw [q2] at this; exact this
  have b2 := stU_bd 1 ok1 q2
  obtain ⟨v3, s3, q3⟩ : ∃ v s, stU s2 2 = (v, s) := ⟨_, _, rfl⟩
  have ok3 : RSok s3 := by have := stU_ok (z := 2) ok2; rw [q3] at this; exact this
  have b3 := stU_bd 2 ok2 q3
  obtain ⟨v4, s4, q4⟩ : ∃ v s, stU s3 1 = (v, s) := ⟨_, _, rfl⟩
  have ok4 : RSok s4 := by have := stU_ok (z := 1) ok3; rw [q4] at this; exact this
  have b4 := stU_bd 1 ok3 q4
  rw [q1] at hk
  simp only at hk
  subst hk
  obtain ⟨pf, hpf⟩ : ∃ p : Pd, p = { zeroP 5 v2 v3 with code := v4 } := ⟨_, rfl⟩
  have hfl : fld s0 = (pf, s4) := by
    rw [hpf]; unfold fld fldH; simp only [q1, q2, q3]; unfold fldB; simp [zeroP, q4]
  rw [hs0] at hfl
  have hR : rdecP L = if (s4).isSome && (validP pf && decide (encP pf = L)) then some pf else none := by unfold rdecP; rw [hfl]
  rw [hR]
  obtain ⟨O, hOO⟩ : ∃ O, decR (if (s4).isSome && (validP pf && decide (encP pf = L)) then some pf else none) = O := ⟨_, rfl⟩
  rw [hOO]
  have HOO := Lib.hid hOO
  clear hfl hR hOO
  have e2 := i64_in v2 (by omega) (by omega)
  have e3 := i64_in v3 (by omega) (by omega)
  have e4 := i64_in v4 (by omega) (by omega)
  have Q1 := Lib.hid q1
  have Q2 := Lib.hid q2
  have Q3 := Lib.hid q3
  have Q4 := Lib.hid q4
  have HPF := Lib.hid hpf
  have HS0 := Lib.hid hs0
  clear hpf hs0 q1 q2 q3 q4 ok0 ok1 ok2 ok3 ok4
  have HV := Lib.hid hv
  have HO := Lib.hid hO
  obtain ⟨W0, hW0⟩ : ∃ W, W = (w.alloc (.cells (pcs zP zL) TP)).alloc (.cells #[.slice X m c, .bool false] 63) := ⟨_, rfl⟩
  obtain ⟨X0, hst⟩ := rstart w X m c L hO hl hmc hcm hv W0 hW0
  have k1 : Keep w.heap.size [] w W0 := by rw [hW0]; exact ((Keep.refl _ _ w).alloc (Nat.le_refl _) _).alloc (by simp) _
  have hbr : Blk W0 w.heap.size TP (pcs zP zL) := by rw [hW0]; exact (Blk.new _ _ _).alloc _
  have hsz : W0.heap.size = w.heap.size + 2 := by rw [hW0]; simp
  obtain ⟨r, hr⟩ : ∃ r, r = w.heap.size := ⟨_, rfl⟩
  obtain ⟨g, hg⟩ : ∃ g, g = r + 1 := ⟨_, rfl⟩
  have hbq : W0.heap.size = g + 1 := by omega
  obtain ⟨b, hb⟩ : ∃ b, b = g + 1 := ⟨_, rfl⟩
  rw [hbq, ← hr, ← hg, ← hb] at hst
  rw [← hr] at hbr
  obtain ⟨W1, hW1⟩ : ∃ W, W = W0.alloc (.cells (pcs (zeroP 0 0 0) zL) TP) := ⟨_, rfl⟩
  rw [← hW1, ← HS0.out] at hst
  have F0 := Lib.hid hst
  have K0 := Lib.hid k1
  have BR := Lib.hid hbr
  have hrl := hbr.lt
  have hr0 : w.heap.size ≤ r := by omega
  have hg0 : w.heap.size ≤ g := by omega
  have hrg : r ≠ g := by omega
  have hrb : r < W0.heap.size := by omega
  clear hst k1 hbr hv hO hsz hbq
  go_enter Try.func17, Try.ntmps17
  go_upto_region 3 with fail
  change Code.wp _ _ _ _ (((w.alloc (.cells (pcs zP zL) TP)).alloc (.cells #[.slice X m c, .bool false] 63)).alloc (.cells (pcs (zeroP 0 0 0) zL) TP))
  rw [← hW0, ← hW1, ← hr, ← hg, ← hb]
  clear hW0 hW1 hr hg hb
  go_wp2_with fail
  refine (fu_x F0.out 1 Q1.out).mono ?_
  rintro e U1 ⟨rfl, Y1, f1⟩
  have R1 := Lib.hid f1
  clear f1
  have z1 := R1.out.box.frozen 0
  have x1 : U1.cell? ⟨b, 0, none⟩ = some (.int .i64 0) := R1.out.box.cell 0
  have S1 := Lib.hid (R1.out.setKind RX_k 5)
  go_wp2_with fail
  refine (fu_x S1.out 1 Q2.out).mono ?_
  rintro e U2 ⟨rfl, Y2, f2⟩
  have R2 := Lib.hid f2
  clear f2
  have z2 := R2.out.box.frozen 1
  have x2 : U2.cell? ⟨b, 1, none⟩ = some (.int .i64 0) := R2.out.box.cell 1
  have S2 := Lib.hid (R2.out.setSrc RX_k v2)
  go_wp2_with fail
  refine (fu_x S2.out 2 Q3.out).mono ?_
  rintro e U3 ⟨rfl, Y3, f3⟩
  have R3 := Lib.hid f3
  clear f3
  have z3 := R3.out.box.frozen 2
  have x3 : U3.cell? ⟨b, 2, none⟩ = some (.int .i64 0) := R3.out.box.cell 2
  have S3 := Lib.hid (R3.out.setNum RX_k v3)
  go_upto_region 6 with fail
  have F3 : Hid (FW RX W0 (U3.setCell ⟨b, 2, none⟩ (.int .i64 v3)) g b Y3 s3 (zeroP 5 v2 v3) zL) := Lib.hid S3.out
  obtain ⟨W5, hW5⟩ : ∃ W, W = U3.setCell ⟨b, 2, none⟩ (.int .i64 v3) := ⟨_, rfl⟩
  rw [← hW5] at F3 ⊢
  clear hW5 z1 z2 z3 x1 x2 x3 S1 S2 S3 R1 R2 R3 F0
  have c0 : W5.cell? ⟨b, 0, none⟩ = some (.int .i64 5) := F3.out.box.cell 0
  go_wp2_with fail
  refine (fu_x F3.out 1 Q4.out).mono ?_
  rintro e U4 ⟨rfl, Y4, f4⟩
  have R4 := Lib.hid f4
  clear f4
  have z4 := R4.out.box.frozen 9
  have x4 : U4.cell? ⟨b, 9, none⟩ = some (.int .i64 0) := R4.out.box.cell 9
  clear c0
  have S4 := Lib.hid (R4.out.setCode RX_k v4)
  have G : Hid (FW RX W0 (U4.setCell ⟨b, 9, none⟩ (.int .i64 v4)) g b Y4 s4 pf zL) := Lib.hid (by rw [HPF.out]; exact S4.out)
  go_upto_region 28 with fail
  obtain ⟨WF, hWF⟩ : ∃ W, W = (U4.setCell ⟨b, 9, none⟩ (.int .i64 v4)) := ⟨_, rfl⟩
  rw [← hWF] at G ⊢
  clear hWF
  clear z4 x4
  obtain ⟨sf, hsf⟩ : ∃ s, s = s4 := ⟨_, rfl⟩
  rw [← hsf] at G HOO
  clear hsf
  have c0 : WF.cell? ⟨b, 0, none⟩ = some (.int .i64 pf.kind) := (G.out).box.cell 0
  have c1 : WF.cell? ⟨b, 1, none⟩ = some (.int .i64 pf.src) := (G.out).box.cell 1
  have c2 : WF.cell? ⟨b, 2, none⟩ = some (.int .i64 pf.num) := (G.out).box.cell 2
  have c3 : WF.cell? ⟨b, 3, none⟩ = some (.int .i64 pf.cls) := (G.out).box.cell 3
  have c4 : WF.cell? ⟨b, 4, none⟩ = some (.string (strOfNums pf.name)) := (G.out).box.cell 4
  have c5 : WF.cell? ⟨b, 5, none⟩ = some (.int .i64 pf.size) := (G.out).box.cell 5
  have c6 : WF.cell? ⟨b, 6, none⟩ = some (.int .i64 pf.off) := (G.out).box.cell 6
  have c7 : WF.cell? ⟨b, 7, none⟩ = some (.slice (zL : Lc).D (zL : Lc).dn (zL : Lc).dc) := (G.out).box.cell 7
  have c8 : WF.cell? ⟨b, 8, none⟩ = some (.int .u32 pf.sum) := (G.out).box.cell 8
  have c9 : WF.cell? ⟨b, 9, none⟩ = some (.int .i64 pf.code) := (G.out).box.cell 9
  have c10 : WF.cell? ⟨b, 10, none⟩ = some (.slice (zL : Lc).G (zL : Lc).gn (zL : Lc).gc) := (G.out).box.cell 10
  cases hvb : validP pf with
  | false =>
    have hen : encR pf = ([], 1) := by unfold encR; rw [hvb]; rfl
    have HEN := Lib.hid hen
    have HVB := Lib.hid hvb
    clear hen hvb
    go_wp2_with fail
    refine (Calls.mono (renc_any _ pf zL G.out.pin)) ?_
    rw [HEN.out]
    rintro e WE ⟨AE, nE, dE, rfl, hav⟩
    have HS : Hid (Sl WE 5 1 AE nE dE (octs [])) := Lib.hid hav.1
    have FE := Lib.hid (G.out.other RX_k hav.2.1)
    clear hav c0 c1 c2 c3 c4 c5 c6 c7 c8 c9 c10
    have BX : Hid (Blk WE r TP (pcs zP zL)) := Lib.hid (BR.out.keep FE.out.keep hrl (by simpa using hrg))
    have KE : Hid (Keep w.heap.size [] w WE) := Lib.hid (K0.out.chain1 (Nat.le_refl _) FE.out.keep hg0)
    have cb := FE.out.rd.bad
    have y0 := BX.out.frozen 0
    have x0 : WE.cell? ⟨r, 0, none⟩ = some (.int .i64 0) := BX.out.cell 0
    have y1 := BX.out.frozen 1
    have x1 : WE.cell? ⟨r, 1, none⟩ = some (.int .i64 0) := BX.out.cell 1
    have y2 := BX.out.frozen 2
    have x2 : WE.cell? ⟨r, 2, none⟩ = some (.int .i64 0) := BX.out.cell 2
    have y3 := BX.out.frozen 3
    have x3 : WE.cell? ⟨r, 3, none⟩ = some (.int .i64 0) := BX.out.cell 3
    have y4 := BX.out.frozen 4
    have x4 : WE.cell? ⟨r, 4, none⟩ = some (.string ⟨#[]⟩) := BX.out.cell 4
    have y5 := BX.out.frozen 5
    have x5 : WE.cell? ⟨r, 5, none⟩ = some (.int .i64 0) := BX.out.cell 5
    have y6 := BX.out.frozen 6
    have x6 : WE.cell? ⟨r, 6, none⟩ = some (.int .i64 0) := BX.out.cell 6
    have y7 := BX.out.frozen 7
    have x7 : WE.cell? ⟨r, 7, none⟩ = some (.slice none 0 0) := BX.out.cell 7
    have y8 := BX.out.frozen 8
    have x8 : WE.cell? ⟨r, 8, none⟩ = some (.int .u32 0) := BX.out.cell 8
    have y9 := BX.out.frozen 9
    have x9 : WE.cell? ⟨r, 9, none⟩ = some (.int .i64 0) := BX.out.cell 9
    have y10 := BX.out.frozen 10
    have x10 : WE.cell? ⟨r, 10, none⟩ = some (.slice none 0 0) := BX.out.cell 10
    cases hsf : sf.isNone with
    | true =>
      rw [hsf] at cb
      have HSF := Lib.hid hsf
      clear hsf
      go_wp2_with fail
      refine bodyPost_ret (v := .tuple #[.agg (pcs zP zL), .int .i64 4]) (by simp [pcs, zP, zL, zeroP, strNil, results, Try.results17, go_sem, x0, x1, x2, x3, x4, x5, x6, x7, x8, x9, x10]) rfl ?_
      have hO2 : O = (zP, 4) := by rw [← HOO.out, if_neg (by rw [HVB.out]; simp)]; rfl
      rw [hO2]
      have HRE := ret_ok2 KE.out hr0 (zin _ 0 0 0) (by simp [blks, zL]) (by simp [blks, zL]) (set_keep WE r zP zL)
      exact ⟨HRE.1, zL, rfl, HRE.2, by simp [blks, zL], by simp [blks, zL]⟩
    | false =>
      rw [hsf] at cb
      have HSF := Lib.hid hsf
      clear hsf
      go_wp2_with fail
      refine bodyPost_ret (v := .tuple #[.agg (pcs zP zL), .int .i64 4]) (by simp [pcs, zP, zL, zeroP, strNil, results, Try.results17, go_sem, x0, x1, x2, x3, x4, x5, x6, x7, x8, x9, x10]) rfl ?_
      have hO2 : O = (zP, 4) := by rw [← HOO.out, if_neg (by rw [HVB.out]; simp)]; rfl
      rw [hO2]
      have HRE := ret_ok2 KE.out hr0 (zin _ 0 0 0) (by simp [blks, zL]) (by simp [blks, zL]) (set_keep WE r zP zL)
      exact ⟨HRE.1, zL, rfl, HRE.2, by simp [blks, zL], by simp [blks, zL]⟩
  | true =>
    have hen : encR pf = (encP pf, 0) := by unfold encR; rw [hvb]; rfl
    have HEN := Lib.hid hen
    have HVB := Lib.hid hvb
    clear hen hvb
    go_wp2_with fail
    refine (Calls.mono (renc_any _ pf zL G.out.pin)) ?_
    rw [HEN.out]
    rintro e WE ⟨AE, nE, dE, rfl, hav⟩
    have HS : Hid (Sl WE 5 1 AE nE dE (octs (encP pf))) := Lib.hid hav.1
    have FE := Lib.hid (G.out.other RX_k hav.2.1)
    clear hav c0 c1 c2 c3 c4 c5 c6 c7 c8 c9 c10
    have BX : Hid (Blk WE r TP (pcs zP zL)) := Lib.hid (BR.out.keep FE.out.keep hrl (by simpa using hrg))
    have KE : Hid (Keep w.heap.size [] w WE) := Lib.hid (K0.out.chain1 (Nat.le_refl _) FE.out.keep hg0)
    have cb := FE.out.rd.bad
    have y0 := BX.out.frozen 0
    have x0 : WE.cell? ⟨r, 0, none⟩ = some (.int .i64 0) := BX.out.cell 0
    have y1 := BX.out.frozen 1
    have x1 : WE.cell? ⟨r, 1, none⟩ = some (.int .i64 0) := BX.out.cell 1
    have y2 := BX.out.frozen 2
    have x2 : WE.cell? ⟨r, 2, none⟩ = some (.int .i64 0) := BX.out.cell 2
    have y3 := BX.out.frozen 3
    have x3 : WE.cell? ⟨r, 3, none⟩ = some (.int .i64 0) := BX.out.cell 3
    have y4 := BX.out.frozen 4
    have x4 : WE.cell? ⟨r, 4, none⟩ = some (.string ⟨#[]⟩) := BX.out.cell 4
    have y5 := BX.out.frozen 5
    have x5 : WE.cell? ⟨r, 5, none⟩ = some (.int .i64 0) := BX.out.cell 5
    have y6 := BX.out.frozen 6
    have x6 : WE.cell? ⟨r, 6, none⟩ = some (.int .i64 0) := BX.out.cell 6
    have y7 := BX.out.frozen 7
    have x7 : WE.cell? ⟨r, 7, none⟩ = some (.slice none 0 0) := BX.out.cell 7
    have y8 := BX.out.frozen 8
    have x8 : WE.cell? ⟨r, 8, none⟩ = some (.int .u32 0) := BX.out.cell 8
    have y9 := BX.out.frozen 9
    have x9 : WE.cell? ⟨r, 9, none⟩ = some (.int .i64 0) := BX.out.cell 9
    have y10 := BX.out.frozen 10
    have x10 : WE.cell? ⟨r, 10, none⟩ = some (.slice none 0 0) := BX.out.cell 10
    cases hsf : sf.isNone with
    | true =>
      rw [hsf] at cb
      have HSF := Lib.hid hsf
      clear hsf
      go_wp2_with fail
      refine bodyPost_ret (v := .tuple #[.agg (pcs zP zL), .int .i64 4]) (by simp [pcs, zP, zL, zeroP, strNil, results, Try.results17, go_sem, x0, x1, x2, x3, x4, x5, x6, x7, x8, x9, x10]) rfl ?_
      have hO2 : O = (zP, 4) := by rw [← HOO.out, if_neg (by have h := HSF.out; cases sf; simp; simp at h)]; rfl
      rw [hO2]
      have HRE := ret_ok2 KE.out hr0 (zin _ 0 0 0) (by simp [blks, zL]) (by simp [blks, zL]) (set_keep WE r zP zL)
      exact ⟨HRE.1, zL, rfl, HRE.2, by simp [blks, zL], by simp [blks, zL]⟩
    | false =>
      rw [hsf] at cb
      have HSF : Hid (sf.isSome = true) := Lib.hid (by cases sf; simp at hsf; rfl)
      clear hsf
      have hoe : Oct (encP pf) := encP_oct FE.out.pin HVB.out
      have hc1 := conv_str (P := Try.prog) (w := WE) 24 9 5 Try.underlying24 Try.underlying5 Try.underlying9 AE nE dE (encP pf) (HS.out.vw (by omega))
      have hc2 := conv_str (P := Try.prog) (w := WE) 24 9 5 Try.underlying24 Try.underlying5 Try.underlying9 X m c L (HV.out.keep0 KE.out)
      have hbq := strOf_beq hoe HO.out
      by_cases heq : encP pf = L
      · rw [decide_eq_true heq] at hbq
        have HEQ := Lib.hid heq
        clear heq hoe
        have c0 : WE.cell? ⟨b, 0, none⟩ = some (.int .i64 pf.kind) := (FE.out).box.cell 0
        have c1 : WE.cell? ⟨b, 1, none⟩ = some (.int .i64 pf.src) := (FE.out).box.cell 1
        have c2 : WE.cell? ⟨b, 2, none⟩ = some (.int .i64 pf.num) := (FE.out).box.cell 2
        have c3 : WE.cell? ⟨b, 3, none⟩ = some (.int .i64 pf.cls) := (FE.out).box.cell 3
        have c4 : WE.cell? ⟨b, 4, none⟩ = some (.string (strOfNums pf.name)) := (FE.out).box.cell 4
        have c5 : WE.cell? ⟨b, 5, none⟩ = some (.int .i64 pf.size) := (FE.out).box.cell 5
        have c6 : WE.cell? ⟨b, 6, none⟩ = some (.int .i64 pf.off) := (FE.out).box.cell 6
        have c7 : WE.cell? ⟨b, 7, none⟩ = some (.slice (zL : Lc).D (zL : Lc).dn (zL : Lc).dc) := (FE.out).box.cell 7
        have c8 : WE.cell? ⟨b, 8, none⟩ = some (.int .u32 pf.sum) := (FE.out).box.cell 8
        have c9 : WE.cell? ⟨b, 9, none⟩ = some (.int .i64 pf.code) := (FE.out).box.cell 9
        have c10 : WE.cell? ⟨b, 10, none⟩ = some (.slice (zL : Lc).G (zL : Lc).gn (zL : Lc).gc) := (FE.out).box.cell 10
        go_wp2_with fail
        refine bodyPost_ret (v := .tuple #[.agg (pcs pf zL), .int .i64 0]) (by simp [pcs, results, Try.results17, go_sem, x0, x1, x2, x3, x4, x5, x6, x7, x8, x9, x10]) rfl ?_
        have hO2 : O = (pf, 0) := by rw [← HOO.out, if_pos (by rw [HSF.out, HVB.out, HEQ.out]; simp)]; rfl
        rw [hO2]
        have HRE := ret_ok2 KE.out hr0 FE.out.pin (fun x hx => by have := (FE.out.hD x hx).1; omega) (fun x hx => by have := (FE.out.hG x hx).1; omega) (set_keep WE r pf zL)
        exact ⟨HRE.1, zL, rfl, HRE.2, (fun x hx => by have := (FE.out.hD x hx).1; have := K0.out.size; omega), (fun x hx => by have := (FE.out.hG x hx).1; have := K0.out.size; omega)⟩
      · rw [decide_eq_false heq] at hbq
        have HEQ := Lib.hid heq
        clear heq hoe
        go_wp2_with fail
        refine bodyPost_ret (v := .tuple #[.agg (pcs zP zL), .int .i64 4]) (by simp [pcs, zP, zL, zeroP, strNil, results, Try.results17, go_sem, x0, x1, x2, x3, x4, x5, x6, x7, x8, x9, x10]) rfl ?_
        have hO2 : O = (zP, 4) := by rw [← HOO.out, if_neg (by rw [decide_eq_false HEQ.out]; simp)]; rfl
        rw [hO2]
        have HRE := ret_ok2 KE.out hr0 (zin _ 0 0 0) (by simp [blks, zL]) (by simp [blks, zL]) (set_keep WE r zP zL)
        exact ⟨HRE.1, zL, rfl, HRE.2, by simp [blks, zL], by simp [blks, zL]⟩
end Go.Proofs.Ytijionfhnoffcaa
