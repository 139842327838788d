/- The receiving end: Next, a Nak, behind the timer, of one that knows the end. -/
import Derived.Test.YtfkbcflgbjncdaaTxR
import Derived.Test.YtfkbcflgbjncdaaTxAi
namespace Go.Proofs.Ytfkbcflgbjncdaa
set_option linter.unusedVariables false
set_option linter.unusedSimpArgs false
open Go.RowKit
set_option maxRecDepth 100000 in
set_option maxHeartbeats 16000000 in
theorem knext_nc (w : World) (p : Nat) (F : List Int) (c : Nat) (l : Ly) (K : Sk) (t T : Nat) (hT : T ≤ t) (ht : t ≤ 400) (hi : IK F c T K) (hn : F.length ≤ 300) (h : SkAt w p F c l K) (ha : K.ad = false) (hp : K.ph = 0) (htt : K.tm + 10 ≤ t) (hnd : K.nd = false) (hfin : K.fin = true) : Calls Try.prog 34 #[ptr p, .int .i64 t] w (KxPost w p F c t l K) := by
  have hnow : K.now ≤ t := Nat.le_trans hi.now hT
  have htmr := hi.tmr
  have ht2 : t ≤ 1000 := by omega
  have htm : K.tm ≤ 400 := by omega
  have hgl : K.got.length ≤ 300 := by have := nrm_len (a := 0) (N := (F.length : Int)) hi.nrm (fun z hz => hi.al.inn hz) (by omega); omega
  have hpI : (K.ph : Int) = 0 := by omega
  have ew : IntKind.i64.wrap ((K.tm : Int) + 10) = (K.tm : Int) + 10 := i64k (by omega) (by omega)
  have htI : decide ((K.tm : Int) + 10 ≤ (t : Int)) = true := by simp; omega
  have htr : ¬ (K.tr : Int) = 50 := by omega
  have ew2 : IntKind.i64.wrap ((K.tr : Int) + 1) = (K.tr : Int) + 1 := i64k (by omega) (by omega)
  have HI := Lib.hid hi
  have HS := Lib.hid h
  have HB := Lib.hid h.blk
  clear h hi
  go_enter Try.func34, Try.ntmps34
  go_upto_region 1 with fail
  obtain ⟨W, q, hW, hq, bq, ka⟩ := newPd w
  have bp := HB.out.keepS ka (by simp)
  have hpq : p ≠ q := by have := HB.out.lt; omega
  have hqp : q ≠ p := hpq.symm
  change Code.wp _ _ _ _ (w.alloc (.cells zcs TP))
  rw [← hW, ← hq]
  have HQ := Lib.hid hq
  clear hW hq
  have BP := Lib.hid bp
  have BQ := Lib.hid bq
  have KA := Lib.hid ka
  clear bp bq ka
  go_wp2_with fail
  refine (kok_w _ p F c l K BP.out).mono ?_
  rintro e w1 ⟨rfl, rfl⟩
  go_wp2_with fail
  refine (kadv_w _ p F c l K t hnow ht2 BP.out).mono ?_
  rintro e W2 ⟨rfl, bp, hk2⟩
  have c5 : W2.cell? ⟨p, 5, none⟩ = some (.int .i64 10) := bp.cell 5
  have c6 : W2.cell? ⟨p, 6, none⟩ = some (.int .i64 50) := bp.cell 6
  have c7 : W2.cell? ⟨p, 7, none⟩ = some (.int .i64 t) := bp.cell 7
  have c8 : W2.cell? ⟨p, 8, none⟩ = some (.int .i64 K.ph) := bp.cell 8
  have c10 : W2.cell? ⟨p, 10, none⟩ = some (.bool false) := bp.cell 10
  have c11 : W2.cell? ⟨p, 11, none⟩ = some (.bool K.named) := bp.cell 11
  have c14 : W2.cell? ⟨p, 14, none⟩ = some (.bool K.fin) := bp.cell 14
  have c19 : W2.cell? ⟨p, 19, none⟩ = some (.int .i64 K.tm) := bp.cell 19
  have c20 : W2.cell? ⟨p, 20, none⟩ = some (.int .i64 K.tr) := bp.cell 20
  have c21 : W2.cell? ⟨p, 21, none⟩ = some (.bool K.ad) := bp.cell 21
  have c22 : W2.cell? ⟨p, 22, none⟩ = some (.bool K.nd) := bp.cell 22
  have fc19 := bp.frozen 19
  have fc20 := bp.frozen 20
  have fc21 := bp.frozen 21
  have fc22 := bp.frozen 22
  have BQ2 := Lib.hid (BQ.out.keepS hk2 (by simpa using hqp))
  have KA2 : Hid (Keep w.heap.size [p] w W2) := Lib.hid ((KA.out.mono (S' := [p]) (Nat.le_refl _) (by simp)).trans (hk2.mono KA.out.size (by simp)))
  have BP2 := Lib.hid bp
  clear hk2 bp
  rw [ha] at c21
  rw [hpI] at c8
  rw [hnd] at c22
  rw [hfin] at c14
  go_upto_region 9 with fail
  refine wp_region_held_drew (S := (fun w' => w'.cell? ⟨p, 5, none⟩ = some (.int .i64 10) ∧ w'.cell? ⟨p, 7, none⟩ = some (.int .i64 t) ∧ w'.cell? ⟨p, 8, none⟩ = some (.int .i64 0) ∧ w'.cell? ⟨p, 19, none⟩ = some (.int .i64 K.tm))) (by kernel_rfl) (by exact ⟨c5, c7, c8, c19⟩) (fun hHeld => ?_)
  refine tkH (i := 0) (oi := { dst := some 30, op := Op.move (Operand.tmp 0), type := 79, pos := _, after := _, guard := none }) rfl (by assumption) ?_
  (try simp only [Act.put, List.setIfInBounds_toArray, List.set_cons_zero, List.set_cons_succ])
  refine tkH (i := 1) (oi := { dst := some 31, op := Op.nilCheck (Operand.tmp 30), type := 0, pos := _, after := _, guard := none }) rfl (by assumption) ?_
  (try simp only [Act.put, List.setIfInBounds_toArray, List.set_cons_zero, List.set_cons_succ])
  refine tkH (i := 2) (oi := { dst := some 32, op := Op.fieldAddr 150 (Operand.tmp 31) 5, type := 0, pos := _, after := _, guard := none }) rfl (by assumption) ?_
  (try simp only [Act.put, List.setIfInBounds_toArray, List.set_cons_zero, List.set_cons_succ])
  refine tkH (i := 3) (oi := { dst := some 33, op := Op.load 3 (Operand.tmp 32), type := 3, pos := _, after := _, guard := none }) rfl (by assumption) ?_
  (try simp only [Act.put, List.setIfInBounds_toArray, List.set_cons_zero, List.set_cons_succ])
  refine tkH (i := 4) (oi := { dst := some 34, op := Op.binOp BinOp.eql 3 (Operand.tmp 33) (Operand.const (Value.int IntKind.i64 0)) 3, type := 4, pos := _, after := _, guard := none }) rfl (by assumption) ?_
  (try simp only [Act.put, List.setIfInBounds_toArray, List.set_cons_zero, List.set_cons_succ])
  refine tkH (i := 5) (oi := { dst := some 35, op := Op.move (Operand.tmp 34), type := 4, pos := _, after := _, guard := none }) rfl (by assumption) ?_
  (try simp only [Act.put, List.setIfInBounds_toArray, List.set_cons_zero, List.set_cons_succ])
  refine tkH (i := 6) (oi := { dst := some 36, op := Op.move (Operand.tmp 0), type := 79, pos := _, after := _, guard := some (5, true) }) rfl (by assumption) ?_
  (try simp only [Act.put, List.setIfInBounds_toArray, List.set_cons_zero, List.set_cons_succ])
  refine tkH (i := 7) (oi := { dst := some 37, op := Op.nilCheck (Operand.tmp 36), type := 0, pos := _, after := _, guard := some (5, true) }) rfl (by assumption) ?_
  (try simp only [Act.put, List.setIfInBounds_toArray, List.set_cons_zero, List.set_cons_succ])
  refine tkH (i := 8) (oi := { dst := some 38, op := Op.fieldAddr 150 (Operand.tmp 37) 4, type := 0, pos := _, after := _, guard := some (5, true) }) rfl (by assumption) ?_
  (try simp only [Act.put, List.setIfInBounds_toArray, List.set_cons_zero, List.set_cons_succ])
  refine tkH (i := 9) (oi := { dst := some 39, op := Op.load 3 (Operand.tmp 38), type := 3, pos := _, after := _, guard := some (5, true) }) rfl (by assumption) ?_
  (try simp only [Act.put, List.setIfInBounds_toArray, List.set_cons_zero, List.set_cons_succ])
  refine tkH (i := 10) (oi := { dst := some 40, op := Op.move (Operand.tmp 0), type := 79, pos := _, after := _, guard := some (5, true) }) rfl (by assumption) ?_
  (try simp only [Act.put, List.setIfInBounds_toArray, List.set_cons_zero, List.set_cons_succ])
  refine tkH (i := 11) (oi := { dst := some 41, op := Op.nilCheck (Operand.tmp 40), type := 0, pos := _, after := _, guard := some (5, true) }) rfl (by assumption) ?_
  (try simp only [Act.put, List.setIfInBounds_toArray, List.set_cons_zero, List.set_cons_succ])
  refine tkH (i := 12) (oi := { dst := some 42, op := Op.fieldAddr 150 (Operand.tmp 41) 16, type := 0, pos := _, after := _, guard := some (5, true) }) rfl (by assumption) ?_
  (try simp only [Act.put, List.setIfInBounds_toArray, List.set_cons_zero, List.set_cons_succ])
  refine tkH (i := 13) (oi := { dst := some 43, op := Op.load 3 (Operand.tmp 42), type := 3, pos := _, after := _, guard := some (5, true) }) rfl (by assumption) ?_
  (try simp only [Act.put, List.setIfInBounds_toArray, List.set_cons_zero, List.set_cons_succ])
  refine tkH (i := 14) (oi := { dst := some 44, op := Op.move (Operand.tmp 0), type := 79, pos := _, after := _, guard := some (5, true) }) rfl (by assumption) ?_
  (try simp only [Act.put, List.setIfInBounds_toArray, List.set_cons_zero, List.set_cons_succ])
  refine tkH (i := 15) (oi := { dst := some 45, op := Op.nilCheck (Operand.tmp 44), type := 0, pos := _, after := _, guard := some (5, true) }) rfl (by assumption) ?_
  (try simp only [Act.put, List.setIfInBounds_toArray, List.set_cons_zero, List.set_cons_succ])
  refine tkH (i := 16) (oi := { dst := some 46, op := Op.fieldAddr 150 (Operand.tmp 45) 3, type := 0, pos := _, after := _, guard := some (5, true) }) rfl (by assumption) ?_
  (try simp only [Act.put, List.setIfInBounds_toArray, List.set_cons_zero, List.set_cons_succ])
  refine tkH (i := 17) (oi := { dst := some 47, op := Op.fieldAddr 73 (Operand.tmp 46) 1, type := 0, pos := _, after := _, guard := some (5, true) }) rfl (by assumption) ?_
  (try simp only [Act.put, List.setIfInBounds_toArray, List.set_cons_zero, List.set_cons_succ])
  refine tkH (i := 18) (oi := { dst := some 48, op := Op.load 3 (Operand.tmp 47), type := 3, pos := _, after := _, guard := some (5, true) }) rfl (by assumption) ?_
  (try simp only [Act.put, List.setIfInBounds_toArray, List.set_cons_zero, List.set_cons_succ])
  refine tkH (i := 19) (oi := { dst := some 49, op := Op.binOp BinOp.add 3 (Operand.tmp 43) (Operand.tmp 48) 3, type := 3, pos := _, after := _, guard := some (5, true) }) rfl (by assumption) ?_
  (try simp only [Act.put, List.setIfInBounds_toArray, List.set_cons_zero, List.set_cons_succ])
  refine tkH (i := 20) (oi := { dst := some 50, op := Op.binOp BinOp.geq 3 (Operand.tmp 39) (Operand.tmp 49) 3, type := 4, pos := _, after := _, guard := some (5, true) }) rfl (by assumption) ?_
  (try simp only [Act.put, List.setIfInBounds_toArray, List.set_cons_zero, List.set_cons_succ])
  refine tkH (i := 21) (oi := { dst := some 51, op := Op.pick (Operand.tmp 35) (Operand.tmp 50) (Operand.const (Value.bool false)), type := 4, pos := _, after := _, guard := none }) rfl (by assumption) ?_
  (try simp only [Act.put, List.setIfInBounds_toArray, List.set_cons_zero, List.set_cons_succ])
  refine wpAnyH_done (by kernel_rfl) ?_ _
  go_upto_region 10 with fail
  go_quiet (fail)
  go_wp2_with fail
  have BPM : Hid (Blk (((W2.drewN (1 + nq)).setCell ⟨p, 20, none⟩ (.int .i64 ((K.tr : Int) + 1))).setCell ⟨p, 19, none⟩ (.int .i64 (t : Int))) p TK (kcs F c l { K with now := t, tr := K.tr + 1, tm := t })) := Lib.hid (((BP2.out.drewN _).set_ 20 _).set_ 19 _)
  refine (kack_w _ p F c l { K with now := t, tr := K.tr + 1, tm := t } BPM.out).mono ?_
  rintro e WM ⟨rfl, rfl⟩
  go_upto_region 15 with fail
  obtain ⟨W3, hW3⟩ : ∃ V, V = ((((W2.drewN (1 + nq)).setCell ⟨p, 20, none⟩ (.int .i64 ((K.tr : Int) + 1))).setCell ⟨p, 19, none⟩ (.int .i64 (t : Int))).setCell ⟨p, 22, none⟩ (.bool true)) := ⟨_, rfl⟩
  rw [← hW3]
  have BP3 : Hid (Blk W3 p TK (kcs F c l { K with now := t, tr := K.tr + 1, tm := t, nd := true })) := Lib.hid (by rw [hW3]; exact (((BP2.out.drewN _).set_ 20 _).set_ 19 _).set_ 22 _)
  have BQ3 : Hid (Blk W3 q TP zcs) := Lib.hid (by rw [hW3]; exact (((BQ2.out.drewN _).far hqp _).far hqp _).far hqp _)
  have K3 : Hid (Keep w.heap.size [p] w W3) := Lib.hid (by rw [hW3]; exact ((((KA2.out.drewN _).set1).set1).set1))
  clear hHeld hW3 c5 c6 c7 c8 c10 c11 c14 c19 c20 c21 c22 fc19 fc20 fc21 fc22 htr ew2
  have c8 : W3.cell? ⟨p, 8, none⟩ = some (.int .i64 0) := by rw [← hpI]; exact BP3.out.cell 8
  have c22 : W3.cell? ⟨p, 22, none⟩ = some (.bool true) := BP3.out.cell 22
  have f22 := BP3.out.frozen 22
  have B4 : Hid (Blk (W3.setCell ⟨p, 22, none⟩ (.bool false)) p TK (kcs F c l { K with now := t, tr := K.tr + 1, tm := t, nd := false })) := Lib.hid (BP3.out.set_ 22 _)
  have Q4 : Hid (Blk (W3.setCell ⟨p, 22, none⟩ (.bool false)) q TP zcs) := Lib.hid (BQ3.out.far hqp _)
  have K4 : Hid (Keep w.heap.size [p] w (W3.setCell ⟨p, 22, none⟩ (.bool false))) := Lib.hid (K3.out.set1)
  go_wp2_with fail
  refine (kunit_w _ p F c l { K with now := t, tr := K.tr + 1, tm := t, nd := false } 4 B4.out).mono ?_
  rintro e W5 ⟨rfl, hk5⟩
  have B5 := Lib.hid (B4.out.keepS hk5 (by simp))
  have Q5 := Lib.hid (Q4.out.keepS hk5 (by simp))
  have K5 : Hid (Keep w.heap.size [p] w W5) := Lib.hid (K4.out.trans (hk5.mono K4.out.size (by simp)))
  clear hk5 c8 c22 f22
  go_upto_region 21 with fail
  obtain ⟨W6, q2, hW6, hq2, bq2, ka2⟩ : ∃ (W6 : World) (q2 : Nat), W6 = W5.alloc (.cells (pcs (zeroP 4 1 7) zL) TP) ∧ q2 = W5.heap.size ∧ Blk W6 q2 TP (pcs (zeroP 4 1 7) ⟨none, 0, 0, none, 0, 0⟩) ∧ Keep W5.heap.size [] W5 W6 := ⟨_, _, rfl, rfl, Blk.new _ _ _, (Keep.refl _ _ _).alloc (Nat.le_refl _) _⟩
  change Code.wp _ _ _ _ (W5.alloc (.cells (pcs (zeroP 4 1 7) zL) TP))
  rw [← hW6, ← hq2]
  have B6 := Lib.hid (B5.out.keepS ka2 (by simp))
  have Q6 := Lib.hid (Q5.out.keepS ka2 (by simp))
  have K6 : Hid (Keep w.heap.size [p] w W6) := Lib.hid (K5.out.trans (ka2.mono K5.out.size (by simp)))
  have hpq2 : p ≠ q2 := by have := B5.out.lt; omega
  have hq2p : q2 ≠ p := hpq2.symm
  have hqq2 : q ≠ q2 := by have := Q5.out.lt; omega
  have hq2q : q2 ≠ q := hqq2.symm
  have HL5 : Hid (W5.heap.size ≤ q2) := Lib.hid (Nat.le_of_eq hq2.symm)
  have HQ2 : Hid (w.heap.size ≤ q2) := Lib.hid (by rw [hq2]; exact K5.out.size)
  have R6 := Lib.hid bq2
  have c11 : W6.cell? ⟨p, 11, none⟩ = some (.bool K.named) := B6.out.cell 11
  clear hW6 hq2 bq2 ka2
  cases hnm : K.named
  · rw [hnm] at c11
    have z10 : W6.cell? ⟨q2, 10, none⟩ = some (.slice none 0 0) := R6.out.cell 10
    have z10f := R6.out.frozen 10
    obtain ⟨i0, hi0, hz0, hz1, hz2⟩ := info_parts infoRg
    go_upto_region 22 with fail
    go_wp2_with (
      at_builtin
      refine wpList_app1 _ rfl (.tmp 135) (.tmp 137) 83 rfl 158 i0 _ 2 16 Try.underlying83 hi0 hz0 hz1 hz2 rfl (by omega) none 0 0 (gcs []) rfl (by exact Sl.nil _ _ _) _ _ _ rfl (by exact Blk.new W6 TG #[.int .i64 0, .int .i64 0]) rfl rfl (by omega) (by omega) ?_
      intro A0 c0 W7 hs7 hk7 hb7
      have ka7 : Keep W6.heap.size [] W6 (W6.alloc (.cells #[.int .i64 0, .int .i64 0] TG)) := (Keep.refl _ _ _).alloc (Nat.le_refl _) _
      have k67 : Keep W6.heap.size [] W6 W7 := ka7.chain (Nat.le_refl _) hk7 (by simp [blks])
      have S7 : Hid (Sl W7 TG 2 A0 1 c0 (gcs [(⟨0, 0⟩ : Gp)])) := Lib.hid hs7
      have FA0 : Hid (∀ y, y ∈ blks A0 → W6.heap.size ≤ y) := Lib.hid (fun y hy => by rcases hb7 y hy with h9 | h9; simp [blks] at h9; rw [h9]; exact ka7.size)
      have B7 := Lib.hid (B6.out.keepS k67 (by simp))
      have Q7 := Lib.hid (Q6.out.keepS k67 (by simp))
      have R7 := Lib.hid (R6.out.keepS k67 (by simp))
      have K7 : Hid (Keep w.heap.size [p] w W7) := Lib.hid (K6.out.trans (k67.mono K6.out.size (by simp)))
      have y10 : W7.cell? ⟨q2, 10, none⟩ = some (.slice none 0 0) := R7.out.cell 10
      have y10f := R7.out.frozen 10
      clear hs7 hk7 hb7 ka7 k67)
    have B8 : Hid (Blk (W7.setCell ⟨q2, 10, none⟩ (.slice A0 1 c0)) p TK (kcs F c l { K with now := t, tr := K.tr + 1, tm := t, nd := false })) := Lib.hid (B7.out.far hpq2 _)
    have Q8 : Hid (Blk (W7.setCell ⟨q2, 10, none⟩ (.slice A0 1 c0)) q TP zcs) := Lib.hid (Q7.out.far hqq2 _)
    have R8 : Hid (Blk (W7.setCell ⟨q2, 10, none⟩ (.slice A0 1 c0)) q2 TP (pcs (zeroP 4 1 7) ⟨none, 0, 0, A0, 1, c0⟩)) := Lib.hid (R7.out.set_ 10 _)
    have K8 : Hid (Keep w.heap.size [p] w (W7.setCell ⟨q2, 10, none⟩ (.slice A0 1 c0))) := Lib.hid (K7.out.setN HQ2.out)
    have S8 : Hid (Sl (W7.setCell ⟨q2, 10, none⟩ (.slice A0 1 c0)) TG 2 A0 1 c0 (gcs [(⟨0, 0⟩ : Gp)])) := Lib.hid (S7.out.far _ (fun hm => by have := FA0.out _ hm; have := R6.out.lt; simp only at *; omega))
    have F8 : Hid (∀ y, y ∈ blks A0 → q2 < y) := Lib.hid (fun y hy => by have := FA0.out y hy; have := R6.out.lt; omega)
    obtain ⟨W8, hW8⟩ : ∃ V, V = W7.setCell ⟨q2, 10, none⟩ (.slice A0 1 c0) := ⟨_, rfl⟩
    rw [← hW8] at B8 Q8 R8 K8 S8 ⊢
    clear hW8 c11
    go_wp2_with fail
    have AT8 : Hid (SkAt W8 p F c l { K with now := t, tr := K.tr + 1, tm := t, nd := false }) := Lib.hid (HS.out.same rfl rfl B8.out K8.out)
    refine (kmissing_w _ p F c l { K with now := t, tr := K.tr + 1, tm := t, nd := false } (.inr hfin) (by have := hgl; simp only; omega) hn (AT8.out.got.vw (by omega)) B8.out).mono ?_
    rintro e W9 ⟨Y, yc, N, rfl, hs9, hn9, hm9, hl9, hk9, hf9⟩
    have SN9 := Lib.hid hs9
    have HN9 := Lib.hid hn9
    have HM9 := Lib.hid hm9
    have B9 := Lib.hid (B8.out.keepS hk9 (by simp))
    have Q9 := Lib.hid (Q8.out.keepS hk9 (by simp))
    have R9 := Lib.hid (R8.out.keepS hk9 (by simp))
    have S9 := Lib.hid (S8.out.keep0 hk9)
    have K9 : Hid (Keep w.heap.size [p] w W9) := Lib.hid (K8.out.trans (hk9.mono K8.out.size (by simp)))
    have HR9 : Hid (q2 < W8.heap.size) := Lib.hid R8.out.lt
    have F9 : Hid (∀ y, y ∈ blks Y → W8.heap.size ≤ y) := Lib.hid hf9
    have hNc := hs9.cap
    clear hs9 hn9 hm9 hk9 hf9
    go_wp2_with fail
    go_loopw [143] (fun jj wr => ∃ (k : Nat) (A : Option Addr) (cg : Nat), k ≤ N.length ∧ jj = .int .i64 k ∧ Sl wr TG 2 A (1 + min k 15) cg (gcs ([(⟨0, 0⟩ : Gp)] ++ N.take (min k 15))) ∧ Blk wr q2 TP (pcs (zeroP 4 1 7) ⟨none, 0, 0, A, 1 + min k 15, cg⟩) ∧ Keep W9.heap.size (q2 :: blks A0) W9 wr ∧ ∀ y, y ∈ blks A → y ∈ blks A0 ∨ W9.heap.size ≤ y) (fun jj _ => N.length - (intOf jj).toNat)
    case atStart => exact ⟨0, A0, c0, Nat.zero_le _, rfl, S9.out, R9.out, Keep.refl _ _ _, fun y hy => .inl hy⟩
    case round =>
      obtain ⟨k, A, cg, hk, rfl, hsl, hbr, hkw, hfA⟩ := hrel
      have SL := Lib.hid hsl
      have BR := Lib.hid hbr
      have KW := Lib.hid hkw
      have FA := Lib.hid hfA
      clear hsl hbr hkw hfA
      have hA0q : ∀ y, y ∈ q2 :: blks A0 → y ≠ p ∧ y ≠ q := fun y hy => by
        rcases List.mem_cons.1 hy with h9 | h9
        · subst h9; exact ⟨hq2p, hq2q⟩
        · have := F8.out y h9; have := B5.out.lt; have := Q5.out.lt; have := HL5.out; omega
      have hYA : ∀ g, g ∈ blks Y → g ∉ q2 :: blks A0 := fun g hg hm => by
        have h1 := F9.out g hg
        rcases List.mem_cons.1 hm with h9 | h9
        · have := HR9.out; omega
        · have := S8.out.blk h9; omega
      have HYA := Lib.hid hYA
      have HA0 := Lib.hid hA0q
      clear hYA hA0q
      by_cases hlt : k < N.length
      · have hki : (k : Int) < (N.length : Int) := by omega
        obtain ⟨b2, o', r, rfl, hrk, d0, d1⟩ := gap_at ((SN9.out.vw (by omega)).keepS KW.out HYA.out) hlt
        have RK := Lib.hid hrk
        clear hrk
        obtain ⟨V1, hV1⟩ : ∃ V, V = wr.alloc (.cells #[.int .i64 r.f, .int .i64 r.t] TG) := ⟨_, rfl⟩
        obtain ⟨q4, hq4⟩ : ∃ x, x = wr.heap.size := ⟨_, rfl⟩
        have ka : Keep wr.heap.size [] wr V1 := by rw [hV1]; exact (Keep.refl _ _ _).alloc (Nat.le_refl _) _
        have BV : Hid (Blk V1 q4 TG #[.int .i64 r.f, .int .i64 r.t]) := Lib.hid (by rw [hV1, hq4]; exact Blk.new _ _ _)
        have SL1 := Lib.hid (SL.out.keep0 ka)
        have BR1 := Lib.hid (BR.out.keepS ka (by simp))
        have KW1 : Hid (Keep W9.heap.size (q2 :: blks A0) W9 V1) := Lib.hid (KW.out.trans (ka.mono KW.out.size (by simp)))
        have z10 : V1.cell? ⟨q2, 10, none⟩ = some (.slice A (1 + min k 15) cg) := BR1.out.cell 10
        have z10f := BR1.out.frozen 10
        have v0 : V1.cell? ⟨q4, 0, none⟩ = some (.int .i64 r.f) := BV.out.cell 0
        have v1 : V1.cell? ⟨q4, 1, none⟩ = some (.int .i64 r.t) := BV.out.cell 1
        clear ka
        go_upto_region 26 with fail
        change Code.wp _ _ _ _ (wr.alloc (.cells #[.int .i64 r.f, .int .i64 r.t] TG))
        rw [← hV1, ← hq4]
        clear hV1 hq4
        by_cases hlim : k < 15
        · have hmk : min k 15 = k := by omega
          have hmk1 : min (k + 1) 15 = k + 1 := by omega
          rw [hmk] at z10
          have hl16 : ((1 + k : Nat) : Int) < 16 := by omega
          have SL2 := SL1.out
          rw [hmk] at SL2
          have SL3 := Lib.hid SL2
          clear SL2
          obtain ⟨i0, hi0, hz0, hz1, hz2⟩ := info_parts infoRg
          obtain ⟨ng, hng⟩ : ∃ x, x = 1 + k := ⟨_, rfl⟩
          rw [← hng] at z10 hl16 SL3
          have HNG := Lib.hid hng
          have hngb : ng ≤ 16 := by omega
          clear hng
          go_upto_region 27 with fail
          go_wp2_with (
            at_builtin
            refine wpList_app1 _ rfl (.tmp 152) (.tmp 154) 83 rfl 158 i0 _ 2 16 Try.underlying83 hi0 hz0 hz1 hz2 rfl (by omega) A ng cg (gcs ([(⟨0, 0⟩ : Gp)] ++ N.take k)) rfl (by exact SL3.out.alloc _) _ _ _ rfl (by exact Blk.new V1 TG #[.int .i64 r.f, .int .i64 r.t]) rfl rfl (by omega) (by omega) ?_
            intro A5 c5 V5 hs5 hk5 hb5
            have ka5 : Keep V1.heap.size [] V1 (V1.alloc (.cells #[.int .i64 r.f, .int .i64 r.t] TG)) := (Keep.refl _ _ _).alloc (Nat.le_refl _) _
            have kz5 := ka5.size
            have e5 : gcs ([(⟨0, 0⟩ : Gp)] ++ N.take k) ++ (#[Value.int .i64 r.f, .int .i64 r.t]).toList = gcs ([(⟨0, 0⟩ : Gp)] ++ N.take (k + 1)) := by rw [List.take_add_one, RK.out]; simp [gcs, gcells]
            rw [e5] at hs5
            have S5 := Lib.hid hs5
            have FA5 : Hid (∀ y, y ∈ blks A5 → y ∈ blks A0 ∨ W9.heap.size ≤ y) := Lib.hid (fun y hy => by rcases hb5 y hy with h9 | h9; exact FA.out y h9; right; rw [h9]; exact Nat.le_trans KW1.out.size kz5)
            have hq2A : q2 ∉ blks A := fun hm => by rcases FA.out _ hm with h9 | h9; have := F8.out _ h9; omega; have := R9.out.lt; omega
            have BR5 : Hid (Blk V5 q2 TP (pcs (zeroP 4 1 7) ⟨none, 0, 0, A, 1 + min k 15, cg⟩)) := Lib.hid ((BR1.out.alloc _).keepS hk5 hq2A)
            have K5' : Hid (Keep W9.heap.size (q2 :: blks A0) W9 V5) := Lib.hid ((KW1.out.alloc KW1.out.size _).trans (hk5.mono (Nat.le_trans KW1.out.size kz5) (fun y hy hm => by rcases FA.out y hm with h9 | h9; simp [h9]; omega)))
            have hq2A5 : q2 ∉ blks A5 := fun hm => by rcases FA5.out _ hm with h9 | h9; have := F8.out _ h9; omega; have := R9.out.lt; omega
            have HQA5 := Lib.hid hq2A5
            have y10 : V5.cell? ⟨q2, 10, none⟩ = some (.slice A (1 + min k 15) cg) := BR5.out.cell 10
            have y10f := BR5.out.frozen 10
            clear hs5 hk5 hb5 ka5 kz5 hq2A hq2A5 e5)
          go_roundw
          case rel =>
            refine ⟨k + 1, A5, c5, by omega, by go_num, ?_, ?_, K5'.out.setS (by simp), FA5.out⟩
            · rw [hmk1, show 1 + (k + 1) = ng + 1 by have := HNG.out; omega]; exact S5.out.far _ HQA5.out
            · rw [hmk1, show 1 + (k + 1) = ng + 1 by have := HNG.out; omega]; exact BR5.out.set_ 10 _
          case measure => simp [intOf] <;> omega
        · have hmk : min k 15 = 15 := by omega
          have hmk1 : min (k + 1) 15 = 15 := by omega
          rw [hmk] at z10
          go_wp2_with fail
          go_roundw
          case rel =>
            refine ⟨k + 1, A, cg, by omega, by go_num, ?_, ?_, KW1.out, FA.out⟩
            · rw [hmk1, ← hmk]; exact SL1.out
            · rw [hmk1, ← hmk]; exact BR1.out
          case measure => simp [intOf] <;> omega
      · obtain rfl : k = N.length := by omega
        have etk : N.take (min N.length 15) = N.take 15 := by rcases Nat.le_total N.length 15 with h9 | h9; rw [Nat.min_eq_left h9, List.take_length, List.take_of_length_le h9]; rw [Nat.min_eq_right h9]
        have sl := SL.out
        rw [etk] at sl
        have ngb : 1 + min N.length 15 ≤ 16 := by omega
        obtain ⟨ng, hng⟩ : ∃ x, x = 1 + min N.length 15 := ⟨_, rfl⟩
        rw [← hng] at sl ngb
        have br := BR.out
        rw [← hng] at br
        have SLF := Lib.hid sl
        have br2 : Blk wr q2 TP (pcs (upd F (.nk true (N.take 15))) ⟨none, 0, 0, A, ng, cg⟩) := br
        have BRF := Lib.hid br2
        have BPF := Lib.hid (B9.out.keepS KW.out (fun hm => (HA0.out p hm).1 rfl))
        have BQF := Lib.hid (Q9.out.keepS KW.out (fun hm => (HA0.out q hm).2 rfl))
        have KF9 : Hid (Keep w.heap.size [p] w wr) := Lib.hid (K9.out.trans (KW.out.mono K9.out.size (fun y hy hm => by rcases List.mem_cons.1 hm with h9 | h9; have := HQ2.out; omega; have := F8.out y h9; have := HQ2.out; omega)))
        clear sl br br2 hng
        go_wp2_with (first
          | (refine wpList_load_mid rfl TP (.tmp 6) rfl q2 0 rfl (pcs (upd F (.nk true (N.take 15))) ⟨none, 0, 0, A, ng, cg⟩).toList _ BRF.out.range Try.underlying85 rfl (by rw [infoPd]; rfl) ?_)
          | (refine wpList_store_mid rfl TP (.tmp 4) (.tmp 158) rfl q 0 (pcs (upd F (.nk true (N.take 15))) ⟨none, 0, 0, A, ng, cg⟩) rfl rfl (by refine thereQ ?_; repeat (first | with_reducible exact BQF.out | refine Blk.far ?_ hqp _)) infoPd (by exact upd_cells _ _) ?_))
        refine bodyPost_ret (kres_Next _ _ q (upd F (.nk true (N.take 15))) (⟨none, 0, 0, A, ng, cg⟩) true rfl rfl (by refine Blk.setAll (cs := zcs) (vs := pcs (upd F (.nk true (N.take 15))) (⟨none, 0, 0, A, ng, cg⟩)) ?_ rfl; repeat (first | with_reducible exact BQF.out | refine Blk.far ?_ hqp _))) rfl ?_
        have KF : Keep w.heap.size [p] w (wr.setCells q 0 (pcs (upd F (.nk true (N.take 15))) ⟨none, 0, 0, A, ng, cg⟩).toList) := Keep.setCells (.inl (by rw [HQ.out]; exact Nat.le_refl _)) _ _ _  KF9.out
        have kq : Keep wr.heap.size [q] wr (wr.setCells q 0 (pcs (upd F (.nk true (N.take 15))) ⟨none, 0, 0, A, ng, cg⟩).toList) := Keep.setCells (.inr (by simp)) _ _ _ (Keep.refl _ _ _)
        have hAq : ∀ y, y ∈ blks A → q < y := fun y hy => by rcases FA.out y hy with h9 | h9; have := F8.out y h9; have := HL5.out; have := Q5.out.lt; omega; have := Q9.out.lt; omega
        have hq : NextK F.length t K { tick t K with nd := false } (some (.nk (!K.named) (N.take (if K.named then 16 else 15)))) := .nk N ha hp (by rw [tick_go htt]; show (K.nd || K.fin) = true; rw [hnd, hfin]; rfl) HN9.out HM9.out
        rw [show K.named = false from hnm] at hq
        rw [tick_go htt] at hq
        refine ⟨_, some (.nk true (N.take 15)), hq, HS.out.same rfl rfl (Blk.setCellsFar hpq _ _ _ BPF.out) KF, KF, _, rfl, ⟨(by intro x hx; cases hx), (by intro x hx; cases hx), Vw.nil _ _, (SLF.out.keepS kq (fun g hg => by have := hAq g hg; simp; omega)).vw (by omega), ⟨Nat.le_refl _, Nat.zero_le _⟩, SLF.out.cap, by simp [upd], Nat.zero_le _, by simp only; omega, by simp [upd]⟩, fun y hy => ?_⟩
        simp only [blks, List.nil_append] at hy
        have := hAq y hy
        have := HQ.out
        omega
  · rw [hnm] at c11
    go_upto_region 23 with fail
    obtain ⟨W8, hW8⟩ : ∃ V, V = W6 := ⟨_, rfl⟩
    obtain ⟨A0, hA0⟩ : ∃ A : Option Addr, A = none := ⟨_, rfl⟩
    obtain ⟨c0, hc0⟩ : ∃ x : Nat, x = 0 := ⟨_, rfl⟩
    have B8 : Hid (Blk W8 p TK (kcs F c l { K with now := t, tr := K.tr + 1, tm := t, nd := false })) := Lib.hid (hW8 ▸ B6.out)
    have Q8 : Hid (Blk W8 q TP zcs) := Lib.hid (hW8 ▸ Q6.out)
    have R8 : Hid (Blk W8 q2 TP (pcs (zeroP 4 1 7) ⟨none, 0, 0, A0, 0, c0⟩)) := Lib.hid (by rw [hW8, hA0, hc0]; exact R6.out)
    have K8 : Hid (Keep w.heap.size [p] w W8) := Lib.hid (hW8 ▸ K6.out)
    have S8 : Hid (Sl W8 TG 2 A0 0 c0 (gcs [])) := Lib.hid (by rw [hA0, hc0]; exact Sl.nil _ _ _)
    have F8 : Hid (∀ y, y ∈ blks A0 → q2 < y) := Lib.hid (by rw [hA0]; simp [blks])
    rw [← hW8]
    clear hA0 hc0
    clear hW8 c11
    go_wp2_with fail
    have AT8 : Hid (SkAt W8 p F c l { K with now := t, tr := K.tr + 1, tm := t, nd := false }) := Lib.hid (HS.out.same rfl rfl B8.out K8.out)
    refine (kmissing_w _ p F c l { K with now := t, tr := K.tr + 1, tm := t, nd := false } (.inr hfin) (by have := hgl; simp only; omega) hn (AT8.out.got.vw (by omega)) B8.out).mono ?_
    rintro e W9 ⟨Y, yc, N, rfl, hs9, hn9, hm9, hl9, hk9, hf9⟩
    have SN9 := Lib.hid hs9
    have HN9 := Lib.hid hn9
    have HM9 := Lib.hid hm9
    have B9 := Lib.hid (B8.out.keepS hk9 (by simp))
    have Q9 := Lib.hid (Q8.out.keepS hk9 (by simp))
    have R9 := Lib.hid (R8.out.keepS hk9 (by simp))
    have S9 := Lib.hid (S8.out.keep0 hk9)
    have K9 : Hid (Keep w.heap.size [p] w W9) := Lib.hid (K8.out.trans (hk9.mono K8.out.size (by simp)))
    have HR9 : Hid (q2 < W8.heap.size) := Lib.hid R8.out.lt
    have F9 : Hid (∀ y, y ∈ blks Y → W8.heap.size ≤ y) := Lib.hid hf9
    have hNc := hs9.cap
    clear hs9 hn9 hm9 hk9 hf9
    go_wp2_with fail
    go_loopw [143] (fun jj wr => ∃ (k : Nat) (A : Option Addr) (cg : Nat), k ≤ N.length ∧ jj = .int .i64 k ∧ Sl wr TG 2 A (0 + min k 16) cg (gcs (([] : List Gp) ++ N.take (min k 16))) ∧ Blk wr q2 TP (pcs (zeroP 4 1 7) ⟨none, 0, 0, A, 0 + min k 16, cg⟩) ∧ Keep W9.heap.size (q2 :: blks A0) W9 wr ∧ ∀ y, y ∈ blks A → y ∈ blks A0 ∨ W9.heap.size ≤ y) (fun jj _ => N.length - (intOf jj).toNat)
    case atStart => exact ⟨0, A0, c0, Nat.zero_le _, rfl, S9.out, R9.out, Keep.refl _ _ _, fun y hy => .inl hy⟩
    case round =>
      obtain ⟨k, A, cg, hk, rfl, hsl, hbr, hkw, hfA⟩ := hrel
      have SL := Lib.hid hsl
      have BR := Lib.hid hbr
      have KW := Lib.hid hkw
      have FA := Lib.hid hfA
      clear hsl hbr hkw hfA
      have hA0q : ∀ y, y ∈ q2 :: blks A0 → y ≠ p ∧ y ≠ q := fun y hy => by
        rcases List.mem_cons.1 hy with h9 | h9
        · subst h9; exact ⟨hq2p, hq2q⟩
        · have := F8.out y h9; have := B5.out.lt; have := Q5.out.lt; have := HL5.out; omega
      have hYA : ∀ g, g ∈ blks Y → g ∉ q2 :: blks A0 := fun g hg hm => by
        have h1 := F9.out g hg
        rcases List.mem_cons.1 hm with h9 | h9
        · have := HR9.out; omega
        · have := S8.out.blk h9; omega
      have HYA := Lib.hid hYA
      have HA0 := Lib.hid hA0q
      clear hYA hA0q
      by_cases hlt : k < N.length
      · have hki : (k : Int) < (N.length : Int) := by omega
        obtain ⟨b2, o', r, rfl, hrk, d0, d1⟩ := gap_at ((SN9.out.vw (by omega)).keepS KW.out HYA.out) hlt
        have RK := Lib.hid hrk
        clear hrk
        obtain ⟨V1, hV1⟩ : ∃ V, V = wr.alloc (.cells #[.int .i64 r.f, .int .i64 r.t] TG) := ⟨_, rfl⟩
        obtain ⟨q4, hq4⟩ : ∃ x, x = wr.heap.size := ⟨_, rfl⟩
        have ka : Keep wr.heap.size [] wr V1 := by rw [hV1]; exact (Keep.refl _ _ _).alloc (Nat.le_refl _) _
        have BV : Hid (Blk V1 q4 TG #[.int .i64 r.f, .int .i64 r.t]) := Lib.hid (by rw [hV1, hq4]; exact Blk.new _ _ _)
        have SL1 := Lib.hid (SL.out.keep0 ka)
        have BR1 := Lib.hid (BR.out.keepS ka (by simp))
        have KW1 : Hid (Keep W9.heap.size (q2 :: blks A0) W9 V1) := Lib.hid (KW.out.trans (ka.mono KW.out.size (by simp)))
        have z10 : V1.cell? ⟨q2, 10, none⟩ = some (.slice A (0 + min k 16) cg) := BR1.out.cell 10
        have z10f := BR1.out.frozen 10
        have v0 : V1.cell? ⟨q4, 0, none⟩ = some (.int .i64 r.f) := BV.out.cell 0
        have v1 : V1.cell? ⟨q4, 1, none⟩ = some (.int .i64 r.t) := BV.out.cell 1
        clear ka
        go_upto_region 26 with fail
        change Code.wp _ _ _ _ (wr.alloc (.cells #[.int .i64 r.f, .int .i64 r.t] TG))
        rw [← hV1, ← hq4]
        clear hV1 hq4
        by_cases hlim : k < 16
        · have hmk : min k 16 = k := by omega
          have hmk1 : min (k + 1) 16 = k + 1 := by omega
          rw [hmk] at z10
          have hl16 : ((0 + k : Nat) : Int) < 16 := by omega
          have SL2 := SL1.out
          rw [hmk] at SL2
          have SL3 := Lib.hid SL2
          clear SL2
          obtain ⟨i0, hi0, hz0, hz1, hz2⟩ := info_parts infoRg
          obtain ⟨ng, hng⟩ : ∃ x, x = 0 + k := ⟨_, rfl⟩
          rw [← hng] at z10 hl16 SL3
          have HNG := Lib.hid hng
          have hngb : ng ≤ 16 := by omega
          clear hng
          go_upto_region 27 with fail
          go_wp2_with (
            at_builtin
            refine wpList_app1 _ rfl (.tmp 152) (.tmp 154) 83 rfl 158 i0 _ 2 16 Try.underlying83 hi0 hz0 hz1 hz2 rfl (by omega) A ng cg (gcs (([] : List Gp) ++ N.take k)) rfl (by exact SL3.out.alloc _) _ _ _ rfl (by exact Blk.new V1 TG #[.int .i64 r.f, .int .i64 r.t]) rfl rfl (by omega) (by omega) ?_
            intro A5 c5 V5 hs5 hk5 hb5
            have ka5 : Keep V1.heap.size [] V1 (V1.alloc (.cells #[.int .i64 r.f, .int .i64 r.t] TG)) := (Keep.refl _ _ _).alloc (Nat.le_refl _) _
            have kz5 := ka5.size
            have e5 : gcs (([] : List Gp) ++ N.take k) ++ (#[Value.int .i64 r.f, .int .i64 r.t]).toList = gcs (([] : List Gp) ++ N.take (k + 1)) := by rw [List.take_add_one, RK.out]; simp [gcs, gcells]
            rw [e5] at hs5
            have S5 := Lib.hid hs5
            have FA5 : Hid (∀ y, y ∈ blks A5 → y ∈ blks A0 ∨ W9.heap.size ≤ y) := Lib.hid (fun y hy => by rcases hb5 y hy with h9 | h9; exact FA.out y h9; right; rw [h9]; exact Nat.le_trans KW1.out.size kz5)
            have hq2A : q2 ∉ blks A := fun hm => by rcases FA.out _ hm with h9 | h9; have := F8.out _ h9; omega; have := R9.out.lt; omega
            have BR5 : Hid (Blk V5 q2 TP (pcs (zeroP 4 1 7) ⟨none, 0, 0, A, 0 + min k 16, cg⟩)) := Lib.hid ((BR1.out.alloc _).keepS hk5 hq2A)
            have K5' : Hid (Keep W9.heap.size (q2 :: blks A0) W9 V5) := Lib.hid ((KW1.out.alloc KW1.out.size _).trans (hk5.mono (Nat.le_trans KW1.out.size kz5) (fun y hy hm => by rcases FA.out y hm with h9 | h9; simp [h9]; omega)))
            have hq2A5 : q2 ∉ blks A5 := fun hm => by rcases FA5.out _ hm with h9 | h9; have := F8.out _ h9; omega; have := R9.out.lt; omega
            have HQA5 := Lib.hid hq2A5
            have y10 : V5.cell? ⟨q2, 10, none⟩ = some (.slice A (0 + min k 16) cg) := BR5.out.cell 10
            have y10f := BR5.out.frozen 10
            clear hs5 hk5 hb5 ka5 kz5 hq2A hq2A5 e5)
          go_roundw
          case rel =>
            refine ⟨k + 1, A5, c5, by omega, by go_num, ?_, ?_, K5'.out.setS (by simp), FA5.out⟩
            · rw [hmk1, show 0 + (k + 1) = ng + 1 by have := HNG.out; omega]; exact S5.out.far _ HQA5.out
            · rw [hmk1, show 0 + (k + 1) = ng + 1 by have := HNG.out; omega]; exact BR5.out.set_ 10 _
          case measure => simp [intOf] <;> omega
        · have hmk : min k 16 = 16 := by omega
          have hmk1 : min (k + 1) 16 = 16 := by omega
          rw [hmk] at z10
          go_wp2_with fail
          go_roundw
          case rel =>
            refine ⟨k + 1, A, cg, by omega, by go_num, ?_, ?_, KW1.out, FA.out⟩
            · rw [hmk1, ← hmk]; exact SL1.out
            · rw [hmk1, ← hmk]; exact BR1.out
          case measure => simp [intOf] <;> omega
      · obtain rfl : k = N.length := by omega
        have etk : N.take (min N.length 16) = N.take 16 := by rcases Nat.le_total N.length 16 with h9 | h9; rw [Nat.min_eq_left h9, List.take_length, List.take_of_length_le h9]; rw [Nat.min_eq_right h9]
        have sl := SL.out
        rw [etk] at sl
        have ngb : 0 + min N.length 16 ≤ 16 := by omega
        obtain ⟨ng, hng⟩ : ∃ x, x = 0 + min N.length 16 := ⟨_, rfl⟩
        rw [← hng] at sl ngb
        have br := BR.out
        rw [← hng] at br
        have SLF := Lib.hid sl
        have br2 : Blk wr q2 TP (pcs (upd F (.nk false (N.take 16))) ⟨none, 0, 0, A, ng, cg⟩) := br
        have BRF := Lib.hid br2
        have BPF := Lib.hid (B9.out.keepS KW.out (fun hm => (HA0.out p hm).1 rfl))
        have BQF := Lib.hid (Q9.out.keepS KW.out (fun hm => (HA0.out q hm).2 rfl))
        have KF9 : Hid (Keep w.heap.size [p] w wr) := Lib.hid (K9.out.trans (KW.out.mono K9.out.size (fun y hy hm => by rcases List.mem_cons.1 hm with h9 | h9; have := HQ2.out; omega; have := F8.out y h9; have := HQ2.out; omega)))
        clear sl br br2 hng
        go_wp2_with (first
          | (refine wpList_load_mid rfl TP (.tmp 6) rfl q2 0 rfl (pcs (upd F (.nk false (N.take 16))) ⟨none, 0, 0, A, ng, cg⟩).toList _ BRF.out.range Try.underlying85 rfl (by rw [infoPd]; rfl) ?_)
          | (refine wpList_store_mid rfl TP (.tmp 4) (.tmp 158) rfl q 0 (pcs (upd F (.nk false (N.take 16))) ⟨none, 0, 0, A, ng, cg⟩) rfl rfl (by refine thereQ ?_; repeat (first | with_reducible exact BQF.out | refine Blk.far ?_ hqp _)) infoPd (by exact upd_cells _ _) ?_))
        refine bodyPost_ret (kres_Next _ _ q (upd F (.nk false (N.take 16))) (⟨none, 0, 0, A, ng, cg⟩) true rfl rfl (by refine Blk.setAll (cs := zcs) (vs := pcs (upd F (.nk false (N.take 16))) (⟨none, 0, 0, A, ng, cg⟩)) ?_ rfl; repeat (first | with_reducible exact BQF.out | refine Blk.far ?_ hqp _))) rfl ?_
        have KF : Keep w.heap.size [p] w (wr.setCells q 0 (pcs (upd F (.nk false (N.take 16))) ⟨none, 0, 0, A, ng, cg⟩).toList) := Keep.setCells (.inl (by rw [HQ.out]; exact Nat.le_refl _)) _ _ _  KF9.out
        have kq : Keep wr.heap.size [q] wr (wr.setCells q 0 (pcs (upd F (.nk false (N.take 16))) ⟨none, 0, 0, A, ng, cg⟩).toList) := Keep.setCells (.inr (by simp)) _ _ _ (Keep.refl _ _ _)
        have hAq : ∀ y, y ∈ blks A → q < y := fun y hy => by rcases FA.out y hy with h9 | h9; have := F8.out y h9; have := HL5.out; have := Q5.out.lt; omega; have := Q9.out.lt; omega
        have hq : NextK F.length t K { tick t K with nd := false } (some (.nk (!K.named) (N.take (if K.named then 16 else 15)))) := .nk N ha hp (by rw [tick_go htt]; show (K.nd || K.fin) = true; rw [hnd, hfin]; rfl) HN9.out HM9.out
        rw [show K.named = true from hnm] at hq
        rw [tick_go htt] at hq
        refine ⟨_, some (.nk false (N.take 16)), hq, HS.out.same rfl rfl (Blk.setCellsFar hpq _ _ _ BPF.out) KF, KF, _, rfl, ⟨(by intro x hx; cases hx), (by intro x hx; cases hx), Vw.nil _ _, (SLF.out.keepS kq (fun g hg => by have := hAq g hg; simp; omega)).vw (by omega), ⟨Nat.le_refl _, Nat.zero_le _⟩, SLF.out.cap, by simp [upd], Nat.zero_le _, by simp only; omega, by simp [upd]⟩, fun y hy => ?_⟩
        simp only [blks, List.nil_append] at hy
        have := hAq y hy
        have := HQ.out
        omega
end Go.Proofs.Ytfkbcflgbjncdaa
