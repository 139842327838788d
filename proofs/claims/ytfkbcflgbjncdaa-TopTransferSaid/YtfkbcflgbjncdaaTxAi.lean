/- The receiving end: Missing, Next. -/
import Derived.Test.YtfkbcflgbjncdaaTxR
import Derived.Test.YtfkbcflgbjncdaaTxAd
namespace Go.Proofs.Ytfkbcflgbjncdaa
set_option linter.unusedVariables false
set_option linter.unusedSimpArgs false
open Go.RowKit
theorem ktotal_k (w : World) (p : Nat) (F : List Int) (c : Nat) (l : Ly) (K : Sk) (hk : K.named = true ∨ K.fin = true) (hb : Blk w p TK (kcs F c l K)) : Calls Try.prog 100 #[ptr p] w fun e w' => e = .returned (.tuple #[.int .i64 F.length, .bool true]) ∧ Keep w.heap.size [] w w' := by
  cases hn : K.named with
  | true => exact ktotal_n w p F c l K hn hb
  | false =>
    have hf : K.fin = true := by rcases hk with h | h; rw [hn] at h; cases h; exact h
    have := ktotal_u w p F c l K hn hb
    rw [hf] at this
    exact this
set_option maxRecDepth 100000 in
set_option maxHeartbeats 4000000 in
theorem kmissing_w (w : World) (p : Nat) (F : List Int) (c : Nat) (l : Ly) (K : Sk) (hk : K.named = true ∨ K.fin = true) (hgl : K.got.length ≤ 1000) (hn : F.length ≤ 300) (hg : Vw w l.W K.got.length 2 (gcs K.got)) (hb : Blk w p TK (kcs F c l K)) : Calls Try.prog 39 #[ptr p] w fun e w' => RnPost w (fun z => (0 ≤ z ∧ z < (F.length : Int)) ∧ ¬ mem K.got z) 1000 e w' := by
  have HB := Lib.hid hb
  have HG := Lib.hid hg
  clear hb hg
  go_enter Try.func39, Try.ntmps39
  go_wp2_with fail
  refine (kok_w _ p F c l K HB.out).mono ?_
  rintro e w1 ⟨rfl, rfl⟩
  go_wp2_with fail
  refine (ktotal_k _ p F c l K hk HB.out).mono ?_
  rintro e w2 ⟨rfl, hk2⟩
  have c18 : w2.cell? ⟨p, 18, none⟩ = some (.slice l.W K.got.length l.wc) := (HB.out.keepS hk2 (by simp)).cell 18
  have K2 := Lib.hid hk2
  clear hk2
  go_wp2_with fail
  refine (missing_w _ l.W _ l.wc _ F.length (by omega) (by omega) (by omega) (by exact HG.out.keep0 K2.out)).mono ?_
  rintro e w3 ⟨Y, yc, N, rfl, hs3, hn3, hm3, hl3, hk3, hf3⟩
  have S3 := Lib.hid hs3
  have M3 := Lib.hid hm3
  have K3 : Hid (Keep w1.heap.size [] w1 w3) := Lib.hid (K2.out.chain0 (Nat.le_refl _) hk3)
  have F3 : Hid (∀ y, y ∈ blks Y → w1.heap.size ≤ y) := Lib.hid (fun y hy => Nat.le_trans K2.out.size (hf3 y hy))
  clear hs3 hm3 hk3 hf3
  go_wp2_with fail
  go_ret
  exact ⟨Y, yc, N, rfl, S3.out, hn3, M3.out, hl3, K3.out, F3.out⟩
def KxPost (w : World) (p : Nat) (F : List Int) (c t : Nat) (l : Ly) (K : Sk) (e : Ending) (w' : World) : Prop :=
  ∃ K' o, NextK F.length t K K' o ∧ SkAt w' p F c l K' ∧ Keep w.heap.size [p] w w' ∧ NxRes w w' F e o
theorem tick_no {t : Nat} {K : Sk} (h : t < K.tm + 10) : tick t K = { K with now := t } := by unfold tick; rw [if_neg (by omega)]
theorem tick_go {t : Nat} {K : Sk} (h : K.tm + 10 ≤ t) : tick t K = { K with now := t, tr := K.tr + 1, tm := t, nd := K.nd || K.fin } := by unfold tick; rw [if_pos h]
set_option maxRecDepth 100000 in
set_option maxHeartbeats 16000000 in
theorem knext_ae (w : World) (p : Nat) (F : List Int) (c : Nat) (l : Ly) (K : Sk) (t T : Nat) (hT : T ≤ t) (ht : t ≤ 400) (hi : IK F c T K) (hn : F.length ≤ 300) (h : SkAt w p F c l K) (ha : K.ad = true) : Calls Try.prog 34 #[ptr p, .int .i64 t] w (KxPost w p F c t l K) := by
  have hnow : K.now ≤ t := Nat.le_trans hi.now hT
  have htmr := hi.tmr
  have ht2 : t ≤ 1000 := by omega
  have htm : K.tm ≤ 400 := by omega
  have hgl : K.got.length ≤ 300 := by have := nrm_len (a := 0) (N := (F.length : Int)) hi.nrm (fun z hz => hi.al.inn hz) (by omega); omega
  have HI := Lib.hid hi
  have HS := Lib.hid h
  have HB := Lib.hid h.blk
  clear h hi
  go_enter Try.func34, Try.ntmps34
  go_upto_region 1 with fail
  obtain ⟨W, q, hW, hq, bq, ka⟩ := newPd w
  have bp := HB.out.keepS ka (by simp)
  have hpq : p ≠ q := by have := HB.out.lt; omega
  have hqp : q ≠ p := hpq.symm
  change Code.wp _ _ _ _ (w.alloc (.cells zcs TP))
  rw [← hW, ← hq]
  have HQ := Lib.hid hq
  clear hW hq
  have BP := Lib.hid bp
  have BQ := Lib.hid bq
  have KA := Lib.hid ka
  clear bp bq ka
  go_wp2_with fail
  refine (kok_w _ p F c l K BP.out).mono ?_
  rintro e w1 ⟨rfl, rfl⟩
  go_wp2_with fail
  refine (kadv_w _ p F c l K t hnow ht2 BP.out).mono ?_
  rintro e W2 ⟨rfl, bp, hk2⟩
  have c5 : W2.cell? ⟨p, 5, none⟩ = some (.int .i64 10) := bp.cell 5
  have c6 : W2.cell? ⟨p, 6, none⟩ = some (.int .i64 50) := bp.cell 6
  have c7 : W2.cell? ⟨p, 7, none⟩ = some (.int .i64 t) := bp.cell 7
  have c8 : W2.cell? ⟨p, 8, none⟩ = some (.int .i64 K.ph) := bp.cell 8
  have c10 : W2.cell? ⟨p, 10, none⟩ = some (.bool false) := bp.cell 10
  have c11 : W2.cell? ⟨p, 11, none⟩ = some (.bool K.named) := bp.cell 11
  have c14 : W2.cell? ⟨p, 14, none⟩ = some (.bool K.fin) := bp.cell 14
  have c19 : W2.cell? ⟨p, 19, none⟩ = some (.int .i64 K.tm) := bp.cell 19
  have c20 : W2.cell? ⟨p, 20, none⟩ = some (.int .i64 K.tr) := bp.cell 20
  have c21 : W2.cell? ⟨p, 21, none⟩ = some (.bool K.ad) := bp.cell 21
  have c22 : W2.cell? ⟨p, 22, none⟩ = some (.bool K.nd) := bp.cell 22
  have fc19 := bp.frozen 19
  have fc20 := bp.frozen 20
  have fc21 := bp.frozen 21
  have fc22 := bp.frozen 22
  have BQ2 := Lib.hid (BQ.out.keepS hk2 (by simpa using hqp))
  have KA2 : Hid (Keep w.heap.size [p] w W2) := Lib.hid ((KA.out.mono (S' := [p]) (Nat.le_refl _) (by simp)).trans (hk2.mono KA.out.size (by simp)))
  have BP2 := Lib.hid bp
  clear hk2 bp
  rw [ha] at c21
  go_wp2_with fail
  have B3 : Hid (Blk (W2.setCell ⟨p, 21, none⟩ (.bool false)) p TK (kcs F c l { K with now := t, ad := false })) := Lib.hid (BP2.out.set_ 21 _)
  have Q3 : Hid (Blk (W2.setCell ⟨p, 21, none⟩ (.bool false)) q TP zcs) := Lib.hid (BQ2.out.far hqp _)
  have K3 : Hid (Keep w.heap.size [p] w (W2.setCell ⟨p, 21, none⟩ (.bool false))) := Lib.hid (KA2.out.set1)
  refine (kunit_w _ p F c l { K with now := t, ad := false } 6 B3.out).mono ?_
  rintro e W4 ⟨rfl, hk4⟩
  have B4 := Lib.hid (B3.out.keepS hk4 (by simp))
  have Q4 := Lib.hid (Q3.out.keepS hk4 (by simp))
  have K4 : Hid (Keep w.heap.size [p] w W4) := Lib.hid (K3.out.trans (hk4.mono K3.out.size (by simp)))
  clear hk4
  go_wp2_with (refine wpList_store_mid rfl TP (.tmp 4) (.tmp 29) rfl q 0 (pcs (upd F .ae) (zL)) rfl rfl (by refine thereQ ?_; repeat (first | with_reducible exact Q4.out | refine Blk.far ?_ hqp _)) infoPd (by exact upd_cells _ _) ?_)
  refine bodyPost_ret (kres_Next _ _ q (upd F .ae) (zL) true rfl rfl (by refine Blk.setAll (cs := zcs) (vs := pcs (upd F .ae) (zL)) ?_ rfl; repeat (first | with_reducible exact Q4.out | refine Blk.far ?_ hqp _))) rfl ?_
  have KF : Keep w.heap.size [p] w (W4.setCells q 0 (pcs (upd F .ae) (zL)).toList) := Keep.setCells (.inl (by rw [HQ.out]; exact Nat.le_refl _)) _ _ _  K4.out
  exact ⟨_, some .ae, .ack ha, HS.out.same rfl rfl (Blk.setCellsFar hpq _ _ _ B4.out) KF, KF, _, rfl, pin_z _ F .ae ⟨rfl, rfl⟩, by simp [zL, blks]⟩
set_option maxRecDepth 100000 in
set_option maxHeartbeats 16000000 in
theorem knext_due (w : World) (p : Nat) (F : List Int) (c : Nat) (l : Ly) (K : Sk) (t T : Nat) (hT : T ≤ t) (ht : t ≤ 400) (hi : IK F c T K) (hn : F.length ≤ 300) (h : SkAt w p F c l K) (ha : K.ad = false) (hp : K.ph = 2) (hd : K.dd = true) : Calls Try.prog 34 #[ptr p, .int .i64 t] w (KxPost w p F c t l K) := by
  have hnow : K.now ≤ t := Nat.le_trans hi.now hT
  have htmr := hi.tmr
  have ht2 : t ≤ 1000 := by omega
  have htm : K.tm ≤ 400 := by omega
  have hgl : K.got.length ≤ 300 := by have := nrm_len (a := 0) (N := (F.length : Int)) hi.nrm (fun z hz => hi.al.inn hz) (by omega); omega
  have hpI : (K.ph : Int) = 2 := by omega
  have HI := Lib.hid hi
  have HS := Lib.hid h
  have HB := Lib.hid h.blk
  clear h hi
  go_enter Try.func34, Try.ntmps34
  go_upto_region 1 with fail
  obtain ⟨W, q, hW, hq, bq, ka⟩ := newPd w
  have bp := HB.out.keepS ka (by simp)
  have hpq : p ≠ q := by have := HB.out.lt; omega
  have hqp : q ≠ p := hpq.symm
  change Code.wp _ _ _ _ (w.alloc (.cells zcs TP))
  rw [← hW, ← hq]
  have HQ := Lib.hid hq
  clear hW hq
  have BP := Lib.hid bp
  have BQ := Lib.hid bq
  have KA := Lib.hid ka
  clear bp bq ka
  go_wp2_with fail
  refine (kok_w _ p F c l K BP.out).mono ?_
  rintro e w1 ⟨rfl, rfl⟩
  go_wp2_with fail
  refine (kadv_w _ p F c l K t hnow ht2 BP.out).mono ?_
  rintro e W2 ⟨rfl, bp, hk2⟩
  have c5 : W2.cell? ⟨p, 5, none⟩ = some (.int .i64 10) := bp.cell 5
  have c6 : W2.cell? ⟨p, 6, none⟩ = some (.int .i64 50) := bp.cell 6
  have c7 : W2.cell? ⟨p, 7, none⟩ = some (.int .i64 t) := bp.cell 7
  have c8 : W2.cell? ⟨p, 8, none⟩ = some (.int .i64 K.ph) := bp.cell 8
  have c10 : W2.cell? ⟨p, 10, none⟩ = some (.bool false) := bp.cell 10
  have c11 : W2.cell? ⟨p, 11, none⟩ = some (.bool K.named) := bp.cell 11
  have c14 : W2.cell? ⟨p, 14, none⟩ = some (.bool K.fin) := bp.cell 14
  have c19 : W2.cell? ⟨p, 19, none⟩ = some (.int .i64 K.tm) := bp.cell 19
  have c20 : W2.cell? ⟨p, 20, none⟩ = some (.int .i64 K.tr) := bp.cell 20
  have c21 : W2.cell? ⟨p, 21, none⟩ = some (.bool K.ad) := bp.cell 21
  have c22 : W2.cell? ⟨p, 22, none⟩ = some (.bool K.nd) := bp.cell 22
  have fc19 := bp.frozen 19
  have fc20 := bp.frozen 20
  have fc21 := bp.frozen 21
  have fc22 := bp.frozen 22
  have BQ2 := Lib.hid (BQ.out.keepS hk2 (by simpa using hqp))
  have KA2 : Hid (Keep w.heap.size [p] w W2) := Lib.hid ((KA.out.mono (S' := [p]) (Nat.le_refl _) (by simp)).trans (hk2.mono KA.out.size (by simp)))
  have BP2 := Lib.hid bp
  clear hk2 bp
  rw [ha] at c21
  rw [hpI] at c8
  go_upto_region 9 with fail
  refine wp_region_held_drew (S := (fun w' => w'.cell? ⟨p, 8, none⟩ = some (.int .i64 2))) (by kernel_rfl) (by exact c8) (fun hHeld => ?_)
  refine tkH (i := 0) (oi := { dst := some 30, op := Op.move (Operand.tmp 0), type := 79, pos := _, after := _, guard := none }) rfl (by assumption) ?_
  (try simp only [Act.put, List.setIfInBounds_toArray, List.set_cons_zero, List.set_cons_succ])
  refine tkH (i := 1) (oi := { dst := some 31, op := Op.nilCheck (Operand.tmp 30), type := 0, pos := _, after := _, guard := none }) rfl (by assumption) ?_
  (try simp only [Act.put, List.setIfInBounds_toArray, List.set_cons_zero, List.set_cons_succ])
  refine tkH (i := 2) (oi := { dst := some 32, op := Op.fieldAddr 150 (Operand.tmp 31) 5, type := 0, pos := _, after := _, guard := none }) rfl (by assumption) ?_
  (try simp only [Act.put, List.setIfInBounds_toArray, List.set_cons_zero, List.set_cons_succ])
  refine tkH (i := 3) (oi := { dst := some 33, op := Op.load 3 (Operand.tmp 32), type := 3, pos := _, after := _, guard := none }) rfl (by assumption) ?_
  (try simp only [Act.put, List.setIfInBounds_toArray, List.set_cons_zero, List.set_cons_succ])
  refine tkH (i := 4) (oi := { dst := some 34, op := Op.binOp BinOp.eql 3 (Operand.tmp 33) (Operand.const (Value.int IntKind.i64 0)) 3, type := 4, pos := _, after := _, guard := none }) rfl (by assumption) ?_
  (try simp only [Act.put, List.setIfInBounds_toArray, List.set_cons_zero, List.set_cons_succ])
  refine tkH (i := 5) (oi := { dst := some 35, op := Op.move (Operand.tmp 34), type := 4, pos := _, after := _, guard := none }) rfl (by assumption) ?_
  (try simp only [Act.put, List.setIfInBounds_toArray, List.set_cons_zero, List.set_cons_succ])
  refine skH (i := 6) (oi := { dst := some 36, op := Op.move (Operand.tmp 0), type := 79, pos := _, after := _, guard := some (5, true) }) rfl (by assumption) ?_
  (try simp only [Act.put, List.setIfInBounds_toArray, List.set_cons_zero, List.set_cons_succ])
  refine skH (i := 7) (oi := { dst := some 37, op := Op.nilCheck (Operand.tmp 36), type := 0, pos := _, after := _, guard := some (5, true) }) rfl (by assumption) ?_
  (try simp only [Act.put, List.setIfInBounds_toArray, List.set_cons_zero, List.set_cons_succ])
  refine skH (i := 8) (oi := { dst := some 38, op := Op.fieldAddr 150 (Operand.tmp 37) 4, type := 0, pos := _, after := _, guard := some (5, true) }) rfl (by assumption) ?_
  (try simp only [Act.put, List.setIfInBounds_toArray, List.set_cons_zero, List.set_cons_succ])
  refine skH (i := 9) (oi := { dst := some 39, op := Op.load 3 (Operand.tmp 38), type := 3, pos := _, after := _, guard := some (5, true) }) rfl (by assumption) ?_
  (try simp only [Act.put, List.setIfInBounds_toArray, List.set_cons_zero, List.set_cons_succ])
  refine skH (i := 10) (oi := { dst := some 40, op := Op.move (Operand.tmp 0), type := 79, pos := _, after := _, guard := some (5, true) }) rfl (by assumption) ?_
  (try simp only [Act.put, List.setIfInBounds_toArray, List.set_cons_zero, List.set_cons_succ])
  refine skH (i := 11) (oi := { dst := some 41, op := Op.nilCheck (Operand.tmp 40), type := 0, pos := _, after := _, guard := some (5, true) }) rfl (by assumption) ?_
  (try simp only [Act.put, List.setIfInBounds_toArray, List.set_cons_zero, List.set_cons_succ])
  refine skH (i := 12) (oi := { dst := some 42, op := Op.fieldAddr 150 (Operand.tmp 41) 16, type := 0, pos := _, after := _, guard := some (5, true) }) rfl (by assumption) ?_
  (try simp only [Act.put, List.setIfInBounds_toArray, List.set_cons_zero, List.set_cons_succ])
  refine skH (i := 13) (oi := { dst := some 43, op := Op.load 3 (Operand.tmp 42), type := 3, pos := _, after := _, guard := some (5, true) }) rfl (by assumption) ?_
  (try simp only [Act.put, List.setIfInBounds_toArray, List.set_cons_zero, List.set_cons_succ])
  refine skH (i := 14) (oi := { dst := some 44, op := Op.move (Operand.tmp 0), type := 79, pos := _, after := _, guard := some (5, true) }) rfl (by assumption) ?_
  (try simp only [Act.put, List.setIfInBounds_toArray, List.set_cons_zero, List.set_cons_succ])
  refine skH (i := 15) (oi := { dst := some 45, op := Op.nilCheck (Operand.tmp 44), type := 0, pos := _, after := _, guard := some (5, true) }) rfl (by assumption) ?_
  (try simp only [Act.put, List.setIfInBounds_toArray, List.set_cons_zero, List.set_cons_succ])
  refine skH (i := 16) (oi := { dst := some 46, op := Op.fieldAddr 150 (Operand.tmp 45) 3, type := 0, pos := _, after := _, guard := some (5, true) }) rfl (by assumption) ?_
  (try simp only [Act.put, List.setIfInBounds_toArray, List.set_cons_zero, List.set_cons_succ])
  refine skH (i := 17) (oi := { dst := some 47, op := Op.fieldAddr 73 (Operand.tmp 46) 1, type := 0, pos := _, after := _, guard := some (5, true) }) rfl (by assumption) ?_
  (try simp only [Act.put, List.setIfInBounds_toArray, List.set_cons_zero, List.set_cons_succ])
  refine skH (i := 18) (oi := { dst := some 48, op := Op.load 3 (Operand.tmp 47), type := 3, pos := _, after := _, guard := some (5, true) }) rfl (by assumption) ?_
  (try simp only [Act.put, List.setIfInBounds_toArray, List.set_cons_zero, List.set_cons_succ])
  refine skH (i := 19) (oi := { dst := some 49, op := Op.binOp BinOp.add 3 (Operand.tmp 43) (Operand.tmp 48) 3, type := 3, pos := _, after := _, guard := some (5, true) }) rfl (by assumption) ?_
  (try simp only [Act.put, List.setIfInBounds_toArray, List.set_cons_zero, List.set_cons_succ])
  refine skH (i := 20) (oi := { dst := some 50, op := Op.binOp BinOp.geq 3 (Operand.tmp 39) (Operand.tmp 49) 3, type := 4, pos := _, after := _, guard := some (5, true) }) rfl (by assumption) ?_
  (try simp only [Act.put, List.setIfInBounds_toArray, List.set_cons_zero, List.set_cons_succ])
  refine tkH (i := 21) (oi := { dst := some 51, op := Op.pick (Operand.tmp 35) (Operand.tmp 50) (Operand.const (Value.bool false)), type := 4, pos := _, after := _, guard := none }) rfl (by assumption) ?_
  (try simp only [Act.put, List.setIfInBounds_toArray, List.set_cons_zero, List.set_cons_succ])
  refine wpAnyH_done (by kernel_rfl) ?_ _
  go_wp2_with fail
  refine (krep_due _ p F c l { K with now := t } hd BP2.out.drew).mono ?_
  rintro e W3 ⟨rfl, hb3, hk3⟩
  have BQ3 := Lib.hid (BQ2.out.drew.keepS hk3 (by simp [hqp]))
  have K3 : Hid (Keep w.heap.size [p] w W3) := Lib.hid (KA2.out.drew.trans (hk3.mono KA2.out.drew.size (by simp)))
  have BP3 := Lib.hid hb3
  clear hk3 hb3
  go_wp2_with (refine wpList_store_mid rfl TP (.tmp 4) (.tmp 109) rfl q 0 (pcs (upd F .fi) (zL)) rfl rfl (by refine thereQ ?_; repeat (first | with_reducible exact BQ3.out | refine Blk.far ?_ hqp _)) infoPd (by exact upd_cells _ _) ?_)
  refine bodyPost_ret (kres_Next _ _ q (upd F .fi) (zL) true rfl rfl (by refine Blk.setAll (cs := zcs) (vs := pcs (upd F .fi) (zL)) ?_ rfl; repeat (first | with_reducible exact BQ3.out | refine Blk.far ?_ hqp _))) rfl ?_
  have KF : Keep w.heap.size [p] w (W3.setCells q 0 (pcs (upd F .fi) (zL)).toList) := Keep.setCells (.inl (by rw [HQ.out]; exact Nat.le_refl _)) _ _ _  K3.out
  exact ⟨_, some .fi, .fi1 ha hp hd, HS.out.same rfl rfl (Blk.setCellsFar hpq _ _ _ BP3.out) KF, KF, _, rfl, pin_z _ F .fi ⟨rfl, rfl⟩, by simp [zL, blks]⟩
set_option maxRecDepth 100000 in
set_option maxHeartbeats 16000000 in
theorem knext_ended (w : World) (p : Nat) (F : List Int) (c : Nat) (l : Ly) (K : Sk) (t T : Nat) (hT : T ≤ t) (ht : t ≤ 400) (hi : IK F c T K) (hn : F.length ≤ 300) (h : SkAt w p F c l K) (ha : K.ad = false) (hp : K.ph = 2) (hd : K.dd = false) (he : K.ended = true) : Calls Try.prog 34 #[ptr p, .int .i64 t] w (KxPost w p F c t l K) := by
  have hnow : K.now ≤ t := Nat.le_trans hi.now hT
  have htmr := hi.tmr
  have ht2 : t ≤ 1000 := by omega
  have htm : K.tm ≤ 400 := by omega
  have hgl : K.got.length ≤ 300 := by have := nrm_len (a := 0) (N := (F.length : Int)) hi.nrm (fun z hz => hi.al.inn hz) (by omega); omega
  have hpI : (K.ph : Int) = 2 := by omega
  have HI := Lib.hid hi
  have HS := Lib.hid h
  have HB := Lib.hid h.blk
  clear h hi
  go_enter Try.func34, Try.ntmps34
  go_upto_region 1 with fail
  obtain ⟨W, q, hW, hq, bq, ka⟩ := newPd w
  have bp := HB.out.keepS ka (by simp)
  have hpq : p ≠ q := by have := HB.out.lt; omega
  have hqp : q ≠ p := hpq.symm
  change Code.wp _ _ _ _ (w.alloc (.cells zcs TP))
  rw [← hW, ← hq]
  have HQ := Lib.hid hq
  clear hW hq
  have BP := Lib.hid bp
  have BQ := Lib.hid bq
  have KA := Lib.hid ka
  clear bp bq ka
  go_wp2_with fail
  refine (kok_w _ p F c l K BP.out).mono ?_
  rintro e w1 ⟨rfl, rfl⟩
  go_wp2_with fail
  refine (kadv_w _ p F c l K t hnow ht2 BP.out).mono ?_
  rintro e W2 ⟨rfl, bp, hk2⟩
  have c5 : W2.cell? ⟨p, 5, none⟩ = some (.int .i64 10) := bp.cell 5
  have c6 : W2.cell? ⟨p, 6, none⟩ = some (.int .i64 50) := bp.cell 6
  have c7 : W2.cell? ⟨p, 7, none⟩ = some (.int .i64 t) := bp.cell 7
  have c8 : W2.cell? ⟨p, 8, none⟩ = some (.int .i64 K.ph) := bp.cell 8
  have c10 : W2.cell? ⟨p, 10, none⟩ = some (.bool false) := bp.cell 10
  have c11 : W2.cell? ⟨p, 11, none⟩ = some (.bool K.named) := bp.cell 11
  have c14 : W2.cell? ⟨p, 14, none⟩ = some (.bool K.fin) := bp.cell 14
  have c19 : W2.cell? ⟨p, 19, none⟩ = some (.int .i64 K.tm) := bp.cell 19
  have c20 : W2.cell? ⟨p, 20, none⟩ = some (.int .i64 K.tr) := bp.cell 20
  have c21 : W2.cell? ⟨p, 21, none⟩ = some (.bool K.ad) := bp.cell 21
  have c22 : W2.cell? ⟨p, 22, none⟩ = some (.bool K.nd) := bp.cell 22
  have fc19 := bp.frozen 19
  have fc20 := bp.frozen 20
  have fc21 := bp.frozen 21
  have fc22 := bp.frozen 22
  have BQ2 := Lib.hid (BQ.out.keepS hk2 (by simpa using hqp))
  have KA2 : Hid (Keep w.heap.size [p] w W2) := Lib.hid ((KA.out.mono (S' := [p]) (Nat.le_refl _) (by simp)).trans (hk2.mono KA.out.size (by simp)))
  have BP2 := Lib.hid bp
  clear hk2 bp
  rw [ha] at c21
  rw [hpI] at c8
  go_upto_region 9 with fail
  refine wp_region_held_drew (S := (fun w' => w'.cell? ⟨p, 8, none⟩ = some (.int .i64 2))) (by kernel_rfl) (by exact c8) (fun hHeld => ?_)
  refine tkH (i := 0) (oi := { dst := some 30, op := Op.move (Operand.tmp 0), type := 79, pos := _, after := _, guard := none }) rfl (by assumption) ?_
  (try simp only [Act.put, List.setIfInBounds_toArray, List.set_cons_zero, List.set_cons_succ])
  refine tkH (i := 1) (oi := { dst := some 31, op := Op.nilCheck (Operand.tmp 30), type := 0, pos := _, after := _, guard := none }) rfl (by assumption) ?_
  (try simp only [Act.put, List.setIfInBounds_toArray, List.set_cons_zero, List.set_cons_succ])
  refine tkH (i := 2) (oi := { dst := some 32, op := Op.fieldAddr 150 (Operand.tmp 31) 5, type := 0, pos := _, after := _, guard := none }) rfl (by assumption) ?_
  (try simp only [Act.put, List.setIfInBounds_toArray, List.set_cons_zero, List.set_cons_succ])
  refine tkH (i := 3) (oi := { dst := some 33, op := Op.load 3 (Operand.tmp 32), type := 3, pos := _, after := _, guard := none }) rfl (by assumption) ?_
  (try simp only [Act.put, List.setIfInBounds_toArray, List.set_cons_zero, List.set_cons_succ])
  refine tkH (i := 4) (oi := { dst := some 34, op := Op.binOp BinOp.eql 3 (Operand.tmp 33) (Operand.const (Value.int IntKind.i64 0)) 3, type := 4, pos := _, after := _, guard := none }) rfl (by assumption) ?_
  (try simp only [Act.put, List.setIfInBounds_toArray, List.set_cons_zero, List.set_cons_succ])
  refine tkH (i := 5) (oi := { dst := some 35, op := Op.move (Operand.tmp 34), type := 4, pos := _, after := _, guard := none }) rfl (by assumption) ?_
  (try simp only [Act.put, List.setIfInBounds_toArray, List.set_cons_zero, List.set_cons_succ])
  refine skH (i := 6) (oi := { dst := some 36, op := Op.move (Operand.tmp 0), type := 79, pos := _, after := _, guard := some (5, true) }) rfl (by assumption) ?_
  (try simp only [Act.put, List.setIfInBounds_toArray, List.set_cons_zero, List.set_cons_succ])
  refine skH (i := 7) (oi := { dst := some 37, op := Op.nilCheck (Operand.tmp 36), type := 0, pos := _, after := _, guard := some (5, true) }) rfl (by assumption) ?_
  (try simp only [Act.put, List.setIfInBounds_toArray, List.set_cons_zero, List.set_cons_succ])
  refine skH (i := 8) (oi := { dst := some 38, op := Op.fieldAddr 150 (Operand.tmp 37) 4, type := 0, pos := _, after := _, guard := some (5, true) }) rfl (by assumption) ?_
  (try simp only [Act.put, List.setIfInBounds_toArray, List.set_cons_zero, List.set_cons_succ])
  refine skH (i := 9) (oi := { dst := some 39, op := Op.load 3 (Operand.tmp 38), type := 3, pos := _, after := _, guard := some (5, true) }) rfl (by assumption) ?_
  (try simp only [Act.put, List.setIfInBounds_toArray, List.set_cons_zero, List.set_cons_succ])
  refine skH (i := 10) (oi := { dst := some 40, op := Op.move (Operand.tmp 0), type := 79, pos := _, after := _, guard := some (5, true) }) rfl (by assumption) ?_
  (try simp only [Act.put, List.setIfInBounds_toArray, List.set_cons_zero, List.set_cons_succ])
  refine skH (i := 11) (oi := { dst := some 41, op := Op.nilCheck (Operand.tmp 40), type := 0, pos := _, after := _, guard := some (5, true) }) rfl (by assumption) ?_
  (try simp only [Act.put, List.setIfInBounds_toArray, List.set_cons_zero, List.set_cons_succ])
  refine skH (i := 12) (oi := { dst := some 42, op := Op.fieldAddr 150 (Operand.tmp 41) 16, type := 0, pos := _, after := _, guard := some (5, true) }) rfl (by assumption) ?_
  (try simp only [Act.put, List.setIfInBounds_toArray, List.set_cons_zero, List.set_cons_succ])
  refine skH (i := 13) (oi := { dst := some 43, op := Op.load 3 (Operand.tmp 42), type := 3, pos := _, after := _, guard := some (5, true) }) rfl (by assumption) ?_
  (try simp only [Act.put, List.setIfInBounds_toArray, List.set_cons_zero, List.set_cons_succ])
  refine skH (i := 14) (oi := { dst := some 44, op := Op.move (Operand.tmp 0), type := 79, pos := _, after := _, guard := some (5, true) }) rfl (by assumption) ?_
  (try simp only [Act.put, List.setIfInBounds_toArray, List.set_cons_zero, List.set_cons_succ])
  refine skH (i := 15) (oi := { dst := some 45, op := Op.nilCheck (Operand.tmp 44), type := 0, pos := _, after := _, guard := some (5, true) }) rfl (by assumption) ?_
  (try simp only [Act.put, List.setIfInBounds_toArray, List.set_cons_zero, List.set_cons_succ])
  refine skH (i := 16) (oi := { dst := some 46, op := Op.fieldAddr 150 (Operand.tmp 45) 3, type := 0, pos := _, after := _, guard := some (5, true) }) rfl (by assumption) ?_
  (try simp only [Act.put, List.setIfInBounds_toArray, List.set_cons_zero, List.set_cons_succ])
  refine skH (i := 17) (oi := { dst := some 47, op := Op.fieldAddr 73 (Operand.tmp 46) 1, type := 0, pos := _, after := _, guard := some (5, true) }) rfl (by assumption) ?_
  (try simp only [Act.put, List.setIfInBounds_toArray, List.set_cons_zero, List.set_cons_succ])
  refine skH (i := 18) (oi := { dst := some 48, op := Op.load 3 (Operand.tmp 47), type := 3, pos := _, after := _, guard := some (5, true) }) rfl (by assumption) ?_
  (try simp only [Act.put, List.setIfInBounds_toArray, List.set_cons_zero, List.set_cons_succ])
  refine skH (i := 19) (oi := { dst := some 49, op := Op.binOp BinOp.add 3 (Operand.tmp 43) (Operand.tmp 48) 3, type := 3, pos := _, after := _, guard := some (5, true) }) rfl (by assumption) ?_
  (try simp only [Act.put, List.setIfInBounds_toArray, List.set_cons_zero, List.set_cons_succ])
  refine skH (i := 20) (oi := { dst := some 50, op := Op.binOp BinOp.geq 3 (Operand.tmp 39) (Operand.tmp 49) 3, type := 4, pos := _, after := _, guard := some (5, true) }) rfl (by assumption) ?_
  (try simp only [Act.put, List.setIfInBounds_toArray, List.set_cons_zero, List.set_cons_succ])
  refine tkH (i := 21) (oi := { dst := some 51, op := Op.pick (Operand.tmp 35) (Operand.tmp 50) (Operand.const (Value.bool false)), type := 4, pos := _, after := _, guard := none }) rfl (by assumption) ?_
  (try simp only [Act.put, List.setIfInBounds_toArray, List.set_cons_zero, List.set_cons_succ])
  refine wpAnyH_done (by kernel_rfl) ?_ _
  go_wp2_with fail
  refine (krep_ended _ p F c l { K with now := t } hd he BP2.out.drew).mono ?_
  rintro e W3 ⟨rfl, hk3⟩
  have hb3 := BP2.out.drew.keepS hk3 (by simp)
  have BQ3 := Lib.hid (BQ2.out.drew.keepS hk3 (by simp))
  have K3 : Hid (Keep w.heap.size [p] w W3) := Lib.hid (KA2.out.drew.trans (hk3.mono KA2.out.drew.size (by simp)))
  have BP3 := Lib.hid hb3
  clear hk3 hb3
  go_wp2_with (refine wpList_store_mid rfl TP (.tmp 4) (.tmp 109) rfl q 0 (pcs zP zL) rfl rfl (by refine thereQ ?_; repeat (first | with_reducible exact BQ3.out | refine Blk.far ?_ hqp _)) infoPd (by exact upd_cells _ _) ?_)
  refine bodyPost_ret (kres_Next _ _ q (zP) (zL) false rfl rfl (by refine Blk.setAll (cs := zcs) (vs := pcs (zP) (zL)) ?_ rfl; repeat (first | with_reducible exact BQ3.out | refine Blk.far ?_ hqp _))) rfl ?_
  have KF : Keep w.heap.size [p] w (W3.setCells q 0 (pcs zP zL).toList) := Keep.setCells (.inl (by rw [HQ.out]; exact Nat.le_refl _)) _ _ _  K3.out
  exact ⟨_, none, .qu2 ha hp hd (.inl he), HS.out.same rfl rfl (Blk.setCellsFar hpq _ _ _ BP3.out) KF, KF, rfl⟩
set_option maxRecDepth 100000 in
set_option maxHeartbeats 16000000 in
theorem knext_early (w : World) (p : Nat) (F : List Int) (c : Nat) (l : Ly) (K : Sk) (t T : Nat) (hT : T ≤ t) (ht : t ≤ 400) (hi : IK F c T K) (hn : F.length ≤ 300) (h : SkAt w p F c l K) (ha : K.ad = false) (hp : K.ph = 2) (hd : K.dd = false) (he : K.ended = false) (htt : t < K.tm + 10) : Calls Try.prog 34 #[ptr p, .int .i64 t] w (KxPost w p F c t l K) := by
  have hnow : K.now ≤ t := Nat.le_trans hi.now hT
  have htmr := hi.tmr
  have ht2 : t ≤ 1000 := by omega
  have htm : K.tm ≤ 400 := by omega
  have hgl : K.got.length ≤ 300 := by have := nrm_len (a := 0) (N := (F.length : Int)) hi.nrm (fun z hz => hi.al.inn hz) (by omega); omega
  have hpI : (K.ph : Int) = 2 := by omega
  have HI := Lib.hid hi
  have HS := Lib.hid h
  have HB := Lib.hid h.blk
  clear h hi
  go_enter Try.func34, Try.ntmps34
  go_upto_region 1 with fail
  obtain ⟨W, q, hW, hq, bq, ka⟩ := newPd w
  have bp := HB.out.keepS ka (by simp)
  have hpq : p ≠ q := by have := HB.out.lt; omega
  have hqp : q ≠ p := hpq.symm
  change Code.wp _ _ _ _ (w.alloc (.cells zcs TP))
  rw [← hW, ← hq]
  have HQ := Lib.hid hq
  clear hW hq
  have BP := Lib.hid bp
  have BQ := Lib.hid bq
  have KA := Lib.hid ka
  clear bp bq ka
  go_wp2_with fail
  refine (kok_w _ p F c l K BP.out).mono ?_
  rintro e w1 ⟨rfl, rfl⟩
  go_wp2_with fail
  refine (kadv_w _ p F c l K t hnow ht2 BP.out).mono ?_
  rintro e W2 ⟨rfl, bp, hk2⟩
  have c5 : W2.cell? ⟨p, 5, none⟩ = some (.int .i64 10) := bp.cell 5
  have c6 : W2.cell? ⟨p, 6, none⟩ = some (.int .i64 50) := bp.cell 6
  have c7 : W2.cell? ⟨p, 7, none⟩ = some (.int .i64 t) := bp.cell 7
  have c8 : W2.cell? ⟨p, 8, none⟩ = some (.int .i64 K.ph) := bp.cell 8
  have c10 : W2.cell? ⟨p, 10, none⟩ = some (.bool false) := bp.cell 10
  have c11 : W2.cell? ⟨p, 11, none⟩ = some (.bool K.named) := bp.cell 11
  have c14 : W2.cell? ⟨p, 14, none⟩ = some (.bool K.fin) := bp.cell 14
  have c19 : W2.cell? ⟨p, 19, none⟩ = some (.int .i64 K.tm) := bp.cell 19
  have c20 : W2.cell? ⟨p, 20, none⟩ = some (.int .i64 K.tr) := bp.cell 20
  have c21 : W2.cell? ⟨p, 21, none⟩ = some (.bool K.ad) := bp.cell 21
  have c22 : W2.cell? ⟨p, 22, none⟩ = some (.bool K.nd) := bp.cell 22
  have fc19 := bp.frozen 19
  have fc20 := bp.frozen 20
  have fc21 := bp.frozen 21
  have fc22 := bp.frozen 22
  have BQ2 := Lib.hid (BQ.out.keepS hk2 (by simpa using hqp))
  have KA2 : Hid (Keep w.heap.size [p] w W2) := Lib.hid ((KA.out.mono (S' := [p]) (Nat.le_refl _) (by simp)).trans (hk2.mono KA.out.size (by simp)))
  have BP2 := Lib.hid bp
  clear hk2 bp
  rw [ha] at c21
  rw [hpI] at c8
  go_upto_region 9 with fail
  refine wp_region_held_drew (S := (fun w' => w'.cell? ⟨p, 8, none⟩ = some (.int .i64 2))) (by kernel_rfl) (by exact c8) (fun hHeld => ?_)
  refine tkH (i := 0) (oi := { dst := some 30, op := Op.move (Operand.tmp 0), type := 79, pos := _, after := _, guard := none }) rfl (by assumption) ?_
  (try simp only [Act.put, List.setIfInBounds_toArray, List.set_cons_zero, List.set_cons_succ])
  refine tkH (i := 1) (oi := { dst := some 31, op := Op.nilCheck (Operand.tmp 30), type := 0, pos := _, after := _, guard := none }) rfl (by assumption) ?_
  (try simp only [Act.put, List.setIfInBounds_toArray, List.set_cons_zero, List.set_cons_succ])
  refine tkH (i := 2) (oi := { dst := some 32, op := Op.fieldAddr 150 (Operand.tmp 31) 5, type := 0, pos := _, after := _, guard := none }) rfl (by assumption) ?_
  (try simp only [Act.put, List.setIfInBounds_toArray, List.set_cons_zero, List.set_cons_succ])
  refine tkH (i := 3) (oi := { dst := some 33, op := Op.load 3 (Operand.tmp 32), type := 3, pos := _, after := _, guard := none }) rfl (by assumption) ?_
  (try simp only [Act.put, List.setIfInBounds_toArray, List.set_cons_zero, List.set_cons_succ])
  refine tkH (i := 4) (oi := { dst := some 34, op := Op.binOp BinOp.eql 3 (Operand.tmp 33) (Operand.const (Value.int IntKind.i64 0)) 3, type := 4, pos := _, after := _, guard := none }) rfl (by assumption) ?_
  (try simp only [Act.put, List.setIfInBounds_toArray, List.set_cons_zero, List.set_cons_succ])
  refine tkH (i := 5) (oi := { dst := some 35, op := Op.move (Operand.tmp 34), type := 4, pos := _, after := _, guard := none }) rfl (by assumption) ?_
  (try simp only [Act.put, List.setIfInBounds_toArray, List.set_cons_zero, List.set_cons_succ])
  refine skH (i := 6) (oi := { dst := some 36, op := Op.move (Operand.tmp 0), type := 79, pos := _, after := _, guard := some (5, true) }) rfl (by assumption) ?_
  (try simp only [Act.put, List.setIfInBounds_toArray, List.set_cons_zero, List.set_cons_succ])
  refine skH (i := 7) (oi := { dst := some 37, op := Op.nilCheck (Operand.tmp 36), type := 0, pos := _, after := _, guard := some (5, true) }) rfl (by assumption) ?_
  (try simp only [Act.put, List.setIfInBounds_toArray, List.set_cons_zero, List.set_cons_succ])
  refine skH (i := 8) (oi := { dst := some 38, op := Op.fieldAddr 150 (Operand.tmp 37) 4, type := 0, pos := _, after := _, guard := some (5, true) }) rfl (by assumption) ?_
  (try simp only [Act.put, List.setIfInBounds_toArray, List.set_cons_zero, List.set_cons_succ])
  refine skH (i := 9) (oi := { dst := some 39, op := Op.load 3 (Operand.tmp 38), type := 3, pos := _, after := _, guard := some (5, true) }) rfl (by assumption) ?_
  (try simp only [Act.put, List.setIfInBounds_toArray, List.set_cons_zero, List.set_cons_succ])
  refine skH (i := 10) (oi := { dst := some 40, op := Op.move (Operand.tmp 0), type := 79, pos := _, after := _, guard := some (5, true) }) rfl (by assumption) ?_
  (try simp only [Act.put, List.setIfInBounds_toArray, List.set_cons_zero, List.set_cons_succ])
  refine skH (i := 11) (oi := { dst := some 41, op := Op.nilCheck (Operand.tmp 40), type := 0, pos := _, after := _, guard := some (5, true) }) rfl (by assumption) ?_
  (try simp only [Act.put, List.setIfInBounds_toArray, List.set_cons_zero, List.set_cons_succ])
  refine skH (i := 12) (oi := { dst := some 42, op := Op.fieldAddr 150 (Operand.tmp 41) 16, type := 0, pos := _, after := _, guard := some (5, true) }) rfl (by assumption) ?_
  (try simp only [Act.put, List.setIfInBounds_toArray, List.set_cons_zero, List.set_cons_succ])
  refine skH (i := 13) (oi := { dst := some 43, op := Op.load 3 (Operand.tmp 42), type := 3, pos := _, after := _, guard := some (5, true) }) rfl (by assumption) ?_
  (try simp only [Act.put, List.setIfInBounds_toArray, List.set_cons_zero, List.set_cons_succ])
  refine skH (i := 14) (oi := { dst := some 44, op := Op.move (Operand.tmp 0), type := 79, pos := _, after := _, guard := some (5, true) }) rfl (by assumption) ?_
  (try simp only [Act.put, List.setIfInBounds_toArray, List.set_cons_zero, List.set_cons_succ])
  refine skH (i := 15) (oi := { dst := some 45, op := Op.nilCheck (Operand.tmp 44), type := 0, pos := _, after := _, guard := some (5, true) }) rfl (by assumption) ?_
  (try simp only [Act.put, List.setIfInBounds_toArray, List.set_cons_zero, List.set_cons_succ])
  refine skH (i := 16) (oi := { dst := some 46, op := Op.fieldAddr 150 (Operand.tmp 45) 3, type := 0, pos := _, after := _, guard := some (5, true) }) rfl (by assumption) ?_
  (try simp only [Act.put, List.setIfInBounds_toArray, List.set_cons_zero, List.set_cons_succ])
  refine skH (i := 17) (oi := { dst := some 47, op := Op.fieldAddr 73 (Operand.tmp 46) 1, type := 0, pos := _, after := _, guard := some (5, true) }) rfl (by assumption) ?_
  (try simp only [Act.put, List.setIfInBounds_toArray, List.set_cons_zero, List.set_cons_succ])
  refine skH (i := 18) (oi := { dst := some 48, op := Op.load 3 (Operand.tmp 47), type := 3, pos := _, after := _, guard := some (5, true) }) rfl (by assumption) ?_
  (try simp only [Act.put, List.setIfInBounds_toArray, List.set_cons_zero, List.set_cons_succ])
  refine skH (i := 19) (oi := { dst := some 49, op := Op.binOp BinOp.add 3 (Operand.tmp 43) (Operand.tmp 48) 3, type := 3, pos := _, after := _, guard := some (5, true) }) rfl (by assumption) ?_
  (try simp only [Act.put, List.setIfInBounds_toArray, List.set_cons_zero, List.set_cons_succ])
  refine skH (i := 20) (oi := { dst := some 50, op := Op.binOp BinOp.geq 3 (Operand.tmp 39) (Operand.tmp 49) 3, type := 4, pos := _, after := _, guard := some (5, true) }) rfl (by assumption) ?_
  (try simp only [Act.put, List.setIfInBounds_toArray, List.set_cons_zero, List.set_cons_succ])
  refine tkH (i := 21) (oi := { dst := some 51, op := Op.pick (Operand.tmp 35) (Operand.tmp 50) (Operand.const (Value.bool false)), type := 4, pos := _, after := _, guard := none }) rfl (by assumption) ?_
  (try simp only [Act.put, List.setIfInBounds_toArray, List.set_cons_zero, List.set_cons_succ])
  refine wpAnyH_done (by kernel_rfl) ?_ _
  go_wp2_with fail
  refine (krep_early _ p F c l { K with now := t } hd he htt (by simp only; omega) BP2.out.drew).mono ?_
  rintro e W3 ⟨rfl, hk3⟩
  have hb3 := BP2.out.drew.keepS hk3 (by simp)
  have BQ3 := Lib.hid (BQ2.out.drew.keepS hk3 (by simp))
  have K3 : Hid (Keep w.heap.size [p] w W3) := Lib.hid (KA2.out.drew.trans (hk3.mono KA2.out.drew.size (by simp)))
  have BP3 := Lib.hid hb3
  clear hk3 hb3
  go_wp2_with (refine wpList_store_mid rfl TP (.tmp 4) (.tmp 109) rfl q 0 (pcs zP zL) rfl rfl (by refine thereQ ?_; repeat (first | with_reducible exact BQ3.out | refine Blk.far ?_ hqp _)) infoPd (by exact upd_cells _ _) ?_)
  refine bodyPost_ret (kres_Next _ _ q (zP) (zL) false rfl rfl (by refine Blk.setAll (cs := zcs) (vs := pcs (zP) (zL)) ?_ rfl; repeat (first | with_reducible exact BQ3.out | refine Blk.far ?_ hqp _))) rfl ?_
  have KF : Keep w.heap.size [p] w (W3.setCells q 0 (pcs zP zL).toList) := Keep.setCells (.inl (by rw [HQ.out]; exact Nat.le_refl _)) _ _ _  K3.out
  exact ⟨_, none, .qu2 ha hp hd (.inr htt), HS.out.same rfl rfl (Blk.setCellsFar hpq _ _ _ BP3.out) KF, KF, rfl⟩
set_option maxRecDepth 100000 in
set_option maxHeartbeats 16000000 in
theorem knext_yes (w : World) (p : Nat) (F : List Int) (c : Nat) (l : Ly) (K : Sk) (t T : Nat) (hT : T ≤ t) (ht : t ≤ 400) (hi : IK F c T K) (hn : F.length ≤ 300) (h : SkAt w p F c l K) (ha : K.ad = false) (hp : K.ph = 2) (hd : K.dd = false) (he : K.ended = false) (htt : K.tm + 10 ≤ t) : Calls Try.prog 34 #[ptr p, .int .i64 t] w (KxPost w p F c t l K) := by
  have hnow : K.now ≤ t := Nat.le_trans hi.now hT
  have htmr := hi.tmr
  have ht2 : t ≤ 1000 := by omega
  have htm : K.tm ≤ 400 := by omega
  have hgl : K.got.length ≤ 300 := by have := nrm_len (a := 0) (N := (F.length : Int)) hi.nrm (fun z hz => hi.al.inn hz) (by omega); omega
  have hpI : (K.ph : Int) = 2 := by omega
  have HI := Lib.hid hi
  have HS := Lib.hid h
  have HB := Lib.hid h.blk
  clear h hi
  go_enter Try.func34, Try.ntmps34
  go_upto_region 1 with fail
  obtain ⟨W, q, hW, hq, bq, ka⟩ := newPd w
  have bp := HB.out.keepS ka (by simp)
  have hpq : p ≠ q := by have := HB.out.lt; omega
  have hqp : q ≠ p := hpq.symm
  change Code.wp _ _ _ _ (w.alloc (.cells zcs TP))
  rw [← hW, ← hq]
  have HQ := Lib.hid hq
  clear hW hq
  have BP := Lib.hid bp
  have BQ := Lib.hid bq
  have KA := Lib.hid ka
  clear bp bq ka
  go_wp2_with fail
  refine (kok_w _ p F c l K BP.out).mono ?_
  rintro e w1 ⟨rfl, rfl⟩
  go_wp2_with fail
  refine (kadv_w _ p F c l K t hnow ht2 BP.out).mono ?_
  rintro e W2 ⟨rfl, bp, hk2⟩
  have c5 : W2.cell? ⟨p, 5, none⟩ = some (.int .i64 10) := bp.cell 5
  have c6 : W2.cell? ⟨p, 6, none⟩ = some (.int .i64 50) := bp.cell 6
  have c7 : W2.cell? ⟨p, 7, none⟩ = some (.int .i64 t) := bp.cell 7
  have c8 : W2.cell? ⟨p, 8, none⟩ = some (.int .i64 K.ph) := bp.cell 8
  have c10 : W2.cell? ⟨p, 10, none⟩ = some (.bool false) := bp.cell 10
  have c11 : W2.cell? ⟨p, 11, none⟩ = some (.bool K.named) := bp.cell 11
  have c14 : W2.cell? ⟨p, 14, none⟩ = some (.bool K.fin) := bp.cell 14
  have c19 : W2.cell? ⟨p, 19, none⟩ = some (.int .i64 K.tm) := bp.cell 19
  have c20 : W2.cell? ⟨p, 20, none⟩ = some (.int .i64 K.tr) := bp.cell 20
  have c21 : W2.cell? ⟨p, 21, none⟩ = some (.bool K.ad) := bp.cell 21
  have c22 : W2.cell? ⟨p, 22, none⟩ = some (.bool K.nd) := bp.cell 22
  have fc19 := bp.frozen 19
  have fc20 := bp.frozen 20
  have fc21 := bp.frozen 21
  have fc22 := bp.frozen 22
  have BQ2 := Lib.hid (BQ.out.keepS hk2 (by simpa using hqp))
  have KA2 : Hid (Keep w.heap.size [p] w W2) := Lib.hid ((KA.out.mono (S' := [p]) (Nat.le_refl _) (by simp)).trans (hk2.mono KA.out.size (by simp)))
  have BP2 := Lib.hid bp
  clear hk2 bp
  rw [ha] at c21
  rw [hpI] at c8
  go_upto_region 9 with fail
  refine wp_region_held_drew (S := (fun w' => w'.cell? ⟨p, 8, none⟩ = some (.int .i64 2))) (by kernel_rfl) (by exact c8) (fun hHeld => ?_)
  refine tkH (i := 0) (oi := { dst := some 30, op := Op.move (Operand.tmp 0), type := 79, pos := _, after := _, guard := none }) rfl (by assumption) ?_
  (try simp only [Act.put, List.setIfInBounds_toArray, List.set_cons_zero, List.set_cons_succ])
  refine tkH (i := 1) (oi := { dst := some 31, op := Op.nilCheck (Operand.tmp 30), type := 0, pos := _, after := _, guard := none }) rfl (by assumption) ?_
  (try simp only [Act.put, List.setIfInBounds_toArray, List.set_cons_zero, List.set_cons_succ])
  refine tkH (i := 2) (oi := { dst := some 32, op := Op.fieldAddr 150 (Operand.tmp 31) 5, type := 0, pos := _, after := _, guard := none }) rfl (by assumption) ?_
  (try simp only [Act.put, List.setIfInBounds_toArray, List.set_cons_zero, List.set_cons_succ])
  refine tkH (i := 3) (oi := { dst := some 33, op := Op.load 3 (Operand.tmp 32), type := 3, pos := _, after := _, guard := none }) rfl (by assumption) ?_
  (try simp only [Act.put, List.setIfInBounds_toArray, List.set_cons_zero, List.set_cons_succ])
  refine tkH (i := 4) (oi := { dst := some 34, op := Op.binOp BinOp.eql 3 (Operand.tmp 33) (Operand.const (Value.int IntKind.i64 0)) 3, type := 4, pos := _, after := _, guard := none }) rfl (by assumption) ?_
  (try simp only [Act.put, List.setIfInBounds_toArray, List.set_cons_zero, List.set_cons_succ])
  refine tkH (i := 5) (oi := { dst := some 35, op := Op.move (Operand.tmp 34), type := 4, pos := _, after := _, guard := none }) rfl (by assumption) ?_
  (try simp only [Act.put, List.setIfInBounds_toArray, List.set_cons_zero, List.set_cons_succ])
  refine skH (i := 6) (oi := { dst := some 36, op := Op.move (Operand.tmp 0), type := 79, pos := _, after := _, guard := some (5, true) }) rfl (by assumption) ?_
  (try simp only [Act.put, List.setIfInBounds_toArray, List.set_cons_zero, List.set_cons_succ])
  refine skH (i := 7) (oi := { dst := some 37, op := Op.nilCheck (Operand.tmp 36), type := 0, pos := _, after := _, guard := some (5, true) }) rfl (by assumption) ?_
  (try simp only [Act.put, List.setIfInBounds_toArray, List.set_cons_zero, List.set_cons_succ])
  refine skH (i := 8) (oi := { dst := some 38, op := Op.fieldAddr 150 (Operand.tmp 37) 4, type := 0, pos := _, after := _, guard := some (5, true) }) rfl (by assumption) ?_
  (try simp only [Act.put, List.setIfInBounds_toArray, List.set_cons_zero, List.set_cons_succ])
  refine skH (i := 9) (oi := { dst := some 39, op := Op.load 3 (Operand.tmp 38), type := 3, pos := _, after := _, guard := some (5, true) }) rfl (by assumption) ?_
  (try simp only [Act.put, List.setIfInBounds_toArray, List.set_cons_zero, List.set_cons_succ])
  refine skH (i := 10) (oi := { dst := some 40, op := Op.move (Operand.tmp 0), type := 79, pos := _, after := _, guard := some (5, true) }) rfl (by assumption) ?_
  (try simp only [Act.put, List.setIfInBounds_toArray, List.set_cons_zero, List.set_cons_succ])
  refine skH (i := 11) (oi := { dst := some 41, op := Op.nilCheck (Operand.tmp 40), type := 0, pos := _, after := _, guard := some (5, true) }) rfl (by assumption) ?_
  (try simp only [Act.put, List.setIfInBounds_toArray, List.set_cons_zero, List.set_cons_succ])
  refine skH (i := 12) (oi := { dst := some 42, op := Op.fieldAddr 150 (Operand.tmp 41) 16, type := 0, pos := _, after := _, guard := some (5, true) }) rfl (by assumption) ?_
  (try simp only [Act.put, List.setIfInBounds_toArray, List.set_cons_zero, List.set_cons_succ])
  refine skH (i := 13) (oi := { dst := some 43, op := Op.load 3 (Operand.tmp 42), type := 3, pos := _, after := _, guard := some (5, true) }) rfl (by assumption) ?_
  (try simp only [Act.put, List.setIfInBounds_toArray, List.set_cons_zero, List.set_cons_succ])
  refine skH (i := 14) (oi := { dst := some 44, op := Op.move (Operand.tmp 0), type := 79, pos := _, after := _, guard := some (5, true) }) rfl (by assumption) ?_
  (try simp only [Act.put, List.setIfInBounds_toArray, List.set_cons_zero, List.set_cons_succ])
  refine skH (i := 15) (oi := { dst := some 45, op := Op.nilCheck (Operand.tmp 44), type := 0, pos := _, after := _, guard := some (5, true) }) rfl (by assumption) ?_
  (try simp only [Act.put, List.setIfInBounds_toArray, List.set_cons_zero, List.set_cons_succ])
  refine skH (i := 16) (oi := { dst := some 46, op := Op.fieldAddr 150 (Operand.tmp 45) 3, type := 0, pos := _, after := _, guard := some (5, true) }) rfl (by assumption) ?_
  (try simp only [Act.put, List.setIfInBounds_toArray, List.set_cons_zero, List.set_cons_succ])
  refine skH (i := 17) (oi := { dst := some 47, op := Op.fieldAddr 73 (Operand.tmp 46) 1, type := 0, pos := _, after := _, guard := some (5, true) }) rfl (by assumption) ?_
  (try simp only [Act.put, List.setIfInBounds_toArray, List.set_cons_zero, List.set_cons_succ])
  refine skH (i := 18) (oi := { dst := some 48, op := Op.load 3 (Operand.tmp 47), type := 3, pos := _, after := _, guard := some (5, true) }) rfl (by assumption) ?_
  (try simp only [Act.put, List.setIfInBounds_toArray, List.set_cons_zero, List.set_cons_succ])
  refine skH (i := 19) (oi := { dst := some 49, op := Op.binOp BinOp.add 3 (Operand.tmp 43) (Operand.tmp 48) 3, type := 3, pos := _, after := _, guard := some (5, true) }) rfl (by assumption) ?_
  (try simp only [Act.put, List.setIfInBounds_toArray, List.set_cons_zero, List.set_cons_succ])
  refine skH (i := 20) (oi := { dst := some 50, op := Op.binOp BinOp.geq 3 (Operand.tmp 39) (Operand.tmp 49) 3, type := 4, pos := _, after := _, guard := some (5, true) }) rfl (by assumption) ?_
  (try simp only [Act.put, List.setIfInBounds_toArray, List.set_cons_zero, List.set_cons_succ])
  refine tkH (i := 21) (oi := { dst := some 51, op := Op.pick (Operand.tmp 35) (Operand.tmp 50) (Operand.const (Value.bool false)), type := 4, pos := _, after := _, guard := none }) rfl (by assumption) ?_
  (try simp only [Act.put, List.setIfInBounds_toArray, List.set_cons_zero, List.set_cons_succ])
  refine wpAnyH_done (by kernel_rfl) ?_ _
  go_wp2_with fail
  refine (krep_yes _ p F c l { K with now := t } hd he htt ht2 (by simp only; omega) BP2.out.drew).mono ?_
  rintro e W3 ⟨rfl, hb3, hk3⟩
  have BQ3 := Lib.hid (BQ2.out.drew.keepS hk3 (by simp [hqp]))
  have K3 : Hid (Keep w.heap.size [p] w W3) := Lib.hid (KA2.out.drew.trans (hk3.mono KA2.out.drew.size (by simp)))
  have BP3 := Lib.hid hb3
  clear hk3 hb3
  go_wp2_with (refine wpList_store_mid rfl TP (.tmp 4) (.tmp 109) rfl q 0 (pcs (upd F .fi) (zL)) rfl rfl (by refine thereQ ?_; repeat (first | with_reducible exact BQ3.out | refine Blk.far ?_ hqp _)) infoPd (by exact upd_cells _ _) ?_)
  refine bodyPost_ret (kres_Next _ _ q (upd F .fi) (zL) true rfl rfl (by refine Blk.setAll (cs := zcs) (vs := pcs (upd F .fi) (zL)) ?_ rfl; repeat (first | with_reducible exact BQ3.out | refine Blk.far ?_ hqp _))) rfl ?_
  have KF : Keep w.heap.size [p] w (W3.setCells q 0 (pcs (upd F .fi) (zL)).toList) := Keep.setCells (.inl (by rw [HQ.out]; exact Nat.le_refl _)) _ _ _  K3.out
  exact ⟨_, some .fi, .fi2 ha hp hd he htt, HS.out.same rfl rfl (Blk.setCellsFar hpq _ _ _ BP3.out) KF, KF, _, rfl, pin_z _ F .fi ⟨rfl, rfl⟩, by simp [zL, blks]⟩
set_option maxRecDepth 100000 in
set_option maxHeartbeats 16000000 in
theorem knext_qa (w : World) (p : Nat) (F : List Int) (c : Nat) (l : Ly) (K : Sk) (t T : Nat) (hT : T ≤ t) (ht : t ≤ 400) (hi : IK F c T K) (hn : F.length ≤ 300) (h : SkAt w p F c l K) (ha : K.ad = false) (hp : K.ph = 0) (htt : t < K.tm + 10) (hnd : K.nd = false) : Calls Try.prog 34 #[ptr p, .int .i64 t] w (KxPost w p F c t l K) := by
  have hnow : K.now ≤ t := Nat.le_trans hi.now hT
  have htmr := hi.tmr
  have ht2 : t ≤ 1000 := by omega
  have htm : K.tm ≤ 400 := by omega
  have hgl : K.got.length ≤ 300 := by have := nrm_len (a := 0) (N := (F.length : Int)) hi.nrm (fun z hz => hi.al.inn hz) (by omega); omega
  have hpI : (K.ph : Int) = 0 := by omega
  have ew : IntKind.i64.wrap ((K.tm : Int) + 10) = (K.tm : Int) + 10 := i64k (by omega) (by omega)
  have htI : decide ((K.tm : Int) + 10 ≤ (t : Int)) = false := by simp; omega
  have HI := Lib.hid hi
  have HS := Lib.hid h
  have HB := Lib.hid h.blk
  clear h hi
  go_enter Try.func34, Try.ntmps34
  go_upto_region 1 with fail
  obtain ⟨W, q, hW, hq, bq, ka⟩ := newPd w
  have bp := HB.out.keepS ka (by simp)
  have hpq : p ≠ q := by have := HB.out.lt; omega
  have hqp : q ≠ p := hpq.symm
  change Code.wp _ _ _ _ (w.alloc (.cells zcs TP))
  rw [← hW, ← hq]
  have HQ := Lib.hid hq
  clear hW hq
  have BP := Lib.hid bp
  have BQ := Lib.hid bq
  have KA := Lib.hid ka
  clear bp bq ka
  go_wp2_with fail
  refine (kok_w _ p F c l K BP.out).mono ?_
  rintro e w1 ⟨rfl, rfl⟩
  go_wp2_with fail
  refine (kadv_w _ p F c l K t hnow ht2 BP.out).mono ?_
  rintro e W2 ⟨rfl, bp, hk2⟩
  have c5 : W2.cell? ⟨p, 5, none⟩ = some (.int .i64 10) := bp.cell 5
  have c6 : W2.cell? ⟨p, 6, none⟩ = some (.int .i64 50) := bp.cell 6
  have c7 : W2.cell? ⟨p, 7, none⟩ = some (.int .i64 t) := bp.cell 7
  have c8 : W2.cell? ⟨p, 8, none⟩ = some (.int .i64 K.ph) := bp.cell 8
  have c10 : W2.cell? ⟨p, 10, none⟩ = some (.bool false) := bp.cell 10
  have c11 : W2.cell? ⟨p, 11, none⟩ = some (.bool K.named) := bp.cell 11
  have c14 : W2.cell? ⟨p, 14, none⟩ = some (.bool K.fin) := bp.cell 14
  have c19 : W2.cell? ⟨p, 19, none⟩ = some (.int .i64 K.tm) := bp.cell 19
  have c20 : W2.cell? ⟨p, 20, none⟩ = some (.int .i64 K.tr) := bp.cell 20
  have c21 : W2.cell? ⟨p, 21, none⟩ = some (.bool K.ad) := bp.cell 21
  have c22 : W2.cell? ⟨p, 22, none⟩ = some (.bool K.nd) := bp.cell 22
  have fc19 := bp.frozen 19
  have fc20 := bp.frozen 20
  have fc21 := bp.frozen 21
  have fc22 := bp.frozen 22
  have BQ2 := Lib.hid (BQ.out.keepS hk2 (by simpa using hqp))
  have KA2 : Hid (Keep w.heap.size [p] w W2) := Lib.hid ((KA.out.mono (S' := [p]) (Nat.le_refl _) (by simp)).trans (hk2.mono KA.out.size (by simp)))
  have BP2 := Lib.hid bp
  clear hk2 bp
  rw [ha] at c21
  rw [hpI] at c8
  go_upto_region 9 with fail
  refine wp_region_held_drew (S := (fun w' => w'.cell? ⟨p, 5, none⟩ = some (.int .i64 10) ∧ w'.cell? ⟨p, 7, none⟩ = some (.int .i64 t) ∧ w'.cell? ⟨p, 8, none⟩ = some (.int .i64 0) ∧ w'.cell? ⟨p, 19, none⟩ = some (.int .i64 K.tm))) (by kernel_rfl) (by exact ⟨c5, c7, c8, c19⟩) (fun hHeld => ?_)
  refine tkH (i := 0) (oi := { dst := some 30, op := Op.move (Operand.tmp 0), type := 79, pos := _, after := _, guard := none }) rfl (by assumption) ?_
  (try simp only [Act.put, List.setIfInBounds_toArray, List.set_cons_zero, List.set_cons_succ])
  refine tkH (i := 1) (oi := { dst := some 31, op := Op.nilCheck (Operand.tmp 30), type := 0, pos := _, after := _, guard := none }) rfl (by assumption) ?_
  (try simp only [Act.put, List.setIfInBounds_toArray, List.set_cons_zero, List.set_cons_succ])
  refine tkH (i := 2) (oi := { dst := some 32, op := Op.fieldAddr 150 (Operand.tmp 31) 5, type := 0, pos := _, after := _, guard := none }) rfl (by assumption) ?_
  (try simp only [Act.put, List.setIfInBounds_toArray, List.set_cons_zero, List.set_cons_succ])
  refine tkH (i := 3) (oi := { dst := some 33, op := Op.load 3 (Operand.tmp 32), type := 3, pos := _, after := _, guard := none }) rfl (by assumption) ?_
  (try simp only [Act.put, List.setIfInBounds_toArray, List.set_cons_zero, List.set_cons_succ])
  refine tkH (i := 4) (oi := { dst := some 34, op := Op.binOp BinOp.eql 3 (Operand.tmp 33) (Operand.const (Value.int IntKind.i64 0)) 3, type := 4, pos := _, after := _, guard := none }) rfl (by assumption) ?_
  (try simp only [Act.put, List.setIfInBounds_toArray, List.set_cons_zero, List.set_cons_succ])
  refine tkH (i := 5) (oi := { dst := some 35, op := Op.move (Operand.tmp 34), type := 4, pos := _, after := _, guard := none }) rfl (by assumption) ?_
  (try simp only [Act.put, List.setIfInBounds_toArray, List.set_cons_zero, List.set_cons_succ])
  refine tkH (i := 6) (oi := { dst := some 36, op := Op.move (Operand.tmp 0), type := 79, pos := _, after := _, guard := some (5, true) }) rfl (by assumption) ?_
  (try simp only [Act.put, List.setIfInBounds_toArray, List.set_cons_zero, List.set_cons_succ])
  refine tkH (i := 7) (oi := { dst := some 37, op := Op.nilCheck (Operand.tmp 36), type := 0, pos := _, after := _, guard := some (5, true) }) rfl (by assumption) ?_
  (try simp only [Act.put, List.setIfInBounds_toArray, List.set_cons_zero, List.set_cons_succ])
  refine tkH (i := 8) (oi := { dst := some 38, op := Op.fieldAddr 150 (Operand.tmp 37) 4, type := 0, pos := _, after := _, guard := some (5, true) }) rfl (by assumption) ?_
  (try simp only [Act.put, List.setIfInBounds_toArray, List.set_cons_zero, List.set_cons_succ])
  refine tkH (i := 9) (oi := { dst := some 39, op := Op.load 3 (Operand.tmp 38), type := 3, pos := _, after := _, guard := some (5, true) }) rfl (by assumption) ?_
  (try simp only [Act.put, List.setIfInBounds_toArray, List.set_cons_zero, List.set_cons_succ])
  refine tkH (i := 10) (oi := { dst := some 40, op := Op.move (Operand.tmp 0), type := 79, pos := _, after := _, guard := some (5, true) }) rfl (by assumption) ?_
  (try simp only [Act.put, List.setIfInBounds_toArray, List.set_cons_zero, List.set_cons_succ])
  refine tkH (i := 11) (oi := { dst := some 41, op := Op.nilCheck (Operand.tmp 40), type := 0, pos := _, after := _, guard := some (5, true) }) rfl (by assumption) ?_
  (try simp only [Act.put, List.setIfInBounds_toArray, List.set_cons_zero, List.set_cons_succ])
  refine tkH (i := 12) (oi := { dst := some 42, op := Op.fieldAddr 150 (Operand.tmp 41) 16, type := 0, pos := _, after := _, guard := some (5, true) }) rfl (by assumption) ?_
  (try simp only [Act.put, List.setIfInBounds_toArray, List.set_cons_zero, List.set_cons_succ])
  refine tkH (i := 13) (oi := { dst := some 43, op := Op.load 3 (Operand.tmp 42), type := 3, pos := _, after := _, guard := some (5, true) }) rfl (by assumption) ?_
  (try simp only [Act.put, List.setIfInBounds_toArray, List.set_cons_zero, List.set_cons_succ])
  refine tkH (i := 14) (oi := { dst := some 44, op := Op.move (Operand.tmp 0), type := 79, pos := _, after := _, guard := some (5, true) }) rfl (by assumption) ?_
  (try simp only [Act.put, List.setIfInBounds_toArray, List.set_cons_zero, List.set_cons_succ])
  refine tkH (i := 15) (oi := { dst := some 45, op := Op.nilCheck (Operand.tmp 44), type := 0, pos := _, after := _, guard := some (5, true) }) rfl (by assumption) ?_
  (try simp only [Act.put, List.setIfInBounds_toArray, List.set_cons_zero, List.set_cons_succ])
  refine tkH (i := 16) (oi := { dst := some 46, op := Op.fieldAddr 150 (Operand.tmp 45) 3, type := 0, pos := _, after := _, guard := some (5, true) }) rfl (by assumption) ?_
  (try simp only [Act.put, List.setIfInBounds_toArray, List.set_cons_zero, List.set_cons_succ])
  refine tkH (i := 17) (oi := { dst := some 47, op := Op.fieldAddr 73 (Operand.tmp 46) 1, type := 0, pos := _, after := _, guard := some (5, true) }) rfl (by assumption) ?_
  (try simp only [Act.put, List.setIfInBounds_toArray, List.set_cons_zero, List.set_cons_succ])
  refine tkH (i := 18) (oi := { dst := some 48, op := Op.load 3 (Operand.tmp 47), type := 3, pos := _, after := _, guard := some (5, true) }) rfl (by assumption) ?_
  (try simp only [Act.put, List.setIfInBounds_toArray, List.set_cons_zero, List.set_cons_succ])
  refine tkH (i := 19) (oi := { dst := some 49, op := Op.binOp BinOp.add 3 (Operand.tmp 43) (Operand.tmp 48) 3, type := 3, pos := _, after := _, guard := some (5, true) }) rfl (by assumption) ?_
  (try simp only [Act.put, List.setIfInBounds_toArray, List.set_cons_zero, List.set_cons_succ])
  refine tkH (i := 20) (oi := { dst := some 50, op := Op.binOp BinOp.geq 3 (Operand.tmp 39) (Operand.tmp 49) 3, type := 4, pos := _, after := _, guard := some (5, true) }) rfl (by assumption) ?_
  (try simp only [Act.put, List.setIfInBounds_toArray, List.set_cons_zero, List.set_cons_succ])
  refine tkH (i := 21) (oi := { dst := some 51, op := Op.pick (Operand.tmp 35) (Operand.tmp 50) (Operand.const (Value.bool false)), type := 4, pos := _, after := _, guard := none }) rfl (by assumption) ?_
  (try simp only [Act.put, List.setIfInBounds_toArray, List.set_cons_zero, List.set_cons_succ])
  refine wpAnyH_done (by kernel_rfl) ?_ _
  obtain ⟨W3, hW3⟩ : ∃ V, V = W2.drew := ⟨_, rfl⟩
  rw [← hW3]
  have BP3 : Hid (Blk W3 p TK (kcs F c l { K with now := t })) := Lib.hid (hW3 ▸ BP2.out.drew)
  have BQ3 : Hid (Blk W3 q TP zcs) := Lib.hid (hW3 ▸ BQ2.out.drew)
  have K3 : Hid (Keep w.heap.size [p] w W3) := Lib.hid (hW3 ▸ KA2.out.drew)
  clear hHeld hW3 c5 c6 c7 c8 c10 c11 c14 c19 c20 c21 c22 fc19 fc20 fc21 fc22
  have c8 : W3.cell? ⟨p, 8, none⟩ = some (.int .i64 0) := by rw [← hpI]; exact BP3.out.cell 8
  have c22 : W3.cell? ⟨p, 22, none⟩ = some (.bool false) := by rw [← hnd]; exact BP3.out.cell 22
  go_wp2_with (refine wpList_store_mid rfl TP (.tmp 4) (.tmp 123) rfl q 0 (pcs zP zL) rfl rfl (by refine thereQ ?_; repeat (first | with_reducible exact BQ3.out | refine Blk.far ?_ hqp _)) infoPd (by exact upd_cells _ _) ?_)
  refine bodyPost_ret (kres_Next _ _ q (zP) (zL) false rfl rfl (by refine Blk.setAll (cs := zcs) (vs := pcs (zP) (zL)) ?_ rfl; repeat (first | with_reducible exact BQ3.out | refine Blk.far ?_ hqp _))) rfl ?_
  have KF : Keep w.heap.size [p] w (W3.setCells q 0 (pcs zP zL).toList) := Keep.setCells (.inl (by rw [HQ.out]; exact Nat.le_refl _)) _ _ _  K3.out
  have hq : NextK F.length t K (tick t K) none := .qu0 ha hp (by rw [tick_no htt]; exact hnd)
  rw [tick_no htt] at hq
  exact ⟨_, none, hq, HS.out.same rfl rfl (Blk.setCellsFar hpq _ _ _ BP3.out) KF, KF, rfl⟩
end Go.Proofs.Ytfkbcflgbjncdaa
