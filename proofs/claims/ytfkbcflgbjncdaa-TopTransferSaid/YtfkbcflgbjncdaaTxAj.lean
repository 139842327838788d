/- The receiving end: Take. -/
import Derived.Test.YtfkbcflgbjncdaaTxR
import Derived.Test.YtfkbcflgbjncdaaTxAh
namespace Go.Proofs.Ytfkbcflgbjncdaa
set_option linter.unusedVariables false
set_option linter.unusedSimpArgs false
open Go.RowKit
theorem rec_now {F : List Int} {t : Nat} {K K' : Sk} {u : Ut} (h : RecK F t { K with now := t } u K') : RecK F t K u K' := by
  cases h with
  | md0 h0 => exact .md0 h0
  | md1 h0 h1 => exact .md1 h0 h1
  | md2 h0 h1 => exact .md2 h0 h1
  | pc0 a b h0 => exact .pc0 a b h0
  | pc1 a b N D h0 h1 h2 h3 h4 h5 h6 => exact .pc1 a b N D h0 h1 h2 h3 h4 h5 h6
  | pc2 a b N D h0 h1 h2 h3 h4 h5 h6 => exact .pc2 a b N D h0 h1 h2 h3 h4 h5 h6
  | ef0 h0 => exact .ef0 h0
  | ef1 h0 h1 => exact .ef1 h0 h1
  | ef2 h0 h1 => exact .ef2 h0 h1
  | ad h0 => exact .ad h0
theorem rec_any (w : World) (p : Nat) (F : List Int) (c : Nat) (l : Ly) (K : Sk) (u : Ut) (lu : Lc) (hph : K.ph = 0 ∨ K.ph = 1 ∨ K.ph = 2) (hu : match u with | .pc a b => a < b ∧ b ≤ F.length | .ad => K.ph = 2 | .md => True | .ef => True | _ => False) (h : SkAt w p F c l K) (hr : RcPre w F l p K u lu) : Calls Try.prog 90 #[ptr p, .agg (pcs (upd F u) lu)] w (RcPost w p F c l K u) := by
  cases u with
  | md =>
    rcases hph with h0 | h0 | h0
    · exact krec_md_p0 w p F c l K lu h0 h hr
    · exact krec_md_p1 w p F c l K lu h0 h hr
    · exact krec_md_p2 w p F c l K lu h0 h hr
  | pc a b =>
    rcases hph with h0 | h0 | h0
    · exact krec_pc_p0 w p F c l K lu a b hu.1 hu.2 h0 h hr
    · exact krec_pc_p1 w p F c l K lu a b h0 h hr
    · exact krec_pc_p2 w p F c l K lu a b h0 h hr
  | ef =>
    rcases hph with h0 | h0 | h0
    · exact krec_ef_p0 w p F c l K lu h0 h hr
    · exact krec_ef_p1 w p F c l K lu h0 h hr
    · exact krec_ef_p2 w p F c l K lu h0 h hr
  | ad => exact krec_ad_p2 w p F c l K lu hu h hr
  | ae => exact hu.elim
  | nk m L => exact hu.elim
  | fi => exact hu.elim
/-- what Take gives -/
def KtPost (w : World) (p : Nat) (F : List Int) (c t : Nat) (l : Ly) (K : Sk) (u : Ut) (e : Ending) (w' : World) : Prop :=
  ∃ l' K', e = .returned (.int .i64 0) ∧ RecK F t K u K' ∧ SkAt w' p F c l' (chk F.length K') ∧ Keep w.heap.size (p :: blks l.D) w w' ∧ ∀ y, y ∈ sbl p l' → y ∈ sbl p l ∨ w.heap.size ≤ y
set_option maxRecDepth 100000 in
set_option maxHeartbeats 4000000 in
theorem ktake_md (w : World) (p : Nat) (F : List Int) (c : Nat) (l : Ly) (K : Sk) (lu : Lc) (t : Nat) (hs : K.now ≤ t) (ht : t ≤ 1000) (hph : K.ph = 0 ∨ K.ph = 1 ∨ K.ph = 2) (h : SkAt w p F c l K) (hr : RcPre w F l p K .md lu) (hv : validP (upd F .md) = true) (hlu : p ∉ blks lu.D ++ blks lu.G)
    (hwh : ∀ K', RecK F t K .md K' → Nrm K'.got ∧ (∀ z, mem K'.got z → 0 ≤ z ∧ z < (F.length : Int)) ∧ (¬ width K'.got < F.length → K'.dat = F) ∧ (K'.ph = 0 ∨ K'.ph = 1 ∨ K'.ph = 2)) : Calls Try.prog 31 #[ptr p, .agg (pcs (upd F .md) lu), .int .i64 t] w (KtPost w p F c t l K .md) := by
  have HWH := Lib.hid hwh
  have HR := Lib.hid hr
  have HS := Lib.hid h
  have HVU := Lib.hid hv
  have HB := Lib.hid h.blk
  clear h hr hv hwh
  go_enter Try.func31, Try.ntmps31
  go_upto_region 1 with fail
  obtain ⟨W, hW⟩ : ∃ W, W = w.alloc (.cells (pcs (upd F .md) lu) TP) := ⟨_, rfl⟩
  obtain ⟨q, hq⟩ : ∃ q, q = w.heap.size := ⟨_, rfl⟩
  have bq : Blk W q TP (pcs (upd F .md) lu) := by rw [hW, hq]; exact Blk.new _ _ _
  have ka : Keep w.heap.size [] w W := by rw [hW]; exact (Keep.refl _ _ _).alloc (Nat.le_refl _) _
  have hpq : p ≠ q := by have := HB.out.lt; omega
  have hqp : q ≠ p := hpq.symm
  change Code.wp _ _ _ _ (w.alloc (.cells (pcs (upd F .md) lu) TP))
  rw [← hW, ← hq]
  have bp := HB.out.keepS ka (by simp)
  clear hW hq
  have BP := Lib.hid bp
  have BQ := Lib.hid bq
  have KA := Lib.hid ka
  clear bp bq ka
  have UA := Lib.hid (HR.out.pin.keep0 KA.out)
  have SA := Lib.hid (HS.out.keepS KA.out (by simp))
  go_wp2_with fail
  refine (kok_w _ p F c l K BP.out).mono ?_
  rintro e W ⟨rfl, rfl⟩
  go_wp2_with fail
  refine (kadv_w _ p F c l K t hs ht BP.out).mono ?_
  rintro e W2 ⟨rfl, bp, hk2⟩
  have bq2 := BQ.out.keepS hk2 (by simpa using hqp)
  have c1 : W2.cell? ⟨p, 1, none⟩ = some (.int .i64 1) := bp.cell 1
  have c2 : W2.cell? ⟨p, 2, none⟩ = some (.int .i64 7) := bp.cell 2
  have c3 : W2.cell? ⟨p, 3, none⟩ = some (.int .i64 2) := bp.cell 3
  have z0 : W2.cell? ⟨q, 0, none⟩ = some (.int .i64 1) := bq2.cell 0
  have z1 : W2.cell? ⟨q, 1, none⟩ = some (.int .i64 1) := bq2.cell 1
  have z2 : W2.cell? ⟨q, 2, none⟩ = some (.int .i64 7) := bq2.cell 2
  have zr : W2.rangeAt q 0 (pcs (upd F .md) lu).toList := bq2.range
  have S2 : Hid (SkAt W2 p F c l { K with now := t }) := Lib.hid (SA.out.same rfl rfl bp hk2)
  have K2 : Hid (Keep w.heap.size [p] w W2) := Lib.hid ((KA.out.mono (S' := [p]) (Nat.le_refl _) (by simp)).trans (hk2.mono KA.out.size (by simp)))
  have BQ2 := Lib.hid bq2
  have UA2 : Hid (PIn W2 (upd F .md) lu) := Lib.hid (UA.out.keepP hk2 (fun g hg hm => hlu (by rw [← List.mem_singleton.1 hm]; exact hg)))
  clear hk2 bp bq2
  go_upto_region 4 with fail
  have y0 : (fun w' => w'.rangeAt q 0 (pcs (upd F .md) lu).toList ∧ w'.cell? ⟨q, 0, none⟩ = some (.int .i64 1) ∧ w'.cell? ⟨q, 1, none⟩ = some (.int .i64 1) ∧ w'.cell? ⟨q, 2, none⟩ = some (.int .i64 7) ∧ w'.cell? ⟨p, 1, none⟩ = some (.int .i64 1) ∧ w'.cell? ⟨p, 2, none⟩ = some (.int .i64 7)) W2.drew := ⟨zr, z0, z1, z2, c1, c2⟩
  refine wp_region_held_drew (S := (fun w' => w'.rangeAt q 0 (pcs (upd F .md) lu).toList ∧ w'.cell? ⟨q, 0, none⟩ = some (.int .i64 1) ∧ w'.cell? ⟨q, 1, none⟩ = some (.int .i64 1) ∧ w'.cell? ⟨q, 2, none⟩ = some (.int .i64 7) ∧ w'.cell? ⟨p, 1, none⟩ = some (.int .i64 1) ∧ w'.cell? ⟨p, 2, none⟩ = some (.int .i64 7))) (by kernel_rfl) (by exact y0) (fun hHeld => ?_)
  refine wpAnyH_take (i := 0) (oi := { dst := some 14, op := Op.load 85 (Operand.tmp 4), type := 85, pos := _, after := _, guard := none }) (v := _) rfl (by kernel_rfl) (by kernel_rfl) (by kernel_rfl) (fun _ _ _ h => h) (yieldsIf_load_mid (by rfl) TP (.tmp 4) rfl q 0 rfl (pcs (upd F .md) lu).toList _ (fun _ h => h.1) Try.underlying85 rfl (by rw [infoPd]; rfl)) (by assumption) ?_
  (try simp only [Act.put, List.setIfInBounds_toArray, List.set_cons_zero, List.set_cons_succ])
  refine wpAnyH_ready (rs := [1]) (by kernel_rfl) (by simp) ?_
  refine (AllReadyH.cons (o := { dst := some 15, op := Op.call { callee := Callee.value (Operand.func 75), args := #[Operand.tmp 14], argTypes := #[85] }, type := 4, pos := _, after := _, guard := none }) rfl (fun KQ hK => ?_) AllReadyH.nil)
  go_simp
  refine (pvalid_b _ (upd F .md) lu true (by exact UA2.out.drew) HVU.out).mono ?_
  rintro e W3 ⟨rfl, hk3⟩
  have bq3 := BQ2.out.drew.keepS hk3 (by simp)
  have s3 : SkAt W3 p F c l { K with now := t } := SkAt.keepS (w := W2.drew) ⟨S2.out.blk.drew, S2.out.data.drew, S2.out.oct, S2.out.nD, S2.out.got.drew, S2.out.nW, S2.out.nDW⟩ hk3 (by simp)
  have K3 : Hid (Keep w.heap.size [p] w W3) := Lib.hid (K2.out.drew.trans (hk3.mono K2.out.drew.size (by simp)))
  have UA3 : Hid (PIn W3 (upd F .md) lu) := Lib.hid (UA2.out.drew.keep0 hk3)
  have y1 : (fun w' => w'.rangeAt q 0 (pcs (upd F .md) lu).toList ∧ w'.cell? ⟨q, 0, none⟩ = some (.int .i64 1) ∧ w'.cell? ⟨q, 1, none⟩ = some (.int .i64 1) ∧ w'.cell? ⟨q, 2, none⟩ = some (.int .i64 7) ∧ w'.cell? ⟨p, 1, none⟩ = some (.int .i64 1) ∧ w'.cell? ⟨p, 2, none⟩ = some (.int .i64 7)) W3 := ⟨bq3.range, bq3.cell 0, bq3.cell 1, bq3.cell 2, s3.blk.cell 1, s3.blk.cell 2⟩
  have S3 := Lib.hid s3
  have BQ3 := Lib.hid bq3
  clear hk3 s3 bq3 y0 z0 z1 z2 zr c1 c2 c3
  refine hK.out _ _ (by exact y1) (fun hHeld => ?_)
  clear hK KQ
  (try simp only [Act.put, List.setIfInBounds_toArray, List.set_cons_zero, List.set_cons_succ])
  refine tkH (i := 2) (oi := { dst := some 16, op := Op.unOp UnOp.not 4 (Operand.tmp 15), type := 4, pos := _, after := _, guard := none }) rfl (by assumption) ?_
  (try simp only [Act.put, List.setIfInBounds_toArray, List.set_cons_zero, List.set_cons_succ])
  refine tkH (i := 3) (oi := { dst := some 17, op := Op.move (Operand.tmp 16), type := 4, pos := _, after := _, guard := none }) rfl (by assumption) ?_
  (try simp only [Act.put, List.setIfInBounds_toArray, List.set_cons_zero, List.set_cons_succ])
  refine tkH (i := 4) (oi := { dst := some 18, op := Op.fieldAddr 85 (Operand.tmp 4) 1, type := 0, pos := _, after := _, guard := some (3, false) }) rfl (by assumption) ?_
  (try simp only [Act.put, List.setIfInBounds_toArray, List.set_cons_zero, List.set_cons_succ])
  refine tkH (i := 5) (oi := { dst := some 19, op := Op.load 75 (Operand.tmp 18), type := 75, pos := _, after := _, guard := some (3, false) }) rfl (by assumption) ?_
  (try simp only [Act.put, List.setIfInBounds_toArray, List.set_cons_zero, List.set_cons_succ])
  refine tkH (i := 6) (oi := { dst := some 20, op := Op.move (Operand.tmp 0), type := 79, pos := _, after := _, guard := some (3, false) }) rfl (by assumption) ?_
  (try simp only [Act.put, List.setIfInBounds_toArray, List.set_cons_zero, List.set_cons_succ])
  refine tkH (i := 7) (oi := { dst := some 21, op := Op.nilCheck (Operand.tmp 20), type := 0, pos := _, after := _, guard := some (3, false) }) rfl (by assumption) ?_
  (try simp only [Act.put, List.setIfInBounds_toArray, List.set_cons_zero, List.set_cons_succ])
  refine tkH (i := 8) (oi := { dst := some 22, op := Op.fieldAddr 150 (Operand.tmp 21) 1, type := 0, pos := _, after := _, guard := some (3, false) }) rfl (by assumption) ?_
  (try simp only [Act.put, List.setIfInBounds_toArray, List.set_cons_zero, List.set_cons_succ])
  refine tkH (i := 9) (oi := { dst := some 23, op := Op.load 75 (Operand.tmp 22), type := 75, pos := _, after := _, guard := some (3, false) }) rfl (by assumption) ?_
  (try simp only [Act.put, List.setIfInBounds_toArray, List.set_cons_zero, List.set_cons_succ])
  refine tkH (i := 10) (oi := { dst := some 24, op := Op.binOp BinOp.neq 75 (Operand.tmp 19) (Operand.tmp 23) 75, type := 4, pos := _, after := _, guard := some (3, false) }) rfl (by assumption) ?_
  (try simp only [Act.put, List.setIfInBounds_toArray, List.set_cons_zero, List.set_cons_succ])
  refine tkH (i := 11) (oi := { dst := some 25, op := Op.pick (Operand.tmp 17) (Operand.const (Value.bool true)) (Operand.tmp 24), type := 4, pos := _, after := _, guard := none }) rfl (by assumption) ?_
  (try simp only [Act.put, List.setIfInBounds_toArray, List.set_cons_zero, List.set_cons_succ])
  refine tkH (i := 12) (oi := { dst := some 26, op := Op.move (Operand.tmp 25), type := 4, pos := _, after := _, guard := none }) rfl (by assumption) ?_
  (try simp only [Act.put, List.setIfInBounds_toArray, List.set_cons_zero, List.set_cons_succ])
  refine tkH (i := 13) (oi := { dst := some 27, op := Op.fieldAddr 85 (Operand.tmp 4) 0, type := 0, pos := _, after := _, guard := some (12, false) }) rfl (by assumption) ?_
  (try simp only [Act.put, List.setIfInBounds_toArray, List.set_cons_zero, List.set_cons_succ])
  refine tkH (i := 14) (oi := { dst := some 28, op := Op.load 3 (Operand.tmp 27), type := 3, pos := _, after := _, guard := some (12, false) }) rfl (by assumption) ?_
  (try simp only [Act.put, List.setIfInBounds_toArray, List.set_cons_zero, List.set_cons_succ])
  refine wpAnyH_ready (rs := [15]) (by kernel_rfl) (by simp) ?_
  refine (AllReadyH.cons (o := { dst := some 29, op := Op.call { callee := Callee.value (Operand.func 89), args := #[Operand.tmp 28], argTypes := #[3] }, type := 4, pos := _, after := _, guard := some (12, false) }) rfl (fun KQ hK => ?_) AllReadyH.nil)
  go_simp
  refine (pfwd_b _ 1 true (by rfl)).mono ?_
  rintro e W3 ⟨rfl, rfl⟩
  refine hK.out _ _ (by exact y1) (fun hHeld => ?_)
  clear hK KQ
  (try simp only [Act.put, List.setIfInBounds_toArray, List.set_cons_zero, List.set_cons_succ])
  refine tkH (i := 16) (oi := { dst := some 30, op := Op.unOp UnOp.not 4 (Operand.tmp 29), type := 4, pos := _, after := _, guard := some (12, false) }) rfl (by assumption) ?_
  (try simp only [Act.put, List.setIfInBounds_toArray, List.set_cons_zero, List.set_cons_succ])
  refine tkH (i := 17) (oi := { dst := some 31, op := Op.pick (Operand.tmp 26) (Operand.const (Value.bool true)) (Operand.tmp 30), type := 4, pos := _, after := _, guard := none }) rfl (by assumption) ?_
  (try simp only [Act.put, List.setIfInBounds_toArray, List.set_cons_zero, List.set_cons_succ])
  refine wpAnyH_done (by kernel_rfl) ?_ _
  clear hHeld y1
  have r0 : W3.cell? ⟨q, 0, none⟩ = some (.int .i64 1) := BQ3.out.cell 0
  have r3 : W3.cell? ⟨q, 3, none⟩ = some (.int .i64 2) := BQ3.out.cell 3
  have c3 : W3.cell? ⟨p, 3, none⟩ = some (.int .i64 2) := S3.out.blk.cell 3
  go_upto_region 6 with fail
  refine wp_region_held_drew (S := (fun w' => w'.cell? ⟨q, 0, none⟩ = some (.int .i64 1) ∧ w'.cell? ⟨q, 3, none⟩ = some (.int .i64 2) ∧ w'.cell? ⟨p, 3, none⟩ = some (.int .i64 2))) (by kernel_rfl) (by exact ⟨r0, r3, c3⟩) (fun hHeld => ?_)
  refine tkH (i := 0) (oi := { dst := some 32, op := Op.fieldAddr 85 (Operand.tmp 4) 0, type := 0, pos := _, after := _, guard := none }) rfl (by assumption) ?_
  (try simp only [Act.put, List.setIfInBounds_toArray, List.set_cons_zero, List.set_cons_succ])
  refine tkH (i := 1) (oi := { dst := some 33, op := Op.load 3 (Operand.tmp 32), type := 3, pos := _, after := _, guard := none }) rfl (by assumption) ?_
  (try simp only [Act.put, List.setIfInBounds_toArray, List.set_cons_zero, List.set_cons_succ])
  refine tkH (i := 2) (oi := { dst := some 34, op := Op.binOp BinOp.eql 3 (Operand.tmp 33) (Operand.const (Value.int IntKind.i64 1)) 3, type := 4, pos := _, after := _, guard := none }) rfl (by assumption) ?_
  (try simp only [Act.put, List.setIfInBounds_toArray, List.set_cons_zero, List.set_cons_succ])
  refine tkH (i := 3) (oi := { dst := some 35, op := Op.move (Operand.tmp 34), type := 4, pos := _, after := _, guard := none }) rfl (by assumption) ?_
  (try simp only [Act.put, List.setIfInBounds_toArray, List.set_cons_zero, List.set_cons_succ])
  refine skH (i := 4) (oi := { dst := some 36, op := Op.fieldAddr 85 (Operand.tmp 4) 0, type := 0, pos := _, after := _, guard := some (3, false) }) rfl (by assumption) ?_
  (try simp only [Act.put, List.setIfInBounds_toArray, List.set_cons_zero, List.set_cons_succ])
  refine skH (i := 5) (oi := { dst := some 37, op := Op.load 3 (Operand.tmp 36), type := 3, pos := _, after := _, guard := some (3, false) }) rfl (by assumption) ?_
  (try simp only [Act.put, List.setIfInBounds_toArray, List.set_cons_zero, List.set_cons_succ])
  refine skH (i := 6) (oi := { dst := some 38, op := Op.binOp BinOp.eql 3 (Operand.tmp 37) (Operand.const (Value.int IntKind.i64 3)) 3, type := 4, pos := _, after := _, guard := some (3, false) }) rfl (by assumption) ?_
  (try simp only [Act.put, List.setIfInBounds_toArray, List.set_cons_zero, List.set_cons_succ])
  refine tkH (i := 7) (oi := { dst := some 39, op := Op.pick (Operand.tmp 35) (Operand.const (Value.bool true)) (Operand.tmp 38), type := 4, pos := _, after := _, guard := none }) rfl (by assumption) ?_
  (try simp only [Act.put, List.setIfInBounds_toArray, List.set_cons_zero, List.set_cons_succ])
  refine tkH (i := 8) (oi := { dst := some 40, op := Op.move (Operand.tmp 39), type := 4, pos := _, after := _, guard := none }) rfl (by assumption) ?_
  (try simp only [Act.put, List.setIfInBounds_toArray, List.set_cons_zero, List.set_cons_succ])
  refine tkH (i := 9) (oi := { dst := some 41, op := Op.fieldAddr 85 (Operand.tmp 4) 2, type := 0, pos := _, after := _, guard := some (8, true) }) rfl (by assumption) ?_
  (try simp only [Act.put, List.setIfInBounds_toArray, List.set_cons_zero, List.set_cons_succ])
  refine tkH (i := 10) (oi := { dst := some 42, op := Op.load 3 (Operand.tmp 41), type := 3, pos := _, after := _, guard := some (8, true) }) rfl (by assumption) ?_
  (try simp only [Act.put, List.setIfInBounds_toArray, List.set_cons_zero, List.set_cons_succ])
  refine tkH (i := 11) (oi := { dst := some 43, op := Op.move (Operand.tmp 0), type := 79, pos := _, after := _, guard := some (8, true) }) rfl (by assumption) ?_
  (try simp only [Act.put, List.setIfInBounds_toArray, List.set_cons_zero, List.set_cons_succ])
  refine tkH (i := 12) (oi := { dst := some 44, op := Op.nilCheck (Operand.tmp 43), type := 0, pos := _, after := _, guard := some (8, true) }) rfl (by assumption) ?_
  (try simp only [Act.put, List.setIfInBounds_toArray, List.set_cons_zero, List.set_cons_succ])
  refine tkH (i := 13) (oi := { dst := some 45, op := Op.fieldAddr 150 (Operand.tmp 44) 2, type := 0, pos := _, after := _, guard := some (8, true) }) rfl (by assumption) ?_
  (try simp only [Act.put, List.setIfInBounds_toArray, List.set_cons_zero, List.set_cons_succ])
  refine tkH (i := 14) (oi := { dst := some 46, op := Op.load 3 (Operand.tmp 45), type := 3, pos := _, after := _, guard := some (8, true) }) rfl (by assumption) ?_
  (try simp only [Act.put, List.setIfInBounds_toArray, List.set_cons_zero, List.set_cons_succ])
  refine tkH (i := 15) (oi := { dst := some 47, op := Op.binOp BinOp.neq 3 (Operand.tmp 42) (Operand.tmp 46) 3, type := 4, pos := _, after := _, guard := some (8, true) }) rfl (by assumption) ?_
  (try simp only [Act.put, List.setIfInBounds_toArray, List.set_cons_zero, List.set_cons_succ])
  refine tkH (i := 16) (oi := { dst := some 48, op := Op.pick (Operand.tmp 40) (Operand.tmp 47) (Operand.const (Value.bool false)), type := 4, pos := _, after := _, guard := none }) rfl (by assumption) ?_
  (try simp only [Act.put, List.setIfInBounds_toArray, List.set_cons_zero, List.set_cons_succ])
  refine wpAnyH_done (by kernel_rfl) ?_ _
  clear hHeld
  go_wp2_with (refine wpList_load_mid rfl TP (.tmp 4) rfl q 0 rfl (pcs (upd F .md) lu).toList _ BQ3.out.drew.range Try.underlying85 rfl (by rw [infoPd]; rfl) ?_)
  have hr4 : RcPre W3.drew F l p { K with now := t } .md lu := ⟨HR.out.gn, HR.out.gi, HR.out.gd, HR.out.dl, HR.out.n, HR.out.oct, UA3.out.drew, HR.out.ud⟩
  have s4 : SkAt W3.drew p F c l { K with now := t } := ⟨S3.out.blk.drew, S3.out.data.drew, S3.out.oct, S3.out.nD, S3.out.got.drew, S3.out.nW, S3.out.nDW⟩
  refine (rec_any _ p F c l { K with now := t } .md lu hph trivial s4 hr4).mono ?_
  rintro e W5 ⟨l5, K5, rfl, hrc, hs5, hk5, hf5⟩
  have hrc2 := rec_now hrc
  obtain ⟨w1, w2, w3, w4⟩ := HWH.out K5 hrc2
  have RC := Lib.hid hrc2
  have S5 := Lib.hid hs5
  have F5 := Lib.hid hf5
  have KB : Hid (Keep w.heap.size (p :: blks l.D) w W5) := Lib.hid ((K3.out.drew.mono (S' := p :: blks l.D) (Nat.le_refl _) (fun y _ hy => by simp only [List.mem_singleton] at hy; simp [hy])).trans (hk5.mono K3.out.drew.size (fun y _ hy => hy)))
  clear hrc hrc2 hs5 hf5 hk5 hr4 s4
  go_wp2_with fail
  refine (kchk_w _ p F c l5 K5 w4 HR.out.n HR.out.oct w1 w2 (fun hw => w3 (by omega)) S5.out).mono ?_
  rintro e W6 ⟨rfl, hs6, hk6⟩
  have S6 := Lib.hid hs6
  have K6 : Hid (Keep w.heap.size (p :: blks l.D) w W6) := Lib.hid (KB.out.trans (hk6.mono KB.out.size (fun y _ hy => by simp only [List.mem_singleton] at hy; simp [hy])))
  clear hs6 hk6
  go_wp2_with fail
  go_ret
  refine ⟨l5, K5, rfl, RC.out, S6.out, K6.out, fun y hy => ?_⟩
  have := K3.out.drew.size
  rcases F5.out y hy with h9 | h9
  · exact .inl h9
  · right; omega
set_option maxRecDepth 100000 in
set_option maxHeartbeats 4000000 in
theorem ktake_pc (w : World) (p : Nat) (F : List Int) (c : Nat) (l : Ly) (K : Sk) (lu : Lc) (a b : Nat) (hab : a < b) (hbn : b ≤ F.length) (t : Nat) (hs : K.now ≤ t) (ht : t ≤ 1000) (hph : K.ph = 0 ∨ K.ph = 1 ∨ K.ph = 2) (h : SkAt w p F c l K) (hr : RcPre w F l p K (.pc a b) lu) (hv : validP (upd F (.pc a b)) = true) (hlu : p ∉ blks lu.D ++ blks lu.G)
    (hwh : ∀ K', RecK F t K (.pc a b) K' → Nrm K'.got ∧ (∀ z, mem K'.got z → 0 ≤ z ∧ z < (F.length : Int)) ∧ (¬ width K'.got < F.length → K'.dat = F) ∧ (K'.ph = 0 ∨ K'.ph = 1 ∨ K'.ph = 2)) : Calls Try.prog 31 #[ptr p, .agg (pcs (upd F (.pc a b)) lu), .int .i64 t] w (KtPost w p F c t l K (.pc a b)) := by
  have HWH := Lib.hid hwh
  have HR := Lib.hid hr
  have HS := Lib.hid h
  have HVU := Lib.hid hv
  have HB := Lib.hid h.blk
  clear h hr hv hwh
  go_enter Try.func31, Try.ntmps31
  go_upto_region 1 with fail
  obtain ⟨W, hW⟩ : ∃ W, W = w.alloc (.cells (pcs (upd F (.pc a b)) lu) TP) := ⟨_, rfl⟩
  obtain ⟨q, hq⟩ : ∃ q, q = w.heap.size := ⟨_, rfl⟩
  have bq : Blk W q TP (pcs (upd F (.pc a b)) lu) := by rw [hW, hq]; exact Blk.new _ _ _
  have ka : Keep w.heap.size [] w W := by rw [hW]; exact (Keep.refl _ _ _).alloc (Nat.le_refl _) _
  have hpq : p ≠ q := by have := HB.out.lt; omega
  have hqp : q ≠ p := hpq.symm
  change Code.wp _ _ _ _ (w.alloc (.cells (pcs (upd F (.pc a b)) lu) TP))
  rw [← hW, ← hq]
  have bp := HB.out.keepS ka (by simp)
  clear hW hq
  have BP := Lib.hid bp
  have BQ := Lib.hid bq
  have KA := Lib.hid ka
  clear bp bq ka
  have UA := Lib.hid (HR.out.pin.keep0 KA.out)
  have SA := Lib.hid (HS.out.keepS KA.out (by simp))
  go_wp2_with fail
  refine (kok_w _ p F c l K BP.out).mono ?_
  rintro e W ⟨rfl, rfl⟩
  go_wp2_with fail
  refine (kadv_w _ p F c l K t hs ht BP.out).mono ?_
  rintro e W2 ⟨rfl, bp, hk2⟩
  have bq2 := BQ.out.keepS hk2 (by simpa using hqp)
  have c1 : W2.cell? ⟨p, 1, none⟩ = some (.int .i64 1) := bp.cell 1
  have c2 : W2.cell? ⟨p, 2, none⟩ = some (.int .i64 7) := bp.cell 2
  have c3 : W2.cell? ⟨p, 3, none⟩ = some (.int .i64 2) := bp.cell 3
  have z0 : W2.cell? ⟨q, 0, none⟩ = some (.int .i64 2) := bq2.cell 0
  have z1 : W2.cell? ⟨q, 1, none⟩ = some (.int .i64 1) := bq2.cell 1
  have z2 : W2.cell? ⟨q, 2, none⟩ = some (.int .i64 7) := bq2.cell 2
  have zr : W2.rangeAt q 0 (pcs (upd F (.pc a b)) lu).toList := bq2.range
  have S2 : Hid (SkAt W2 p F c l { K with now := t }) := Lib.hid (SA.out.same rfl rfl bp hk2)
  have K2 : Hid (Keep w.heap.size [p] w W2) := Lib.hid ((KA.out.mono (S' := [p]) (Nat.le_refl _) (by simp)).trans (hk2.mono KA.out.size (by simp)))
  have BQ2 := Lib.hid bq2
  have UA2 : Hid (PIn W2 (upd F (.pc a b)) lu) := Lib.hid (UA.out.keepP hk2 (fun g hg hm => hlu (by rw [← List.mem_singleton.1 hm]; exact hg)))
  clear hk2 bp bq2
  go_upto_region 4 with fail
  have y0 : (fun w' => w'.rangeAt q 0 (pcs (upd F (.pc a b)) lu).toList ∧ w'.cell? ⟨q, 0, none⟩ = some (.int .i64 2) ∧ w'.cell? ⟨q, 1, none⟩ = some (.int .i64 1) ∧ w'.cell? ⟨q, 2, none⟩ = some (.int .i64 7) ∧ w'.cell? ⟨p, 1, none⟩ = some (.int .i64 1) ∧ w'.cell? ⟨p, 2, none⟩ = some (.int .i64 7)) W2.drew := ⟨zr, z0, z1, z2, c1, c2⟩
  refine wp_region_held_drew (S := (fun w' => w'.rangeAt q 0 (pcs (upd F (.pc a b)) lu).toList ∧ w'.cell? ⟨q, 0, none⟩ = some (.int .i64 2) ∧ w'.cell? ⟨q, 1, none⟩ = some (.int .i64 1) ∧ w'.cell? ⟨q, 2, none⟩ = some (.int .i64 7) ∧ w'.cell? ⟨p, 1, none⟩ = some (.int .i64 1) ∧ w'.cell? ⟨p, 2, none⟩ = some (.int .i64 7))) (by kernel_rfl) (by exact y0) (fun hHeld => ?_)
  refine wpAnyH_take (i := 0) (oi := { dst := some 14, op := Op.load 85 (Operand.tmp 4), type := 85, pos := _, after := _, guard := none }) (v := _) rfl (by kernel_rfl) (by kernel_rfl) (by kernel_rfl) (fun _ _ _ h => h) (yieldsIf_load_mid (by rfl) TP (.tmp 4) rfl q 0 rfl (pcs (upd F (.pc a b)) lu).toList _ (fun _ h => h.1) Try.underlying85 rfl (by rw [infoPd]; rfl)) (by assumption) ?_
  (try simp only [Act.put, List.setIfInBounds_toArray, List.set_cons_zero, List.set_cons_succ])
  refine wpAnyH_ready (rs := [1]) (by kernel_rfl) (by simp) ?_
  refine (AllReadyH.cons (o := { dst := some 15, op := Op.call { callee := Callee.value (Operand.func 75), args := #[Operand.tmp 14], argTypes := #[85] }, type := 4, pos := _, after := _, guard := none }) rfl (fun KQ hK => ?_) AllReadyH.nil)
  go_simp
  refine (pvalid_b _ (upd F (.pc a b)) lu true (by exact UA2.out.drew) HVU.out).mono ?_
  rintro e W3 ⟨rfl, hk3⟩
  have bq3 := BQ2.out.drew.keepS hk3 (by simp)
  have s3 : SkAt W3 p F c l { K with now := t } := SkAt.keepS (w := W2.drew) ⟨S2.out.blk.drew, S2.out.data.drew, S2.out.oct, S2.out.nD, S2.out.got.drew, S2.out.nW, S2.out.nDW⟩ hk3 (by simp)
  have K3 : Hid (Keep w.heap.size [p] w W3) := Lib.hid (K2.out.drew.trans (hk3.mono K2.out.drew.size (by simp)))
  have UA3 : Hid (PIn W3 (upd F (.pc a b)) lu) := Lib.hid (UA2.out.drew.keep0 hk3)
  have y1 : (fun w' => w'.rangeAt q 0 (pcs (upd F (.pc a b)) lu).toList ∧ w'.cell? ⟨q, 0, none⟩ = some (.int .i64 2) ∧ w'.cell? ⟨q, 1, none⟩ = some (.int .i64 1) ∧ w'.cell? ⟨q, 2, none⟩ = some (.int .i64 7) ∧ w'.cell? ⟨p, 1, none⟩ = some (.int .i64 1) ∧ w'.cell? ⟨p, 2, none⟩ = some (.int .i64 7)) W3 := ⟨bq3.range, bq3.cell 0, bq3.cell 1, bq3.cell 2, s3.blk.cell 1, s3.blk.cell 2⟩
  have S3 := Lib.hid s3
  have BQ3 := Lib.hid bq3
  clear hk3 s3 bq3 y0 z0 z1 z2 zr c1 c2 c3
  refine hK.out _ _ (by exact y1) (fun hHeld => ?_)
  clear hK KQ
  (try simp only [Act.put, List.setIfInBounds_toArray, List.set_cons_zero, List.set_cons_succ])
  refine tkH (i := 2) (oi := { dst := some 16, op := Op.unOp UnOp.not 4 (Operand.tmp 15), type := 4, pos := _, after := _, guard := none }) rfl (by assumption) ?_
  (try simp only [Act.put, List.setIfInBounds_toArray, List.set_cons_zero, List.set_cons_succ])
  refine tkH (i := 3) (oi := { dst := some 17, op := Op.move (Operand.tmp 16), type := 4, pos := _, after := _, guard := none }) rfl (by assumption) ?_
  (try simp only [Act.put, List.setIfInBounds_toArray, List.set_cons_zero, List.set_cons_succ])
  refine tkH (i := 4) (oi := { dst := some 18, op := Op.fieldAddr 85 (Operand.tmp 4) 1, type := 0, pos := _, after := _, guard := some (3, false) }) rfl (by assumption) ?_
  (try simp only [Act.put, List.setIfInBounds_toArray, List.set_cons_zero, List.set_cons_succ])
  refine tkH (i := 5) (oi := { dst := some 19, op := Op.load 75 (Operand.tmp 18), type := 75, pos := _, after := _, guard := some (3, false) }) rfl (by assumption) ?_
  (try simp only [Act.put, List.setIfInBounds_toArray, List.set_cons_zero, List.set_cons_succ])
  refine tkH (i := 6) (oi := { dst := some 20, op := Op.move (Operand.tmp 0), type := 79, pos := _, after := _, guard := some (3, false) }) rfl (by assumption) ?_
  (try simp only [Act.put, List.setIfInBounds_toArray, List.set_cons_zero, List.set_cons_succ])
  refine tkH (i := 7) (oi := { dst := some 21, op := Op.nilCheck (Operand.tmp 20), type := 0, pos := _, after := _, guard := some (3, false) }) rfl (by assumption) ?_
  (try simp only [Act.put, List.setIfInBounds_toArray, List.set_cons_zero, List.set_cons_succ])
  refine tkH (i := 8) (oi := { dst := some 22, op := Op.fieldAddr 150 (Operand.tmp 21) 1, type := 0, pos := _, after := _, guard := some (3, false) }) rfl (by assumption) ?_
  (try simp only [Act.put, List.setIfInBounds_toArray, List.set_cons_zero, List.set_cons_succ])
  refine tkH (i := 9) (oi := { dst := some 23, op := Op.load 75 (Operand.tmp 22), type := 75, pos := _, after := _, guard := some (3, false) }) rfl (by assumption) ?_
  (try simp only [Act.put, List.setIfInBounds_toArray, List.set_cons_zero, List.set_cons_succ])
  refine tkH (i := 10) (oi := { dst := some 24, op := Op.binOp BinOp.neq 75 (Operand.tmp 19) (Operand.tmp 23) 75, type := 4, pos := _, after := _, guard := some (3, false) }) rfl (by assumption) ?_
  (try simp only [Act.put, List.setIfInBounds_toArray, List.set_cons_zero, List.set_cons_succ])
  refine tkH (i := 11) (oi := { dst := some 25, op := Op.pick (Operand.tmp 17) (Operand.const (Value.bool true)) (Operand.tmp 24), type := 4, pos := _, after := _, guard := none }) rfl (by assumption) ?_
  (try simp only [Act.put, List.setIfInBounds_toArray, List.set_cons_zero, List.set_cons_succ])
  refine tkH (i := 12) (oi := { dst := some 26, op := Op.move (Operand.tmp 25), type := 4, pos := _, after := _, guard := none }) rfl (by assumption) ?_
  (try simp only [Act.put, List.setIfInBounds_toArray, List.set_cons_zero, List.set_cons_succ])
  refine tkH (i := 13) (oi := { dst := some 27, op := Op.fieldAddr 85 (Operand.tmp 4) 0, type := 0, pos := _, after := _, guard := some (12, false) }) rfl (by assumption) ?_
  (try simp only [Act.put, List.setIfInBounds_toArray, List.set_cons_zero, List.set_cons_succ])
  refine tkH (i := 14) (oi := { dst := some 28, op := Op.load 3 (Operand.tmp 27), type := 3, pos := _, after := _, guard := some (12, false) }) rfl (by assumption) ?_
  (try simp only [Act.put, List.setIfInBounds_toArray, List.set_cons_zero, List.set_cons_succ])
  refine wpAnyH_ready (rs := [15]) (by kernel_rfl) (by simp) ?_
  refine (AllReadyH.cons (o := { dst := some 29, op := Op.call { callee := Callee.value (Operand.func 89), args := #[Operand.tmp 28], argTypes := #[3] }, type := 4, pos := _, after := _, guard := some (12, false) }) rfl (fun KQ hK => ?_) AllReadyH.nil)
  go_simp
  refine (pfwd_b _ 2 true (by rfl)).mono ?_
  rintro e W3 ⟨rfl, rfl⟩
  refine hK.out _ _ (by exact y1) (fun hHeld => ?_)
  clear hK KQ
  (try simp only [Act.put, List.setIfInBounds_toArray, List.set_cons_zero, List.set_cons_succ])
  refine tkH (i := 16) (oi := { dst := some 30, op := Op.unOp UnOp.not 4 (Operand.tmp 29), type := 4, pos := _, after := _, guard := some (12, false) }) rfl (by assumption) ?_
  (try simp only [Act.put, List.setIfInBounds_toArray, List.set_cons_zero, List.set_cons_succ])
  refine tkH (i := 17) (oi := { dst := some 31, op := Op.pick (Operand.tmp 26) (Operand.const (Value.bool true)) (Operand.tmp 30), type := 4, pos := _, after := _, guard := none }) rfl (by assumption) ?_
  (try simp only [Act.put, List.setIfInBounds_toArray, List.set_cons_zero, List.set_cons_succ])
  refine wpAnyH_done (by kernel_rfl) ?_ _
  clear hHeld y1
  have r0 : W3.cell? ⟨q, 0, none⟩ = some (.int .i64 2) := BQ3.out.cell 0
  go_upto_region 6 with fail
  refine wp_region_held_drew (S := (fun w' => w'.cell? ⟨q, 0, none⟩ = some (.int .i64 2))) (by kernel_rfl) (by exact r0) (fun hHeld => ?_)
  refine tkH (i := 0) (oi := { dst := some 32, op := Op.fieldAddr 85 (Operand.tmp 4) 0, type := 0, pos := _, after := _, guard := none }) rfl (by assumption) ?_
  (try simp only [Act.put, List.setIfInBounds_toArray, List.set_cons_zero, List.set_cons_succ])
  refine tkH (i := 1) (oi := { dst := some 33, op := Op.load 3 (Operand.tmp 32), type := 3, pos := _, after := _, guard := none }) rfl (by assumption) ?_
  (try simp only [Act.put, List.setIfInBounds_toArray, List.set_cons_zero, List.set_cons_succ])
  refine tkH (i := 2) (oi := { dst := some 34, op := Op.binOp BinOp.eql 3 (Operand.tmp 33) (Operand.const (Value.int IntKind.i64 1)) 3, type := 4, pos := _, after := _, guard := none }) rfl (by assumption) ?_
  (try simp only [Act.put, List.setIfInBounds_toArray, List.set_cons_zero, List.set_cons_succ])
  refine tkH (i := 3) (oi := { dst := some 35, op := Op.move (Operand.tmp 34), type := 4, pos := _, after := _, guard := none }) rfl (by assumption) ?_
  (try simp only [Act.put, List.setIfInBounds_toArray, List.set_cons_zero, List.set_cons_succ])
  refine tkH (i := 4) (oi := { dst := some 36, op := Op.fieldAddr 85 (Operand.tmp 4) 0, type := 0, pos := _, after := _, guard := some (3, false) }) rfl (by assumption) ?_
  (try simp only [Act.put, List.setIfInBounds_toArray, List.set_cons_zero, List.set_cons_succ])
  refine tkH (i := 5) (oi := { dst := some 37, op := Op.load 3 (Operand.tmp 36), type := 3, pos := _, after := _, guard := some (3, false) }) rfl (by assumption) ?_
  (try simp only [Act.put, List.setIfInBounds_toArray, List.set_cons_zero, List.set_cons_succ])
  refine tkH (i := 6) (oi := { dst := some 38, op := Op.binOp BinOp.eql 3 (Operand.tmp 37) (Operand.const (Value.int IntKind.i64 3)) 3, type := 4, pos := _, after := _, guard := some (3, false) }) rfl (by assumption) ?_
  (try simp only [Act.put, List.setIfInBounds_toArray, List.set_cons_zero, List.set_cons_succ])
  refine tkH (i := 7) (oi := { dst := some 39, op := Op.pick (Operand.tmp 35) (Operand.const (Value.bool true)) (Operand.tmp 38), type := 4, pos := _, after := _, guard := none }) rfl (by assumption) ?_
  (try simp only [Act.put, List.setIfInBounds_toArray, List.set_cons_zero, List.set_cons_succ])
  refine tkH (i := 8) (oi := { dst := some 40, op := Op.move (Operand.tmp 39), type := 4, pos := _, after := _, guard := none }) rfl (by assumption) ?_
  (try simp only [Act.put, List.setIfInBounds_toArray, List.set_cons_zero, List.set_cons_succ])
  refine skH (i := 9) (oi := { dst := some 41, op := Op.fieldAddr 85 (Operand.tmp 4) 2, type := 0, pos := _, after := _, guard := some (8, true) }) rfl (by assumption) ?_
  (try simp only [Act.put, List.setIfInBounds_toArray, List.set_cons_zero, List.set_cons_succ])
  refine skH (i := 10) (oi := { dst := some 42, op := Op.load 3 (Operand.tmp 41), type := 3, pos := _, after := _, guard := some (8, true) }) rfl (by assumption) ?_
  (try simp only [Act.put, List.setIfInBounds_toArray, List.set_cons_zero, List.set_cons_succ])
  refine skH (i := 11) (oi := { dst := some 43, op := Op.move (Operand.tmp 0), type := 79, pos := _, after := _, guard := some (8, true) }) rfl (by assumption) ?_
  (try simp only [Act.put, List.setIfInBounds_toArray, List.set_cons_zero, List.set_cons_succ])
  refine skH (i := 12) (oi := { dst := some 44, op := Op.nilCheck (Operand.tmp 43), type := 0, pos := _, after := _, guard := some (8, true) }) rfl (by assumption) ?_
  (try simp only [Act.put, List.setIfInBounds_toArray, List.set_cons_zero, List.set_cons_succ])
  refine skH (i := 13) (oi := { dst := some 45, op := Op.fieldAddr 150 (Operand.tmp 44) 2, type := 0, pos := _, after := _, guard := some (8, true) }) rfl (by assumption) ?_
  (try simp only [Act.put, List.setIfInBounds_toArray, List.set_cons_zero, List.set_cons_succ])
  refine skH (i := 14) (oi := { dst := some 46, op := Op.load 3 (Operand.tmp 45), type := 3, pos := _, after := _, guard := some (8, true) }) rfl (by assumption) ?_
  (try simp only [Act.put, List.setIfInBounds_toArray, List.set_cons_zero, List.set_cons_succ])
  refine skH (i := 15) (oi := { dst := some 47, op := Op.binOp BinOp.neq 3 (Operand.tmp 42) (Operand.tmp 46) 3, type := 4, pos := _, after := _, guard := some (8, true) }) rfl (by assumption) ?_
  (try simp only [Act.put, List.setIfInBounds_toArray, List.set_cons_zero, List.set_cons_succ])
  refine tkH (i := 16) (oi := { dst := some 48, op := Op.pick (Operand.tmp 40) (Operand.tmp 47) (Operand.const (Value.bool false)), type := 4, pos := _, after := _, guard := none }) rfl (by assumption) ?_
  (try simp only [Act.put, List.setIfInBounds_toArray, List.set_cons_zero, List.set_cons_succ])
  refine wpAnyH_done (by kernel_rfl) ?_ _
  clear hHeld
  go_wp2_with (refine wpList_load_mid rfl TP (.tmp 4) rfl q 0 rfl (pcs (upd F (.pc a b)) lu).toList _ BQ3.out.drew.range Try.underlying85 rfl (by rw [infoPd]; rfl) ?_)
  have hr4 : RcPre W3.drew F l p { K with now := t } (.pc a b) lu := ⟨HR.out.gn, HR.out.gi, HR.out.gd, HR.out.dl, HR.out.n, HR.out.oct, UA3.out.drew, HR.out.ud⟩
  have s4 : SkAt W3.drew p F c l { K with now := t } := ⟨S3.out.blk.drew, S3.out.data.drew, S3.out.oct, S3.out.nD, S3.out.got.drew, S3.out.nW, S3.out.nDW⟩
  refine (rec_any _ p F c l { K with now := t } (.pc a b) lu hph ⟨hab, hbn⟩ s4 hr4).mono ?_
  rintro e W5 ⟨l5, K5, rfl, hrc, hs5, hk5, hf5⟩
  have hrc2 := rec_now hrc
  obtain ⟨w1, w2, w3, w4⟩ := HWH.out K5 hrc2
  have RC := Lib.hid hrc2
  have S5 := Lib.hid hs5
  have F5 := Lib.hid hf5
  have KB : Hid (Keep w.heap.size (p :: blks l.D) w W5) := Lib.hid ((K3.out.drew.mono (S' := p :: blks l.D) (Nat.le_refl _) (fun y _ hy => by simp only [List.mem_singleton] at hy; simp [hy])).trans (hk5.mono K3.out.drew.size (fun y _ hy => hy)))
  clear hrc hrc2 hs5 hf5 hk5 hr4 s4
  go_wp2_with fail
  refine (kchk_w _ p F c l5 K5 w4 HR.out.n HR.out.oct w1 w2 (fun hw => w3 (by omega)) S5.out).mono ?_
  rintro e W6 ⟨rfl, hs6, hk6⟩
  have S6 := Lib.hid hs6
  have K6 : Hid (Keep w.heap.size (p :: blks l.D) w W6) := Lib.hid (KB.out.trans (hk6.mono KB.out.size (fun y _ hy => by simp only [List.mem_singleton] at hy; simp [hy])))
  clear hs6 hk6
  go_wp2_with fail
  go_ret
  refine ⟨l5, K5, rfl, RC.out, S6.out, K6.out, fun y hy => ?_⟩
  have := K3.out.drew.size
  rcases F5.out y hy with h9 | h9
  · exact .inl h9
  · right; omega
set_option maxRecDepth 100000 in
set_option maxHeartbeats 4000000 in
theorem ktake_ef (w : World) (p : Nat) (F : List Int) (c : Nat) (l : Ly) (K : Sk) (lu : Lc) (t : Nat) (hs : K.now ≤ t) (ht : t ≤ 1000) (hph : K.ph = 0 ∨ K.ph = 1 ∨ K.ph = 2) (h : SkAt w p F c l K) (hr : RcPre w F l p K .ef lu) (hv : validP (upd F .ef) = true) (hlu : p ∉ blks lu.D ++ blks lu.G)
    (hwh : ∀ K', RecK F t K .ef K' → Nrm K'.got ∧ (∀ z, mem K'.got z → 0 ≤ z ∧ z < (F.length : Int)) ∧ (¬ width K'.got < F.length → K'.dat = F) ∧ (K'.ph = 0 ∨ K'.ph = 1 ∨ K'.ph = 2)) : Calls Try.prog 31 #[ptr p, .agg (pcs (upd F .ef) lu), .int .i64 t] w (KtPost w p F c t l K .ef) := by
  have HWH := Lib.hid hwh
  have HR := Lib.hid hr
  have HS := Lib.hid h
  have HVU := Lib.hid hv
  have HB := Lib.hid h.blk
  clear h hr hv hwh
  go_enter Try.func31, Try.ntmps31
  go_upto_region 1 with fail
  obtain ⟨W, hW⟩ : ∃ W, W = w.alloc (.cells (pcs (upd F .ef) lu) TP) := ⟨_, rfl⟩
  obtain ⟨q, hq⟩ : ∃ q, q = w.heap.size := ⟨_, rfl⟩
  have bq : Blk W q TP (pcs (upd F .ef) lu) := by rw [hW, hq]; exact Blk.new _ _ _
  have ka : Keep w.heap.size [] w W := by rw [hW]; exact (Keep.refl _ _ _).alloc (Nat.le_refl _) _
  have hpq : p ≠ q := by have := HB.out.lt; omega
  have hqp : q ≠ p := hpq.symm
  change Code.wp _ _ _ _ (w.alloc (.cells (pcs (upd F .ef) lu) TP))
  rw [← hW, ← hq]
  have bp := HB.out.keepS ka (by simp)
  clear hW hq
  have BP := Lib.hid bp
  have BQ := Lib.hid bq
  have KA := Lib.hid ka
  clear bp bq ka
  have UA := Lib.hid (HR.out.pin.keep0 KA.out)
  have SA := Lib.hid (HS.out.keepS KA.out (by simp))
  go_wp2_with fail
  refine (kok_w _ p F c l K BP.out).mono ?_
  rintro e W ⟨rfl, rfl⟩
  go_wp2_with fail
  refine (kadv_w _ p F c l K t hs ht BP.out).mono ?_
  rintro e W2 ⟨rfl, bp, hk2⟩
  have bq2 := BQ.out.keepS hk2 (by simpa using hqp)
  have c1 : W2.cell? ⟨p, 1, none⟩ = some (.int .i64 1) := bp.cell 1
  have c2 : W2.cell? ⟨p, 2, none⟩ = some (.int .i64 7) := bp.cell 2
  have c3 : W2.cell? ⟨p, 3, none⟩ = some (.int .i64 2) := bp.cell 3
  have z0 : W2.cell? ⟨q, 0, none⟩ = some (.int .i64 3) := bq2.cell 0
  have z1 : W2.cell? ⟨q, 1, none⟩ = some (.int .i64 1) := bq2.cell 1
  have z2 : W2.cell? ⟨q, 2, none⟩ = some (.int .i64 7) := bq2.cell 2
  have zr : W2.rangeAt q 0 (pcs (upd F .ef) lu).toList := bq2.range
  have S2 : Hid (SkAt W2 p F c l { K with now := t }) := Lib.hid (SA.out.same rfl rfl bp hk2)
  have K2 : Hid (Keep w.heap.size [p] w W2) := Lib.hid ((KA.out.mono (S' := [p]) (Nat.le_refl _) (by simp)).trans (hk2.mono KA.out.size (by simp)))
  have BQ2 := Lib.hid bq2
  have UA2 : Hid (PIn W2 (upd F .ef) lu) := Lib.hid (UA.out.keepP hk2 (fun g hg hm => hlu (by rw [← List.mem_singleton.1 hm]; exact hg)))
  clear hk2 bp bq2
  go_upto_region 4 with fail
  have y0 : (fun w' => w'.rangeAt q 0 (pcs (upd F .ef) lu).toList ∧ w'.cell? ⟨q, 0, none⟩ = some (.int .i64 3) ∧ w'.cell? ⟨q, 1, none⟩ = some (.int .i64 1) ∧ w'.cell? ⟨q, 2, none⟩ = some (.int .i64 7) ∧ w'.cell? ⟨p, 1, none⟩ = some (.int .i64 1) ∧ w'.cell? ⟨p, 2, none⟩ = some (.int .i64 7)) W2.drew := ⟨zr, z0, z1, z2, c1, c2⟩
  refine wp_region_held_drew (S := (fun w' => w'.rangeAt q 0 (pcs (upd F .ef) lu).toList ∧ w'.cell? ⟨q, 0, none⟩ = some (.int .i64 3) ∧ w'.cell? ⟨q, 1, none⟩ = some (.int .i64 1) ∧ w'.cell? ⟨q, 2, none⟩ = some (.int .i64 7) ∧ w'.cell? ⟨p, 1, none⟩ = some (.int .i64 1) ∧ w'.cell? ⟨p, 2, none⟩ = some (.int .i64 7))) (by kernel_rfl) (by exact y0) (fun hHeld => ?_)
  refine wpAnyH_take (i := 0) (oi := { dst := some 14, op := Op.load 85 (Operand.tmp 4), type := 85, pos := _, after := _, guard := none }) (v := _) rfl (by kernel_rfl) (by kernel_rfl) (by kernel_rfl) (fun _ _ _ h => h) (yieldsIf_load_mid (by rfl) TP (.tmp 4) rfl q 0 rfl (pcs (upd F .ef) lu).toList _ (fun _ h => h.1) Try.underlying85 rfl (by rw [infoPd]; rfl)) (by assumption) ?_
  (try simp only [Act.put, List.setIfInBounds_toArray, List.set_cons_zero, List.set_cons_succ])
  refine wpAnyH_ready (rs := [1]) (by kernel_rfl) (by simp) ?_
  refine (AllReadyH.cons (o := { dst := some 15, op := Op.call { callee := Callee.value (Operand.func 75), args := #[Operand.tmp 14], argTypes := #[85] }, type := 4, pos := _, after := _, guard := none }) rfl (fun KQ hK => ?_) AllReadyH.nil)
  go_simp
  refine (pvalid_b _ (upd F .ef) lu true (by exact UA2.out.drew) HVU.out).mono ?_
  rintro e W3 ⟨rfl, hk3⟩
  have bq3 := BQ2.out.drew.keepS hk3 (by simp)
  have s3 : SkAt W3 p F c l { K with now := t } := SkAt.keepS (w := W2.drew) ⟨S2.out.blk.drew, S2.out.data.drew, S2.out.oct, S2.out.nD, S2.out.got.drew, S2.out.nW, S2.out.nDW⟩ hk3 (by simp)
  have K3 : Hid (Keep w.heap.size [p] w W3) := Lib.hid (K2.out.drew.trans (hk3.mono K2.out.drew.size (by simp)))
  have UA3 : Hid (PIn W3 (upd F .ef) lu) := Lib.hid (UA2.out.drew.keep0 hk3)
  have y1 : (fun w' => w'.rangeAt q 0 (pcs (upd F .ef) lu).toList ∧ w'.cell? ⟨q, 0, none⟩ = some (.int .i64 3) ∧ w'.cell? ⟨q, 1, none⟩ = some (.int .i64 1) ∧ w'.cell? ⟨q, 2, none⟩ = some (.int .i64 7) ∧ w'.cell? ⟨p, 1, none⟩ = some (.int .i64 1) ∧ w'.cell? ⟨p, 2, none⟩ = some (.int .i64 7)) W3 := ⟨bq3.range, bq3.cell 0, bq3.cell 1, bq3.cell 2, s3.blk.cell 1, s3.blk.cell 2⟩
  have S3 := Lib.hid s3
  have BQ3 := Lib.hid bq3
  clear hk3 s3 bq3 y0 z0 z1 z2 zr c1 c2 c3
  refine hK.out _ _ (by exact y1) (fun hHeld => ?_)
  clear hK KQ
  (try simp only [Act.put, List.setIfInBounds_toArray, List.set_cons_zero, List.set_cons_succ])
  refine tkH (i := 2) (oi := { dst := some 16, op := Op.unOp UnOp.not 4 (Operand.tmp 15), type := 4, pos := _, after := _, guard := none }) rfl (by assumption) ?_
  (try simp only [Act.put, List.setIfInBounds_toArray, List.set_cons_zero, List.set_cons_succ])
  refine tkH (i := 3) (oi := { dst := some 17, op := Op.move (Operand.tmp 16), type := 4, pos := _, after := _, guard := none }) rfl (by assumption) ?_
  (try simp only [Act.put, List.setIfInBounds_toArray, List.set_cons_zero, List.set_cons_succ])
  refine tkH (i := 4) (oi := { dst := some 18, op := Op.fieldAddr 85 (Operand.tmp 4) 1, type := 0, pos := _, after := _, guard := some (3, false) }) rfl (by assumption) ?_
  (try simp only [Act.put, List.setIfInBounds_toArray, List.set_cons_zero, List.set_cons_succ])
  refine tkH (i := 5) (oi := { dst := some 19, op := Op.load 75 (Operand.tmp 18), type := 75, pos := _, after := _, guard := some (3, false) }) rfl (by assumption) ?_
  (try simp only [Act.put, List.setIfInBounds_toArray, List.set_cons_zero, List.set_cons_succ])
  refine tkH (i := 6) (oi := { dst := some 20, op := Op.move (Operand.tmp 0), type := 79, pos := _, after := _, guard := some (3, false) }) rfl (by assumption) ?_
  (try simp only [Act.put, List.setIfInBounds_toArray, List.set_cons_zero, List.set_cons_succ])
  refine tkH (i := 7) (oi := { dst := some 21, op := Op.nilCheck (Operand.tmp 20), type := 0, pos := _, after := _, guard := some (3, false) }) rfl (by assumption) ?_
  (try simp only [Act.put, List.setIfInBounds_toArray, List.set_cons_zero, List.set_cons_succ])
  refine tkH (i := 8) (oi := { dst := some 22, op := Op.fieldAddr 150 (Operand.tmp 21) 1, type := 0, pos := _, after := _, guard := some (3, false) }) rfl (by assumption) ?_
  (try simp only [Act.put, List.setIfInBounds_toArray, List.set_cons_zero, List.set_cons_succ])
  refine tkH (i := 9) (oi := { dst := some 23, op := Op.load 75 (Operand.tmp 22), type := 75, pos := _, after := _, guard := some (3, false) }) rfl (by assumption) ?_
  (try simp only [Act.put, List.setIfInBounds_toArray, List.set_cons_zero, List.set_cons_succ])
  refine tkH (i := 10) (oi := { dst := some 24, op := Op.binOp BinOp.neq 75 (Operand.tmp 19) (Operand.tmp 23) 75, type := 4, pos := _, after := _, guard := some (3, false) }) rfl (by assumption) ?_
  (try simp only [Act.put, List.setIfInBounds_toArray, List.set_cons_zero, List.set_cons_succ])
  refine tkH (i := 11) (oi := { dst := some 25, op := Op.pick (Operand.tmp 17) (Operand.const (Value.bool true)) (Operand.tmp 24), type := 4, pos := _, after := _, guard := none }) rfl (by assumption) ?_
  (try simp only [Act.put, List.setIfInBounds_toArray, List.set_cons_zero, List.set_cons_succ])
  refine tkH (i := 12) (oi := { dst := some 26, op := Op.move (Operand.tmp 25), type := 4, pos := _, after := _, guard := none }) rfl (by assumption) ?_
  (try simp only [Act.put, List.setIfInBounds_toArray, List.set_cons_zero, List.set_cons_succ])
  refine tkH (i := 13) (oi := { dst := some 27, op := Op.fieldAddr 85 (Operand.tmp 4) 0, type := 0, pos := _, after := _, guard := some (12, false) }) rfl (by assumption) ?_
  (try simp only [Act.put, List.setIfInBounds_toArray, List.set_cons_zero, List.set_cons_succ])
  refine tkH (i := 14) (oi := { dst := some 28, op := Op.load 3 (Operand.tmp 27), type := 3, pos := _, after := _, guard := some (12, false) }) rfl (by assumption) ?_
  (try simp only [Act.put, List.setIfInBounds_toArray, List.set_cons_zero, List.set_cons_succ])
  refine wpAnyH_ready (rs := [15]) (by kernel_rfl) (by simp) ?_
  refine (AllReadyH.cons (o := { dst := some 29, op := Op.call { callee := Callee.value (Operand.func 89), args := #[Operand.tmp 28], argTypes := #[3] }, type := 4, pos := _, after := _, guard := some (12, false) }) rfl (fun KQ hK => ?_) AllReadyH.nil)
  go_simp
  refine (pfwd_b _ 3 true (by rfl)).mono ?_
  rintro e W3 ⟨rfl, rfl⟩
  refine hK.out _ _ (by exact y1) (fun hHeld => ?_)
  clear hK KQ
  (try simp only [Act.put, List.setIfInBounds_toArray, List.set_cons_zero, List.set_cons_succ])
  refine tkH (i := 16) (oi := { dst := some 30, op := Op.unOp UnOp.not 4 (Operand.tmp 29), type := 4, pos := _, after := _, guard := some (12, false) }) rfl (by assumption) ?_
  (try simp only [Act.put, List.setIfInBounds_toArray, List.set_cons_zero, List.set_cons_succ])
  refine tkH (i := 17) (oi := { dst := some 31, op := Op.pick (Operand.tmp 26) (Operand.const (Value.bool true)) (Operand.tmp 30), type := 4, pos := _, after := _, guard := none }) rfl (by assumption) ?_
  (try simp only [Act.put, List.setIfInBounds_toArray, List.set_cons_zero, List.set_cons_succ])
  refine wpAnyH_done (by kernel_rfl) ?_ _
  clear hHeld y1
  have r0 : W3.cell? ⟨q, 0, none⟩ = some (.int .i64 3) := BQ3.out.cell 0
  have r3 : W3.cell? ⟨q, 3, none⟩ = some (.int .i64 2) := BQ3.out.cell 3
  have c3 : W3.cell? ⟨p, 3, none⟩ = some (.int .i64 2) := S3.out.blk.cell 3
  go_upto_region 6 with fail
  refine wp_region_held_drew (S := (fun w' => w'.cell? ⟨q, 0, none⟩ = some (.int .i64 3) ∧ w'.cell? ⟨q, 3, none⟩ = some (.int .i64 2) ∧ w'.cell? ⟨p, 3, none⟩ = some (.int .i64 2))) (by kernel_rfl) (by exact ⟨r0, r3, c3⟩) (fun hHeld => ?_)
  refine tkH (i := 0) (oi := { dst := some 32, op := Op.fieldAddr 85 (Operand.tmp 4) 0, type := 0, pos := _, after := _, guard := none }) rfl (by assumption) ?_
  (try simp only [Act.put, List.setIfInBounds_toArray, List.set_cons_zero, List.set_cons_succ])
  refine tkH (i := 1) (oi := { dst := some 33, op := Op.load 3 (Operand.tmp 32), type := 3, pos := _, after := _, guard := none }) rfl (by assumption) ?_
  (try simp only [Act.put, List.setIfInBounds_toArray, List.set_cons_zero, List.set_cons_succ])
  refine tkH (i := 2) (oi := { dst := some 34, op := Op.binOp BinOp.eql 3 (Operand.tmp 33) (Operand.const (Value.int IntKind.i64 1)) 3, type := 4, pos := _, after := _, guard := none }) rfl (by assumption) ?_
  (try simp only [Act.put, List.setIfInBounds_toArray, List.set_cons_zero, List.set_cons_succ])
  refine tkH (i := 3) (oi := { dst := some 35, op := Op.move (Operand.tmp 34), type := 4, pos := _, after := _, guard := none }) rfl (by assumption) ?_
  (try simp only [Act.put, List.setIfInBounds_toArray, List.set_cons_zero, List.set_cons_succ])
  refine tkH (i := 4) (oi := { dst := some 36, op := Op.fieldAddr 85 (Operand.tmp 4) 0, type := 0, pos := _, after := _, guard := some (3, false) }) rfl (by assumption) ?_
  (try simp only [Act.put, List.setIfInBounds_toArray, List.set_cons_zero, List.set_cons_succ])
  refine tkH (i := 5) (oi := { dst := some 37, op := Op.load 3 (Operand.tmp 36), type := 3, pos := _, after := _, guard := some (3, false) }) rfl (by assumption) ?_
  (try simp only [Act.put, List.setIfInBounds_toArray, List.set_cons_zero, List.set_cons_succ])
  refine tkH (i := 6) (oi := { dst := some 38, op := Op.binOp BinOp.eql 3 (Operand.tmp 37) (Operand.const (Value.int IntKind.i64 3)) 3, type := 4, pos := _, after := _, guard := some (3, false) }) rfl (by assumption) ?_
  (try simp only [Act.put, List.setIfInBounds_toArray, List.set_cons_zero, List.set_cons_succ])
  refine tkH (i := 7) (oi := { dst := some 39, op := Op.pick (Operand.tmp 35) (Operand.const (Value.bool true)) (Operand.tmp 38), type := 4, pos := _, after := _, guard := none }) rfl (by assumption) ?_
  (try simp only [Act.put, List.setIfInBounds_toArray, List.set_cons_zero, List.set_cons_succ])
  refine tkH (i := 8) (oi := { dst := some 40, op := Op.move (Operand.tmp 39), type := 4, pos := _, after := _, guard := none }) rfl (by assumption) ?_
  (try simp only [Act.put, List.setIfInBounds_toArray, List.set_cons_zero, List.set_cons_succ])
  refine tkH (i := 9) (oi := { dst := some 41, op := Op.fieldAddr 85 (Operand.tmp 4) 2, type := 0, pos := _, after := _, guard := some (8, true) }) rfl (by assumption) ?_
  (try simp only [Act.put, List.setIfInBounds_toArray, List.set_cons_zero, List.set_cons_succ])
  refine tkH (i := 10) (oi := { dst := some 42, op := Op.load 3 (Operand.tmp 41), type := 3, pos := _, after := _, guard := some (8, true) }) rfl (by assumption) ?_
  (try simp only [Act.put, List.setIfInBounds_toArray, List.set_cons_zero, List.set_cons_succ])
  refine tkH (i := 11) (oi := { dst := some 43, op := Op.move (Operand.tmp 0), type := 79, pos := _, after := _, guard := some (8, true) }) rfl (by assumption) ?_
  (try simp only [Act.put, List.setIfInBounds_toArray, List.set_cons_zero, List.set_cons_succ])
  refine tkH (i := 12) (oi := { dst := some 44, op := Op.nilCheck (Operand.tmp 43), type := 0, pos := _, after := _, guard := some (8, true) }) rfl (by assumption) ?_
  (try simp only [Act.put, List.setIfInBounds_toArray, List.set_cons_zero, List.set_cons_succ])
  refine tkH (i := 13) (oi := { dst := some 45, op := Op.fieldAddr 150 (Operand.tmp 44) 2, type := 0, pos := _, after := _, guard := some (8, true) }) rfl (by assumption) ?_
  (try simp only [Act.put, List.setIfInBounds_toArray, List.set_cons_zero, List.set_cons_succ])
  refine tkH (i := 14) (oi := { dst := some 46, op := Op.load 3 (Operand.tmp 45), type := 3, pos := _, after := _, guard := some (8, true) }) rfl (by assumption) ?_
  (try simp only [Act.put, List.setIfInBounds_toArray, List.set_cons_zero, List.set_cons_succ])
  refine tkH (i := 15) (oi := { dst := some 47, op := Op.binOp BinOp.neq 3 (Operand.tmp 42) (Operand.tmp 46) 3, type := 4, pos := _, after := _, guard := some (8, true) }) rfl (by assumption) ?_
  (try simp only [Act.put, List.setIfInBounds_toArray, List.set_cons_zero, List.set_cons_succ])
  refine tkH (i := 16) (oi := { dst := some 48, op := Op.pick (Operand.tmp 40) (Operand.tmp 47) (Operand.const (Value.bool false)), type := 4, pos := _, after := _, guard := none }) rfl (by assumption) ?_
  (try simp only [Act.put, List.setIfInBounds_toArray, List.set_cons_zero, List.set_cons_succ])
  refine wpAnyH_done (by kernel_rfl) ?_ _
  clear hHeld
  go_wp2_with (refine wpList_load_mid rfl TP (.tmp 4) rfl q 0 rfl (pcs (upd F .ef) lu).toList _ BQ3.out.drew.range Try.underlying85 rfl (by rw [infoPd]; rfl) ?_)
  have hr4 : RcPre W3.drew F l p { K with now := t } .ef lu := ⟨HR.out.gn, HR.out.gi, HR.out.gd, HR.out.dl, HR.out.n, HR.out.oct, UA3.out.drew, HR.out.ud⟩
  have s4 : SkAt W3.drew p F c l { K with now := t } := ⟨S3.out.blk.drew, S3.out.data.drew, S3.out.oct, S3.out.nD, S3.out.got.drew, S3.out.nW, S3.out.nDW⟩
  refine (rec_any _ p F c l { K with now := t } .ef lu hph trivial s4 hr4).mono ?_
  rintro e W5 ⟨l5, K5, rfl, hrc, hs5, hk5, hf5⟩
  have hrc2 := rec_now hrc
  obtain ⟨w1, w2, w3, w4⟩ := HWH.out K5 hrc2
  have RC := Lib.hid hrc2
  have S5 := Lib.hid hs5
  have F5 := Lib.hid hf5
  have KB : Hid (Keep w.heap.size (p :: blks l.D) w W5) := Lib.hid ((K3.out.drew.mono (S' := p :: blks l.D) (Nat.le_refl _) (fun y _ hy => by simp only [List.mem_singleton] at hy; simp [hy])).trans (hk5.mono K3.out.drew.size (fun y _ hy => hy)))
  clear hrc hrc2 hs5 hf5 hk5 hr4 s4
  go_wp2_with fail
  refine (kchk_w _ p F c l5 K5 w4 HR.out.n HR.out.oct w1 w2 (fun hw => w3 (by omega)) S5.out).mono ?_
  rintro e W6 ⟨rfl, hs6, hk6⟩
  have S6 := Lib.hid hs6
  have K6 : Hid (Keep w.heap.size (p :: blks l.D) w W6) := Lib.hid (KB.out.trans (hk6.mono KB.out.size (fun y _ hy => by simp only [List.mem_singleton] at hy; simp [hy])))
  clear hs6 hk6
  go_wp2_with fail
  go_ret
  refine ⟨l5, K5, rfl, RC.out, S6.out, K6.out, fun y hy => ?_⟩
  have := K3.out.drew.size
  rcases F5.out y hy with h9 | h9
  · exact .inl h9
  · right; omega
set_option maxRecDepth 100000 in
set_option maxHeartbeats 4000000 in
theorem ktake_ad (w : World) (p : Nat) (F : List Int) (c : Nat) (l : Ly) (K : Sk) (lu : Lc) (hp2 : K.ph = 2) (t : Nat) (hs : K.now ≤ t) (ht : t ≤ 1000) (hph : K.ph = 0 ∨ K.ph = 1 ∨ K.ph = 2) (h : SkAt w p F c l K) (hr : RcPre w F l p K .ad lu) (hv : validP (upd F .ad) = true) (hlu : p ∉ blks lu.D ++ blks lu.G)
    (hwh : ∀ K', RecK F t K .ad K' → Nrm K'.got ∧ (∀ z, mem K'.got z → 0 ≤ z ∧ z < (F.length : Int)) ∧ (¬ width K'.got < F.length → K'.dat = F) ∧ (K'.ph = 0 ∨ K'.ph = 1 ∨ K'.ph = 2)) : Calls Try.prog 31 #[ptr p, .agg (pcs (upd F .ad) lu), .int .i64 t] w (KtPost w p F c t l K .ad) := by
  have HWH := Lib.hid hwh
  have HR := Lib.hid hr
  have HS := Lib.hid h
  have HVU := Lib.hid hv
  have HB := Lib.hid h.blk
  clear h hr hv hwh
  go_enter Try.func31, Try.ntmps31
  go_upto_region 1 with fail
  obtain ⟨W, hW⟩ : ∃ W, W = w.alloc (.cells (pcs (upd F .ad) lu) TP) := ⟨_, rfl⟩
  obtain ⟨q, hq⟩ : ∃ q, q = w.heap.size := ⟨_, rfl⟩
  have bq : Blk W q TP (pcs (upd F .ad) lu) := by rw [hW, hq]; exact Blk.new _ _ _
  have ka : Keep w.heap.size [] w W := by rw [hW]; exact (Keep.refl _ _ _).alloc (Nat.le_refl _) _
  have hpq : p ≠ q := by have := HB.out.lt; omega
  have hqp : q ≠ p := hpq.symm
  change Code.wp _ _ _ _ (w.alloc (.cells (pcs (upd F .ad) lu) TP))
  rw [← hW, ← hq]
  have bp := HB.out.keepS ka (by simp)
  clear hW hq
  have BP := Lib.hid bp
  have BQ := Lib.hid bq
  have KA := Lib.hid ka
  clear bp bq ka
  have UA := Lib.hid (HR.out.pin.keep0 KA.out)
  have SA := Lib.hid (HS.out.keepS KA.out (by simp))
  go_wp2_with fail
  refine (kok_w _ p F c l K BP.out).mono ?_
  rintro e W ⟨rfl, rfl⟩
  go_wp2_with fail
  refine (kadv_w _ p F c l K t hs ht BP.out).mono ?_
  rintro e W2 ⟨rfl, bp, hk2⟩
  have bq2 := BQ.out.keepS hk2 (by simpa using hqp)
  have c1 : W2.cell? ⟨p, 1, none⟩ = some (.int .i64 1) := bp.cell 1
  have c2 : W2.cell? ⟨p, 2, none⟩ = some (.int .i64 7) := bp.cell 2
  have c3 : W2.cell? ⟨p, 3, none⟩ = some (.int .i64 2) := bp.cell 3
  have z0 : W2.cell? ⟨q, 0, none⟩ = some (.int .i64 7) := bq2.cell 0
  have z1 : W2.cell? ⟨q, 1, none⟩ = some (.int .i64 1) := bq2.cell 1
  have z2 : W2.cell? ⟨q, 2, none⟩ = some (.int .i64 7) := bq2.cell 2
  have zr : W2.rangeAt q 0 (pcs (upd F .ad) lu).toList := bq2.range
  have S2 : Hid (SkAt W2 p F c l { K with now := t }) := Lib.hid (SA.out.same rfl rfl bp hk2)
  have K2 : Hid (Keep w.heap.size [p] w W2) := Lib.hid ((KA.out.mono (S' := [p]) (Nat.le_refl _) (by simp)).trans (hk2.mono KA.out.size (by simp)))
  have BQ2 := Lib.hid bq2
  have UA2 : Hid (PIn W2 (upd F .ad) lu) := Lib.hid (UA.out.keepP hk2 (fun g hg hm => hlu (by rw [← List.mem_singleton.1 hm]; exact hg)))
  clear hk2 bp bq2
  go_upto_region 4 with fail
  have y0 : (fun w' => w'.rangeAt q 0 (pcs (upd F .ad) lu).toList ∧ w'.cell? ⟨q, 0, none⟩ = some (.int .i64 7) ∧ w'.cell? ⟨q, 1, none⟩ = some (.int .i64 1) ∧ w'.cell? ⟨q, 2, none⟩ = some (.int .i64 7) ∧ w'.cell? ⟨p, 1, none⟩ = some (.int .i64 1) ∧ w'.cell? ⟨p, 2, none⟩ = some (.int .i64 7)) W2.drew := ⟨zr, z0, z1, z2, c1, c2⟩
  refine wp_region_held_drew (S := (fun w' => w'.rangeAt q 0 (pcs (upd F .ad) lu).toList ∧ w'.cell? ⟨q, 0, none⟩ = some (.int .i64 7) ∧ w'.cell? ⟨q, 1, none⟩ = some (.int .i64 1) ∧ w'.cell? ⟨q, 2, none⟩ = some (.int .i64 7) ∧ w'.cell? ⟨p, 1, none⟩ = some (.int .i64 1) ∧ w'.cell? ⟨p, 2, none⟩ = some (.int .i64 7))) (by kernel_rfl) (by exact y0) (fun hHeld => ?_)
  refine wpAnyH_take (i := 0) (oi := { dst := some 14, op := Op.load 85 (Operand.tmp 4), type := 85, pos := _, after := _, guard := none }) (v := _) rfl (by kernel_rfl) (by kernel_rfl) (by kernel_rfl) (fun _ _ _ h => h) (yieldsIf_load_mid (by rfl) TP (.tmp 4) rfl q 0 rfl (pcs (upd F .ad) lu).toList _ (fun _ h => h.1) Try.underlying85 rfl (by rw [infoPd]; rfl)) (by assumption) ?_
  (try simp only [Act.put, List.setIfInBounds_toArray, List.set_cons_zero, List.set_cons_succ])
  refine wpAnyH_ready (rs := [1]) (by kernel_rfl) (by simp) ?_
  refine (AllReadyH.cons (o := { dst := some 15, op := Op.call { callee := Callee.value (Operand.func 75), args := #[Operand.tmp 14], argTypes := #[85] }, type := 4, pos := _, after := _, guard := none }) rfl (fun KQ hK => ?_) AllReadyH.nil)
  go_simp
  refine (pvalid_b _ (upd F .ad) lu true (by exact UA2.out.drew) HVU.out).mono ?_
  rintro e W3 ⟨rfl, hk3⟩
  have bq3 := BQ2.out.drew.keepS hk3 (by simp)
  have s3 : SkAt W3 p F c l { K with now := t } := SkAt.keepS (w := W2.drew) ⟨S2.out.blk.drew, S2.out.data.drew, S2.out.oct, S2.out.nD, S2.out.got.drew, S2.out.nW, S2.out.nDW⟩ hk3 (by simp)
  have K3 : Hid (Keep w.heap.size [p] w W3) := Lib.hid (K2.out.drew.trans (hk3.mono K2.out.drew.size (by simp)))
  have UA3 : Hid (PIn W3 (upd F .ad) lu) := Lib.hid (UA2.out.drew.keep0 hk3)
  have y1 : (fun w' => w'.rangeAt q 0 (pcs (upd F .ad) lu).toList ∧ w'.cell? ⟨q, 0, none⟩ = some (.int .i64 7) ∧ w'.cell? ⟨q, 1, none⟩ = some (.int .i64 1) ∧ w'.cell? ⟨q, 2, none⟩ = some (.int .i64 7) ∧ w'.cell? ⟨p, 1, none⟩ = some (.int .i64 1) ∧ w'.cell? ⟨p, 2, none⟩ = some (.int .i64 7)) W3 := ⟨bq3.range, bq3.cell 0, bq3.cell 1, bq3.cell 2, s3.blk.cell 1, s3.blk.cell 2⟩
  have S3 := Lib.hid s3
  have BQ3 := Lib.hid bq3
  clear hk3 s3 bq3 y0 z0 z1 z2 zr c1 c2 c3
  refine hK.out _ _ (by exact y1) (fun hHeld => ?_)
  clear hK KQ
  (try simp only [Act.put, List.setIfInBounds_toArray, List.set_cons_zero, List.set_cons_succ])
  refine tkH (i := 2) (oi := { dst := some 16, op := Op.unOp UnOp.not 4 (Operand.tmp 15), type := 4, pos := _, after := _, guard := none }) rfl (by assumption) ?_
  (try simp only [Act.put, List.setIfInBounds_toArray, List.set_cons_zero, List.set_cons_succ])
  refine tkH (i := 3) (oi := { dst := some 17, op := Op.move (Operand.tmp 16), type := 4, pos := _, after := _, guard := none }) rfl (by assumption) ?_
  (try simp only [Act.put, List.setIfInBounds_toArray, List.set_cons_zero, List.set_cons_succ])
  refine tkH (i := 4) (oi := { dst := some 18, op := Op.fieldAddr 85 (Operand.tmp 4) 1, type := 0, pos := _, after := _, guard := some (3, false) }) rfl (by assumption) ?_
  (try simp only [Act.put, List.setIfInBounds_toArray, List.set_cons_zero, List.set_cons_succ])
  refine tkH (i := 5) (oi := { dst := some 19, op := Op.load 75 (Operand.tmp 18), type := 75, pos := _, after := _, guard := some (3, false) }) rfl (by assumption) ?_
  (try simp only [Act.put, List.setIfInBounds_toArray, List.set_cons_zero, List.set_cons_succ])
  refine tkH (i := 6) (oi := { dst := some 20, op := Op.move (Operand.tmp 0), type := 79, pos := _, after := _, guard := some (3, false) }) rfl (by assumption) ?_
  (try simp only [Act.put, List.setIfInBounds_toArray, List.set_cons_zero, List.set_cons_succ])
  refine tkH (i := 7) (oi := { dst := some 21, op := Op.nilCheck (Operand.tmp 20), type := 0, pos := _, after := _, guard := some (3, false) }) rfl (by assumption) ?_
  (try simp only [Act.put, List.setIfInBounds_toArray, List.set_cons_zero, List.set_cons_succ])
  refine tkH (i := 8) (oi := { dst := some 22, op := Op.fieldAddr 150 (Operand.tmp 21) 1, type := 0, pos := _, after := _, guard := some (3, false) }) rfl (by assumption) ?_
  (try simp only [Act.put, List.setIfInBounds_toArray, List.set_cons_zero, List.set_cons_succ])
  refine tkH (i := 9) (oi := { dst := some 23, op := Op.load 75 (Operand.tmp 22), type := 75, pos := _, after := _, guard := some (3, false) }) rfl (by assumption) ?_
  (try simp only [Act.put, List.setIfInBounds_toArray, List.set_cons_zero, List.set_cons_succ])
  refine tkH (i := 10) (oi := { dst := some 24, op := Op.binOp BinOp.neq 75 (Operand.tmp 19) (Operand.tmp 23) 75, type := 4, pos := _, after := _, guard := some (3, false) }) rfl (by assumption) ?_
  (try simp only [Act.put, List.setIfInBounds_toArray, List.set_cons_zero, List.set_cons_succ])
  refine tkH (i := 11) (oi := { dst := some 25, op := Op.pick (Operand.tmp 17) (Operand.const (Value.bool true)) (Operand.tmp 24), type := 4, pos := _, after := _, guard := none }) rfl (by assumption) ?_
  (try simp only [Act.put, List.setIfInBounds_toArray, List.set_cons_zero, List.set_cons_succ])
  refine tkH (i := 12) (oi := { dst := some 26, op := Op.move (Operand.tmp 25), type := 4, pos := _, after := _, guard := none }) rfl (by assumption) ?_
  (try simp only [Act.put, List.setIfInBounds_toArray, List.set_cons_zero, List.set_cons_succ])
  refine tkH (i := 13) (oi := { dst := some 27, op := Op.fieldAddr 85 (Operand.tmp 4) 0, type := 0, pos := _, after := _, guard := some (12, false) }) rfl (by assumption) ?_
  (try simp only [Act.put, List.setIfInBounds_toArray, List.set_cons_zero, List.set_cons_succ])
  refine tkH (i := 14) (oi := { dst := some 28, op := Op.load 3 (Operand.tmp 27), type := 3, pos := _, after := _, guard := some (12, false) }) rfl (by assumption) ?_
  (try simp only [Act.put, List.setIfInBounds_toArray, List.set_cons_zero, List.set_cons_succ])
  refine wpAnyH_ready (rs := [15]) (by kernel_rfl) (by simp) ?_
  refine (AllReadyH.cons (o := { dst := some 29, op := Op.call { callee := Callee.value (Operand.func 89), args := #[Operand.tmp 28], argTypes := #[3] }, type := 4, pos := _, after := _, guard := some (12, false) }) rfl (fun KQ hK => ?_) AllReadyH.nil)
  go_simp
  refine (pfwd_b _ 7 true (by rfl)).mono ?_
  rintro e W3 ⟨rfl, rfl⟩
  refine hK.out _ _ (by exact y1) (fun hHeld => ?_)
  clear hK KQ
  (try simp only [Act.put, List.setIfInBounds_toArray, List.set_cons_zero, List.set_cons_succ])
  refine tkH (i := 16) (oi := { dst := some 30, op := Op.unOp UnOp.not 4 (Operand.tmp 29), type := 4, pos := _, after := _, guard := some (12, false) }) rfl (by assumption) ?_
  (try simp only [Act.put, List.setIfInBounds_toArray, List.set_cons_zero, List.set_cons_succ])
  refine tkH (i := 17) (oi := { dst := some 31, op := Op.pick (Operand.tmp 26) (Operand.const (Value.bool true)) (Operand.tmp 30), type := 4, pos := _, after := _, guard := none }) rfl (by assumption) ?_
  (try simp only [Act.put, List.setIfInBounds_toArray, List.set_cons_zero, List.set_cons_succ])
  refine wpAnyH_done (by kernel_rfl) ?_ _
  clear hHeld y1
  have r0 : W3.cell? ⟨q, 0, none⟩ = some (.int .i64 7) := BQ3.out.cell 0
  go_upto_region 6 with fail
  refine wp_region_held_drew (S := (fun w' => w'.cell? ⟨q, 0, none⟩ = some (.int .i64 7))) (by kernel_rfl) (by exact r0) (fun hHeld => ?_)
  refine tkH (i := 0) (oi := { dst := some 32, op := Op.fieldAddr 85 (Operand.tmp 4) 0, type := 0, pos := _, after := _, guard := none }) rfl (by assumption) ?_
  (try simp only [Act.put, List.setIfInBounds_toArray, List.set_cons_zero, List.set_cons_succ])
  refine tkH (i := 1) (oi := { dst := some 33, op := Op.load 3 (Operand.tmp 32), type := 3, pos := _, after := _, guard := none }) rfl (by assumption) ?_
  (try simp only [Act.put, List.setIfInBounds_toArray, List.set_cons_zero, List.set_cons_succ])
  refine tkH (i := 2) (oi := { dst := some 34, op := Op.binOp BinOp.eql 3 (Operand.tmp 33) (Operand.const (Value.int IntKind.i64 1)) 3, type := 4, pos := _, after := _, guard := none }) rfl (by assumption) ?_
  (try simp only [Act.put, List.setIfInBounds_toArray, List.set_cons_zero, List.set_cons_succ])
  refine tkH (i := 3) (oi := { dst := some 35, op := Op.move (Operand.tmp 34), type := 4, pos := _, after := _, guard := none }) rfl (by assumption) ?_
  (try simp only [Act.put, List.setIfInBounds_toArray, List.set_cons_zero, List.set_cons_succ])
  refine tkH (i := 4) (oi := { dst := some 36, op := Op.fieldAddr 85 (Operand.tmp 4) 0, type := 0, pos := _, after := _, guard := some (3, false) }) rfl (by assumption) ?_
  (try simp only [Act.put, List.setIfInBounds_toArray, List.set_cons_zero, List.set_cons_succ])
  refine tkH (i := 5) (oi := { dst := some 37, op := Op.load 3 (Operand.tmp 36), type := 3, pos := _, after := _, guard := some (3, false) }) rfl (by assumption) ?_
  (try simp only [Act.put, List.setIfInBounds_toArray, List.set_cons_zero, List.set_cons_succ])
  refine tkH (i := 6) (oi := { dst := some 38, op := Op.binOp BinOp.eql 3 (Operand.tmp 37) (Operand.const (Value.int IntKind.i64 3)) 3, type := 4, pos := _, after := _, guard := some (3, false) }) rfl (by assumption) ?_
  (try simp only [Act.put, List.setIfInBounds_toArray, List.set_cons_zero, List.set_cons_succ])
  refine tkH (i := 7) (oi := { dst := some 39, op := Op.pick (Operand.tmp 35) (Operand.const (Value.bool true)) (Operand.tmp 38), type := 4, pos := _, after := _, guard := none }) rfl (by assumption) ?_
  (try simp only [Act.put, List.setIfInBounds_toArray, List.set_cons_zero, List.set_cons_succ])
  refine tkH (i := 8) (oi := { dst := some 40, op := Op.move (Operand.tmp 39), type := 4, pos := _, after := _, guard := none }) rfl (by assumption) ?_
  (try simp only [Act.put, List.setIfInBounds_toArray, List.set_cons_zero, List.set_cons_succ])
  refine skH (i := 9) (oi := { dst := some 41, op := Op.fieldAddr 85 (Operand.tmp 4) 2, type := 0, pos := _, after := _, guard := some (8, true) }) rfl (by assumption) ?_
  (try simp only [Act.put, List.setIfInBounds_toArray, List.set_cons_zero, List.set_cons_succ])
  refine skH (i := 10) (oi := { dst := some 42, op := Op.load 3 (Operand.tmp 41), type := 3, pos := _, after := _, guard := some (8, true) }) rfl (by assumption) ?_
  (try simp only [Act.put, List.setIfInBounds_toArray, List.set_cons_zero, List.set_cons_succ])
  refine skH (i := 11) (oi := { dst := some 43, op := Op.move (Operand.tmp 0), type := 79, pos := _, after := _, guard := some (8, true) }) rfl (by assumption) ?_
  (try simp only [Act.put, List.setIfInBounds_toArray, List.set_cons_zero, List.set_cons_succ])
  refine skH (i := 12) (oi := { dst := some 44, op := Op.nilCheck (Operand.tmp 43), type := 0, pos := _, after := _, guard := some (8, true) }) rfl (by assumption) ?_
  (try simp only [Act.put, List.setIfInBounds_toArray, List.set_cons_zero, List.set_cons_succ])
  refine skH (i := 13) (oi := { dst := some 45, op := Op.fieldAddr 150 (Operand.tmp 44) 2, type := 0, pos := _, after := _, guard := some (8, true) }) rfl (by assumption) ?_
  (try simp only [Act.put, List.setIfInBounds_toArray, List.set_cons_zero, List.set_cons_succ])
  refine skH (i := 14) (oi := { dst := some 46, op := Op.load 3 (Operand.tmp 45), type := 3, pos := _, after := _, guard := some (8, true) }) rfl (by assumption) ?_
  (try simp only [Act.put, List.setIfInBounds_toArray, List.set_cons_zero, List.set_cons_succ])
  refine skH (i := 15) (oi := { dst := some 47, op := Op.binOp BinOp.neq 3 (Operand.tmp 42) (Operand.tmp 46) 3, type := 4, pos := _, after := _, guard := some (8, true) }) rfl (by assumption) ?_
  (try simp only [Act.put, List.setIfInBounds_toArray, List.set_cons_zero, List.set_cons_succ])
  refine tkH (i := 16) (oi := { dst := some 48, op := Op.pick (Operand.tmp 40) (Operand.tmp 47) (Operand.const (Value.bool false)), type := 4, pos := _, after := _, guard := none }) rfl (by assumption) ?_
  (try simp only [Act.put, List.setIfInBounds_toArray, List.set_cons_zero, List.set_cons_succ])
  refine wpAnyH_done (by kernel_rfl) ?_ _
  clear hHeld
  go_wp2_with (refine wpList_load_mid rfl TP (.tmp 4) rfl q 0 rfl (pcs (upd F .ad) lu).toList _ BQ3.out.drew.range Try.underlying85 rfl (by rw [infoPd]; rfl) ?_)
  have hr4 : RcPre W3.drew F l p { K with now := t } .ad lu := ⟨HR.out.gn, HR.out.gi, HR.out.gd, HR.out.dl, HR.out.n, HR.out.oct, UA3.out.drew, HR.out.ud⟩
  have s4 : SkAt W3.drew p F c l { K with now := t } := ⟨S3.out.blk.drew, S3.out.data.drew, S3.out.oct, S3.out.nD, S3.out.got.drew, S3.out.nW, S3.out.nDW⟩
  refine (rec_any _ p F c l { K with now := t } .ad lu hph hp2 s4 hr4).mono ?_
  rintro e W5 ⟨l5, K5, rfl, hrc, hs5, hk5, hf5⟩
  have hrc2 := rec_now hrc
  obtain ⟨w1, w2, w3, w4⟩ := HWH.out K5 hrc2
  have RC := Lib.hid hrc2
  have S5 := Lib.hid hs5
  have F5 := Lib.hid hf5
  have KB : Hid (Keep w.heap.size (p :: blks l.D) w W5) := Lib.hid ((K3.out.drew.mono (S' := p :: blks l.D) (Nat.le_refl _) (fun y _ hy => by simp only [List.mem_singleton] at hy; simp [hy])).trans (hk5.mono K3.out.drew.size (fun y _ hy => hy)))
  clear hrc hrc2 hs5 hf5 hk5 hr4 s4
  go_wp2_with fail
  refine (kchk_w _ p F c l5 K5 w4 HR.out.n HR.out.oct w1 w2 (fun hw => w3 (by omega)) S5.out).mono ?_
  rintro e W6 ⟨rfl, hs6, hk6⟩
  have S6 := Lib.hid hs6
  have K6 : Hid (Keep w.heap.size (p :: blks l.D) w W6) := Lib.hid (KB.out.trans (hk6.mono KB.out.size (fun y _ hy => by simp only [List.mem_singleton] at hy; simp [hy])))
  clear hs6 hk6
  go_wp2_with fail
  go_ret
  refine ⟨l5, K5, rfl, RC.out, S6.out, K6.out, fun y hy => ?_⟩
  have := K3.out.drew.size
  rcases F5.out y hy with h9 | h9
  · exact .inl h9
  · right; omega
end Go.Proofs.Ytfkbcflgbjncdaa
