/- The sending end: Take. -/
import Derived.Test.YtfkbcflgbjncdaaTxR
import Derived.Test.YtfkbcflgbjncdaaTxV
namespace Go.Proofs.Ytfkbcflgbjncdaa
set_option linter.unusedVariables false
set_option linter.unusedSimpArgs false
open Go.RowKit
theorem PIn.keepP {w w' : World} {u : Pd} {l : Lc} {X : List Nat} (h : PIn w u l) (k : Keep w.heap.size X w w') (hx : ∀ g, g ∈ blks l.D ++ blks l.G → g ∉ X) : PIn w' u l :=
  ⟨h.on, h.od, h.vd.keepS k (fun g hg => hx g (by simp [hg])), h.vg.keepS k (fun g hg => hx g (by simp [hg])), h.cd, h.cg, h.nl, h.dl, h.gl, h.sm⟩
theorem PIn.drew {w : World} {u : Pd} {l : Lc} (h : PIn w u l) : PIn w.drew u l := ⟨h.on, h.od, h.vd.drew, h.vg.drew, h.cd, h.cg, h.nl, h.dl, h.gl, h.sm⟩
def TkPost (w : World) (p : Nat) (F : List Int) (c t : Nat) (l : Ly) (S : Sr) (u : Ut) (e : Ending) (w' : World) : Prop :=
  ∃ l' S', e = .returned (.int .i64 0) ∧ TakeS F.length t S u S' ∧ SrAt w' p F c l' S' ∧ Keep w.heap.size [p] w w' ∧ LyOk w l l' S S'
set_option maxRecDepth 100000 in
set_option maxHeartbeats 4000000 in
theorem take_ae1 (w : World) (p : Nat) (F : List Int) (c : Nat) (l : Ly) (S : Sr) (t T : Nat) (hT : T ≤ t) (ht : t ≤ 1000) (hi : IS c F.length T S) (hn : F.length ≤ 300) (h : SrAt w p F c l S) (lu : Lc) (hx : p ∉ blks lu.D ++ blks lu.G) (hp : S.ph = 1) (hu : PIn w (upd F .ae) lu) (hv : validP (upd F .ae) = true) : Calls Try.prog 35 #[ptr p, .agg (pcs (upd F .ae) lu), .int .i64 t] w (TkPost w p F c t l S .ae) := by
  have hnow : S.now ≤ t := Nat.le_trans hi.now hT
  have HI := Lib.hid hi
  have HS := Lib.hid h
  have HU := Lib.hid hu
  have HVU := Lib.hid hv
  have HB := Lib.hid h.blk
  clear h hi hu hv
  go_enter Try.func35, Try.ntmps35
  go_upto_region 1 with fail
  obtain ⟨W, hW⟩ : ∃ W, W = w.alloc (.cells (pcs (upd F .ae) lu) TP) := ⟨_, rfl⟩
  obtain ⟨q, hq⟩ : ∃ q, q = w.heap.size := ⟨_, rfl⟩
  have bq : Blk W q TP (pcs (upd F .ae) lu) := by rw [hW, hq]; exact Blk.new _ _ _
  have ka : Keep w.heap.size [] w W := by rw [hW]; exact (Keep.refl _ _ _).alloc (Nat.le_refl _) _
  have hpq : p ≠ q := by have := HB.out.lt; omega
  have hqp : q ≠ p := hpq.symm
  change Code.wp _ _ _ _ (w.alloc (.cells (pcs (upd F .ae) lu) TP))
  rw [← hW, ← hq]
  have BQ := Lib.hid bq
  have KA := Lib.hid ka
  have BP := Lib.hid (HB.out.keepS ka (by simp))
  have SA := Lib.hid (HS.out.keepS ka (by simp))
  have UA := Lib.hid (HU.out.keep0 ka)
  clear hW hq bq ka
  go_wp2_with fail
  refine (sok_w _ p F c l S BP.out).mono ?_
  rintro e w1 ⟨rfl, rfl⟩
  go_wp2_with fail
  refine (pass_w _ p F c l S t hnow ht BP.out).mono ?_
  rintro e W2 ⟨rfl, bp, hk2⟩
  have bq2 := BQ.out.keepS hk2 (by simpa using hqp)
  have c1 : W2.cell? ⟨p, 1, none⟩ = some (.int .i64 1) := bp.cell 1
  have c2 : W2.cell? ⟨p, 2, none⟩ = some (.int .i64 7) := bp.cell 2
  have c3 : W2.cell? ⟨p, 3, none⟩ = some (.int .i64 2) := bp.cell 3
  have z0 : W2.cell? ⟨q, 0, none⟩ = some (.int .i64 6) := bq2.cell 0
  have z1 : W2.cell? ⟨q, 1, none⟩ = some (.int .i64 1) := bq2.cell 1
  have z2 : W2.cell? ⟨q, 2, none⟩ = some (.int .i64 7) := bq2.cell 2
  have zr : W2.rangeAt q 0 (pcs (upd F .ae) lu).toList := bq2.range
  have KA2 : Hid (Keep w.heap.size [p] w W2) := Lib.hid ((KA.out.mono (S' := [p]) (Nat.le_refl _) (by simp)).trans (hk2.mono KA.out.size (by simp)))
  have BP2 := Lib.hid bp
  have BQ2 := Lib.hid bq2
  have UA2 : Hid (PIn W2 (upd F .ae) lu) := Lib.hid (UA.out.keepP hk2 (fun g hg hm => hx (by rw [← List.mem_singleton.1 hm]; exact hg)))
  clear hk2 bp bq2
  go_upto_region 4 with fail
  have y0 : (fun w' => w'.rangeAt q 0 (pcs (upd F .ae) lu).toList ∧ w'.cell? ⟨q, 0, none⟩ = some (.int .i64 6) ∧ w'.cell? ⟨q, 1, none⟩ = some (.int .i64 1) ∧ w'.cell? ⟨q, 2, none⟩ = some (.int .i64 7) ∧ w'.cell? ⟨p, 1, none⟩ = some (.int .i64 1) ∧ w'.cell? ⟨p, 2, none⟩ = some (.int .i64 7)) W2.drew := ⟨zr, z0, z1, z2, c1, c2⟩
  refine wp_region_held_drew (S := (fun w' => w'.rangeAt q 0 (pcs (upd F .ae) lu).toList ∧ w'.cell? ⟨q, 0, none⟩ = some (.int .i64 6) ∧ w'.cell? ⟨q, 1, none⟩ = some (.int .i64 1) ∧ w'.cell? ⟨q, 2, none⟩ = some (.int .i64 7) ∧ w'.cell? ⟨p, 1, none⟩ = some (.int .i64 1) ∧ w'.cell? ⟨p, 2, none⟩ = some (.int .i64 7))) (by kernel_rfl) (by exact y0) (fun hHeld => ?_)
  refine wpAnyH_take (i := 0) (oi := { dst := some 14, op := Op.load 85 (Operand.tmp 4), type := 85, pos := _, after := _, guard := none }) (v := _) rfl (by kernel_rfl) (by kernel_rfl) (by kernel_rfl) (fun _ _ _ h => h) (yieldsIf_load_mid (by rfl) TP (.tmp 4) rfl q 0 rfl (pcs (upd F .ae) lu).toList _ (fun _ h => h.1) Try.underlying85 rfl (by rw [infoPd]; rfl)) (by assumption) ?_
  (try simp only [Act.put, List.setIfInBounds_toArray, List.set_cons_zero, List.set_cons_succ])
  refine wpAnyH_ready (rs := [1]) (by kernel_rfl) (by simp) ?_
  refine (AllReadyH.cons (o := { dst := some 15, op := Op.call { callee := Callee.value (Operand.func 75), args := #[Operand.tmp 14], argTypes := #[85] }, type := 4, pos := _, after := _, guard := none }) rfl (fun K hK => ?_) AllReadyH.nil)
  go_simp
  refine (pvalid_b _ (upd F .ae) lu true (by exact UA2.out.drew) HVU.out).mono ?_
  rintro e W3 ⟨rfl, hk3⟩
  have bp3 := BP2.out.drew.keepS hk3 (by simp)
  have bq3 := BQ2.out.drew.keepS hk3 (by simp)
  have K3 := Lib.hid (KA2.out.drew.trans (hk3.mono KA2.out.drew.size (by simp)))
  have UA3 : Hid (PIn W3 (upd F .ae) lu) := Lib.hid (UA2.out.drew.keep0 hk3)
  have y1 : (fun w' => w'.rangeAt q 0 (pcs (upd F .ae) lu).toList ∧ w'.cell? ⟨q, 0, none⟩ = some (.int .i64 6) ∧ w'.cell? ⟨q, 1, none⟩ = some (.int .i64 1) ∧ w'.cell? ⟨q, 2, none⟩ = some (.int .i64 7) ∧ w'.cell? ⟨p, 1, none⟩ = some (.int .i64 1) ∧ w'.cell? ⟨p, 2, none⟩ = some (.int .i64 7)) W3 := ⟨bq3.range, bq3.cell 0, bq3.cell 1, bq3.cell 2, bp3.cell 1, bp3.cell 2⟩
  have BP3 := Lib.hid bp3
  have BQ3 := Lib.hid bq3
  clear hk3 bp3 bq3 y0 z0 z1 z2 zr c1 c2 c3
  refine hK.out _ _ (by exact y1) (fun hHeld => ?_)
  clear hK K
  (try simp only [Act.put, List.setIfInBounds_toArray, List.set_cons_zero, List.set_cons_succ])
  refine tkH (i := 2) (oi := { dst := some 16, op := Op.unOp UnOp.not 4 (Operand.tmp 15), type := 4, pos := _, after := _, guard := none }) rfl (by assumption) ?_
  (try simp only [Act.put, List.setIfInBounds_toArray, List.set_cons_zero, List.set_cons_succ])
  refine tkH (i := 3) (oi := { dst := some 17, op := Op.move (Operand.tmp 16), type := 4, pos := _, after := _, guard := none }) rfl (by assumption) ?_
  (try simp only [Act.put, List.setIfInBounds_toArray, List.set_cons_zero, List.set_cons_succ])
  refine tkH (i := 4) (oi := { dst := some 18, op := Op.fieldAddr 85 (Operand.tmp 4) 1, type := 0, pos := _, after := _, guard := some (3, false) }) rfl (by assumption) ?_
  (try simp only [Act.put, List.setIfInBounds_toArray, List.set_cons_zero, List.set_cons_succ])
  refine tkH (i := 5) (oi := { dst := some 19, op := Op.load 75 (Operand.tmp 18), type := 75, pos := _, after := _, guard := some (3, false) }) rfl (by assumption) ?_
  (try simp only [Act.put, List.setIfInBounds_toArray, List.set_cons_zero, List.set_cons_succ])
  refine tkH (i := 6) (oi := { dst := some 20, op := Op.move (Operand.tmp 0), type := 76, pos := _, after := _, guard := some (3, false) }) rfl (by assumption) ?_
  (try simp only [Act.put, List.setIfInBounds_toArray, List.set_cons_zero, List.set_cons_succ])
  refine tkH (i := 7) (oi := { dst := some 21, op := Op.nilCheck (Operand.tmp 20), type := 0, pos := _, after := _, guard := some (3, false) }) rfl (by assumption) ?_
  (try simp only [Act.put, List.setIfInBounds_toArray, List.set_cons_zero, List.set_cons_succ])
  refine tkH (i := 8) (oi := { dst := some 22, op := Op.fieldAddr 148 (Operand.tmp 21) 1, type := 0, pos := _, after := _, guard := some (3, false) }) rfl (by assumption) ?_
  (try simp only [Act.put, List.setIfInBounds_toArray, List.set_cons_zero, List.set_cons_succ])
  refine tkH (i := 9) (oi := { dst := some 23, op := Op.load 75 (Operand.tmp 22), type := 75, pos := _, after := _, guard := some (3, false) }) rfl (by assumption) ?_
  (try simp only [Act.put, List.setIfInBounds_toArray, List.set_cons_zero, List.set_cons_succ])
  refine tkH (i := 10) (oi := { dst := some 24, op := Op.binOp BinOp.neq 75 (Operand.tmp 19) (Operand.tmp 23) 75, type := 4, pos := _, after := _, guard := some (3, false) }) rfl (by assumption) ?_
  (try simp only [Act.put, List.setIfInBounds_toArray, List.set_cons_zero, List.set_cons_succ])
  refine tkH (i := 11) (oi := { dst := some 25, op := Op.pick (Operand.tmp 17) (Operand.const (Value.bool true)) (Operand.tmp 24), type := 4, pos := _, after := _, guard := none }) rfl (by assumption) ?_
  (try simp only [Act.put, List.setIfInBounds_toArray, List.set_cons_zero, List.set_cons_succ])
  refine tkH (i := 12) (oi := { dst := some 26, op := Op.move (Operand.tmp 25), type := 4, pos := _, after := _, guard := none }) rfl (by assumption) ?_
  (try simp only [Act.put, List.setIfInBounds_toArray, List.set_cons_zero, List.set_cons_succ])
  refine tkH (i := 13) (oi := { dst := some 27, op := Op.fieldAddr 85 (Operand.tmp 4) 0, type := 0, pos := _, after := _, guard := some (12, false) }) rfl (by assumption) ?_
  (try simp only [Act.put, List.setIfInBounds_toArray, List.set_cons_zero, List.set_cons_succ])
  refine tkH (i := 14) (oi := { dst := some 28, op := Op.load 3 (Operand.tmp 27), type := 3, pos := _, after := _, guard := some (12, false) }) rfl (by assumption) ?_
  (try simp only [Act.put, List.setIfInBounds_toArray, List.set_cons_zero, List.set_cons_succ])
  refine wpAnyH_ready (rs := [15]) (by kernel_rfl) (by simp) ?_
  refine (AllReadyH.cons (o := { dst := some 29, op := Op.call { callee := Callee.value (Operand.func 89), args := #[Operand.tmp 28], argTypes := #[3] }, type := 4, pos := _, after := _, guard := some (12, false) }) rfl (fun K hK => ?_) AllReadyH.nil)
  go_simp
  refine (pfwd_b _ 6 false (by rfl)).mono ?_
  rintro e W4 ⟨rfl, rfl⟩
  refine hK.out _ _ (by exact y1) (fun hHeld => ?_)
  clear hK K
  (try simp only [Act.put, List.setIfInBounds_toArray, List.set_cons_zero, List.set_cons_succ])
  refine tkH (i := 16) (oi := { dst := some 30, op := Op.pick (Operand.tmp 26) (Operand.const (Value.bool true)) (Operand.tmp 29), type := 4, pos := _, after := _, guard := none }) rfl (by assumption) ?_
  (try simp only [Act.put, List.setIfInBounds_toArray, List.set_cons_zero, List.set_cons_succ])
  refine tkH (i := 17) (oi := { dst := some 13, op := Op.assign (Operand.tmp 30), type := 4, pos := _, after := _, guard := none }) rfl (by assumption) ?_
  (try simp only [Act.put, List.setIfInBounds_toArray, List.set_cons_zero, List.set_cons_succ])
  refine wpAnyH_done (by kernel_rfl) ?_ _
  clear hHeld y1
  have r0 : W3.cell? ⟨q, 0, none⟩ = some (.int .i64 6) := BQ3.out.cell 0
  have r9 : W3.cell? ⟨q, 9, none⟩ = some (.int .i64 (upd F .ae).code) := BQ3.out.cell 9
  have r10 : W3.cell? ⟨q, 10, none⟩ = some (.slice lu.G lu.gn lu.gc) := BQ3.out.cell 10
  have c3 : W3.cell? ⟨p, 3, none⟩ = some (.int .i64 2) := BP3.out.cell 3
  go_wp2_with fail
  refine (sack_1 _ p F c l { S with now := t } hp BP3.out).mono ?_
  rintro e W5 ⟨rfl, hb5, hk5⟩
  have B5 := Lib.hid hb5
  have K5 : Hid (Keep w.heap.size [p] w W5) := Lib.hid (K3.out.trans (hk5.mono K3.out.size (by simp)))
  clear hb5 hk5
  go_wp2_with fail
  go_ret
  have hs : TakeS F.length t S .ae { S with now := t, ack := S.ack || decide (S.ph = 1) } := .ae
  have e1 : (S.ack || decide (S.ph = 1)) = true := by rw [hp]; simp
  rw [e1] at hs
  exact ⟨l, _, rfl, hs, HS.out.same rfl B5.out K5.out, K5.out, LyOk.same rfl⟩
set_option maxRecDepth 100000 in
set_option maxHeartbeats 4000000 in
theorem take_ae2 (w : World) (p : Nat) (F : List Int) (c : Nat) (l : Ly) (S : Sr) (t T : Nat) (hT : T ≤ t) (ht : t ≤ 1000) (hi : IS c F.length T S) (hn : F.length ≤ 300) (h : SrAt w p F c l S) (lu : Lc) (hx : p ∉ blks lu.D ++ blks lu.G) (hp : 2 ≤ S.ph) (hu : PIn w (upd F .ae) lu) (hv : validP (upd F .ae) = true) : Calls Try.prog 35 #[ptr p, .agg (pcs (upd F .ae) lu), .int .i64 t] w (TkPost w p F c t l S .ae) := by
  have hnow : S.now ≤ t := Nat.le_trans hi.now hT
  have HI := Lib.hid hi
  have HS := Lib.hid h
  have HU := Lib.hid hu
  have HVU := Lib.hid hv
  have HB := Lib.hid h.blk
  clear h hi hu hv
  go_enter Try.func35, Try.ntmps35
  go_upto_region 1 with fail
  obtain ⟨W, hW⟩ : ∃ W, W = w.alloc (.cells (pcs (upd F .ae) lu) TP) := ⟨_, rfl⟩
  obtain ⟨q, hq⟩ : ∃ q, q = w.heap.size := ⟨_, rfl⟩
  have bq : Blk W q TP (pcs (upd F .ae) lu) := by rw [hW, hq]; exact Blk.new _ _ _
  have ka : Keep w.heap.size [] w W := by rw [hW]; exact (Keep.refl _ _ _).alloc (Nat.le_refl _) _
  have hpq : p ≠ q := by have := HB.out.lt; omega
  have hqp : q ≠ p := hpq.symm
  change Code.wp _ _ _ _ (w.alloc (.cells (pcs (upd F .ae) lu) TP))
  rw [← hW, ← hq]
  have BQ := Lib.hid bq
  have KA := Lib.hid ka
  have BP := Lib.hid (HB.out.keepS ka (by simp))
  have SA := Lib.hid (HS.out.keepS ka (by simp))
  have UA := Lib.hid (HU.out.keep0 ka)
  clear hW hq bq ka
  go_wp2_with fail
  refine (sok_w _ p F c l S BP.out).mono ?_
  rintro e w1 ⟨rfl, rfl⟩
  go_wp2_with fail
  refine (pass_w _ p F c l S t hnow ht BP.out).mono ?_
  rintro e W2 ⟨rfl, bp, hk2⟩
  have bq2 := BQ.out.keepS hk2 (by simpa using hqp)
  have c1 : W2.cell? ⟨p, 1, none⟩ = some (.int .i64 1) := bp.cell 1
  have c2 : W2.cell? ⟨p, 2, none⟩ = some (.int .i64 7) := bp.cell 2
  have c3 : W2.cell? ⟨p, 3, none⟩ = some (.int .i64 2) := bp.cell 3
  have z0 : W2.cell? ⟨q, 0, none⟩ = some (.int .i64 6) := bq2.cell 0
  have z1 : W2.cell? ⟨q, 1, none⟩ = some (.int .i64 1) := bq2.cell 1
  have z2 : W2.cell? ⟨q, 2, none⟩ = some (.int .i64 7) := bq2.cell 2
  have zr : W2.rangeAt q 0 (pcs (upd F .ae) lu).toList := bq2.range
  have KA2 : Hid (Keep w.heap.size [p] w W2) := Lib.hid ((KA.out.mono (S' := [p]) (Nat.le_refl _) (by simp)).trans (hk2.mono KA.out.size (by simp)))
  have BP2 := Lib.hid bp
  have BQ2 := Lib.hid bq2
  have UA2 : Hid (PIn W2 (upd F .ae) lu) := Lib.hid (UA.out.keepP hk2 (fun g hg hm => hx (by rw [← List.mem_singleton.1 hm]; exact hg)))
  clear hk2 bp bq2
  go_upto_region 4 with fail
  have y0 : (fun w' => w'.rangeAt q 0 (pcs (upd F .ae) lu).toList ∧ w'.cell? ⟨q, 0, none⟩ = some (.int .i64 6) ∧ w'.cell? ⟨q, 1, none⟩ = some (.int .i64 1) ∧ w'.cell? ⟨q, 2, none⟩ = some (.int .i64 7) ∧ w'.cell? ⟨p, 1, none⟩ = some (.int .i64 1) ∧ w'.cell? ⟨p, 2, none⟩ = some (.int .i64 7)) W2.drew := ⟨zr, z0, z1, z2, c1, c2⟩
  refine wp_region_held_drew (S := (fun w' => w'.rangeAt q 0 (pcs (upd F .ae) lu).toList ∧ w'.cell? ⟨q, 0, none⟩ = some (.int .i64 6) ∧ w'.cell? ⟨q, 1, none⟩ = some (.int .i64 1) ∧ w'.cell? ⟨q, 2, none⟩ = some (.int .i64 7) ∧ w'.cell? ⟨p, 1, none⟩ = some (.int .i64 1) ∧ w'.cell? ⟨p, 2, none⟩ = some (.int .i64 7))) (by kernel_rfl) (by exact y0) (fun hHeld => ?_)
  refine wpAnyH_take (i := 0) (oi := { dst := some 14, op := Op.load 85 (Operand.tmp 4), type := 85, pos := _, after := _, guard := none }) (v := _) rfl (by kernel_rfl) (by kernel_rfl) (by kernel_rfl) (fun _ _ _ h => h) (yieldsIf_load_mid (by rfl) TP (.tmp 4) rfl q 0 rfl (pcs (upd F .ae) lu).toList _ (fun _ h => h.1) Try.underlying85 rfl (by rw [infoPd]; rfl)) (by assumption) ?_
  (try simp only [Act.put, List.setIfInBounds_toArray, List.set_cons_zero, List.set_cons_succ])
  refine wpAnyH_ready (rs := [1]) (by kernel_rfl) (by simp) ?_
  refine (AllReadyH.cons (o := { dst := some 15, op := Op.call { callee := Callee.value (Operand.func 75), args := #[Operand.tmp 14], argTypes := #[85] }, type := 4, pos := _, after := _, guard := none }) rfl (fun K hK => ?_) AllReadyH.nil)
  go_simp
  refine (pvalid_b _ (upd F .ae) lu true (by exact UA2.out.drew) HVU.out).mono ?_
  rintro e W3 ⟨rfl, hk3⟩
  have bp3 := BP2.out.drew.keepS hk3 (by simp)
  have bq3 := BQ2.out.drew.keepS hk3 (by simp)
  have K3 := Lib.hid (KA2.out.drew.trans (hk3.mono KA2.out.drew.size (by simp)))
  have UA3 : Hid (PIn W3 (upd F .ae) lu) := Lib.hid (UA2.out.drew.keep0 hk3)
  have y1 : (fun w' => w'.rangeAt q 0 (pcs (upd F .ae) lu).toList ∧ w'.cell? ⟨q, 0, none⟩ = some (.int .i64 6) ∧ w'.cell? ⟨q, 1, none⟩ = some (.int .i64 1) ∧ w'.cell? ⟨q, 2, none⟩ = some (.int .i64 7) ∧ w'.cell? ⟨p, 1, none⟩ = some (.int .i64 1) ∧ w'.cell? ⟨p, 2, none⟩ = some (.int .i64 7)) W3 := ⟨bq3.range, bq3.cell 0, bq3.cell 1, bq3.cell 2, bp3.cell 1, bp3.cell 2⟩
  have BP3 := Lib.hid bp3
  have BQ3 := Lib.hid bq3
  clear hk3 bp3 bq3 y0 z0 z1 z2 zr c1 c2 c3
  refine hK.out _ _ (by exact y1) (fun hHeld => ?_)
  clear hK K
  (try simp only [Act.put, List.setIfInBounds_toArray, List.set_cons_zero, List.set_cons_succ])
  refine tkH (i := 2) (oi := { dst := some 16, op := Op.unOp UnOp.not 4 (Operand.tmp 15), type := 4, pos := _, after := _, guard := none }) rfl (by assumption) ?_
  (try simp only [Act.put, List.setIfInBounds_toArray, List.set_cons_zero, List.set_cons_succ])
  refine tkH (i := 3) (oi := { dst := some 17, op := Op.move (Operand.tmp 16), type := 4, pos := _, after := _, guard := none }) rfl (by assumption) ?_
  (try simp only [Act.put, List.setIfInBounds_toArray, List.set_cons_zero, List.set_cons_succ])
  refine tkH (i := 4) (oi := { dst := some 18, op := Op.fieldAddr 85 (Operand.tmp 4) 1, type := 0, pos := _, after := _, guard := some (3, false) }) rfl (by assumption) ?_
  (try simp only [Act.put, List.setIfInBounds_toArray, List.set_cons_zero, List.set_cons_succ])
  refine tkH (i := 5) (oi := { dst := some 19, op := Op.load 75 (Operand.tmp 18), type := 75, pos := _, after := _, guard := some (3, false) }) rfl (by assumption) ?_
  (try simp only [Act.put, List.setIfInBounds_toArray, List.set_cons_zero, List.set_cons_succ])
  refine tkH (i := 6) (oi := { dst := some 20, op := Op.move (Operand.tmp 0), type := 76, pos := _, after := _, guard := some (3, false) }) rfl (by assumption) ?_
  (try simp only [Act.put, List.setIfInBounds_toArray, List.set_cons_zero, List.set_cons_succ])
  refine tkH (i := 7) (oi := { dst := some 21, op := Op.nilCheck (Operand.tmp 20), type := 0, pos := _, after := _, guard := some (3, false) }) rfl (by assumption) ?_
  (try simp only [Act.put, List.setIfInBounds_toArray, List.set_cons_zero, List.set_cons_succ])
  refine tkH (i := 8) (oi := { dst := some 22, op := Op.fieldAddr 148 (Operand.tmp 21) 1, type := 0, pos := _, after := _, guard := some (3, false) }) rfl (by assumption) ?_
  (try simp only [Act.put, List.setIfInBounds_toArray, List.set_cons_zero, List.set_cons_succ])
  refine tkH (i := 9) (oi := { dst := some 23, op := Op.load 75 (Operand.tmp 22), type := 75, pos := _, after := _, guard := some (3, false) }) rfl (by assumption) ?_
  (try simp only [Act.put, List.setIfInBounds_toArray, List.set_cons_zero, List.set_cons_succ])
  refine tkH (i := 10) (oi := { dst := some 24, op := Op.binOp BinOp.neq 75 (Operand.tmp 19) (Operand.tmp 23) 75, type := 4, pos := _, after := _, guard := some (3, false) }) rfl (by assumption) ?_
  (try simp only [Act.put, List.setIfInBounds_toArray, List.set_cons_zero, List.set_cons_succ])
  refine tkH (i := 11) (oi := { dst := some 25, op := Op.pick (Operand.tmp 17) (Operand.const (Value.bool true)) (Operand.tmp 24), type := 4, pos := _, after := _, guard := none }) rfl (by assumption) ?_
  (try simp only [Act.put, List.setIfInBounds_toArray, List.set_cons_zero, List.set_cons_succ])
  refine tkH (i := 12) (oi := { dst := some 26, op := Op.move (Operand.tmp 25), type := 4, pos := _, after := _, guard := none }) rfl (by assumption) ?_
  (try simp only [Act.put, List.setIfInBounds_toArray, List.set_cons_zero, List.set_cons_succ])
  refine tkH (i := 13) (oi := { dst := some 27, op := Op.fieldAddr 85 (Operand.tmp 4) 0, type := 0, pos := _, after := _, guard := some (12, false) }) rfl (by assumption) ?_
  (try simp only [Act.put, List.setIfInBounds_toArray, List.set_cons_zero, List.set_cons_succ])
  refine tkH (i := 14) (oi := { dst := some 28, op := Op.load 3 (Operand.tmp 27), type := 3, pos := _, after := _, guard := some (12, false) }) rfl (by assumption) ?_
  (try simp only [Act.put, List.setIfInBounds_toArray, List.set_cons_zero, List.set_cons_succ])
  refine wpAnyH_ready (rs := [15]) (by kernel_rfl) (by simp) ?_
  refine (AllReadyH.cons (o := { dst := some 29, op := Op.call { callee := Callee.value (Operand.func 89), args := #[Operand.tmp 28], argTypes := #[3] }, type := 4, pos := _, after := _, guard := some (12, false) }) rfl (fun K hK => ?_) AllReadyH.nil)
  go_simp
  refine (pfwd_b _ 6 false (by rfl)).mono ?_
  rintro e W4 ⟨rfl, rfl⟩
  refine hK.out _ _ (by exact y1) (fun hHeld => ?_)
  clear hK K
  (try simp only [Act.put, List.setIfInBounds_toArray, List.set_cons_zero, List.set_cons_succ])
  refine tkH (i := 16) (oi := { dst := some 30, op := Op.pick (Operand.tmp 26) (Operand.const (Value.bool true)) (Operand.tmp 29), type := 4, pos := _, after := _, guard := none }) rfl (by assumption) ?_
  (try simp only [Act.put, List.setIfInBounds_toArray, List.set_cons_zero, List.set_cons_succ])
  refine tkH (i := 17) (oi := { dst := some 13, op := Op.assign (Operand.tmp 30), type := 4, pos := _, after := _, guard := none }) rfl (by assumption) ?_
  (try simp only [Act.put, List.setIfInBounds_toArray, List.set_cons_zero, List.set_cons_succ])
  refine wpAnyH_done (by kernel_rfl) ?_ _
  clear hHeld y1
  have r0 : W3.cell? ⟨q, 0, none⟩ = some (.int .i64 6) := BQ3.out.cell 0
  have r9 : W3.cell? ⟨q, 9, none⟩ = some (.int .i64 (upd F .ae).code) := BQ3.out.cell 9
  have r10 : W3.cell? ⟨q, 10, none⟩ = some (.slice lu.G lu.gn lu.gc) := BQ3.out.cell 10
  have c3 : W3.cell? ⟨p, 3, none⟩ = some (.int .i64 2) := BP3.out.cell 3
  go_wp2_with fail
  refine (sack_2 _ p F c l { S with now := t } hp BP3.out).mono ?_
  rintro e W5 ⟨rfl, rfl⟩
  go_wp2_with fail
  go_ret
  have hs : TakeS F.length t S .ae { S with now := t, ack := S.ack || decide (S.ph = 1) } := .ae
  have e1 : (S.ack || decide (S.ph = 1)) = S.ack := by rw [decide_eq_false (by omega)]; simp
  rw [e1] at hs
  exact ⟨l, _, rfl, hs, HS.out.same rfl BP3.out K3.out, K3.out, LyOk.same rfl⟩
set_option maxRecDepth 100000 in
set_option maxHeartbeats 4000000 in
theorem take_nk2 (w : World) (p : Nat) (F : List Int) (c : Nat) (l : Ly) (S : Sr) (t T : Nat) (hT : T ≤ t) (ht : t ≤ 1000) (hi : IS c F.length T S) (hn : F.length ≤ 300) (h : SrAt w p F c l S) (lu : Lc) (b : Bool) (L : List Gp) (hx : p ∉ blks lu.D ++ blks lu.G) (hgb : ∀ g ∈ (upd F (.nk b L)).gaps, 0 ≤ g.f ∧ g.t ≤ (F.length : Int)) (hgl : lu.gn ≤ 100) (hp : S.ph = 2 ∨ S.ph = 4) (hu : PIn w (upd F (.nk b L)) lu) (hv : validP (upd F (.nk b L)) = true) : Calls Try.prog 35 #[ptr p, .agg (pcs (upd F (.nk b L)) lu), .int .i64 t] w (TkPost w p F c t l S (.nk b L)) := by
  have hnow : S.now ≤ t := Nat.le_trans hi.now hT
  have HI := Lib.hid hi
  have HS := Lib.hid h
  have HU := Lib.hid hu
  have HVU := Lib.hid hv
  have HB := Lib.hid h.blk
  clear h hi hu hv
  go_enter Try.func35, Try.ntmps35
  go_upto_region 1 with fail
  obtain ⟨W, hW⟩ : ∃ W, W = w.alloc (.cells (pcs (upd F (.nk b L)) lu) TP) := ⟨_, rfl⟩
  obtain ⟨q, hq⟩ : ∃ q, q = w.heap.size := ⟨_, rfl⟩
  have bq : Blk W q TP (pcs (upd F (.nk b L)) lu) := by rw [hW, hq]; exact Blk.new _ _ _
  have ka : Keep w.heap.size [] w W := by rw [hW]; exact (Keep.refl _ _ _).alloc (Nat.le_refl _) _
  have hpq : p ≠ q := by have := HB.out.lt; omega
  have hqp : q ≠ p := hpq.symm
  change Code.wp _ _ _ _ (w.alloc (.cells (pcs (upd F (.nk b L)) lu) TP))
  rw [← hW, ← hq]
  have BQ := Lib.hid bq
  have KA := Lib.hid ka
  have BP := Lib.hid (HB.out.keepS ka (by simp))
  have SA := Lib.hid (HS.out.keepS ka (by simp))
  have UA := Lib.hid (HU.out.keep0 ka)
  clear hW hq bq ka
  go_wp2_with fail
  refine (sok_w _ p F c l S BP.out).mono ?_
  rintro e w1 ⟨rfl, rfl⟩
  go_wp2_with fail
  refine (pass_w _ p F c l S t hnow ht BP.out).mono ?_
  rintro e W2 ⟨rfl, bp, hk2⟩
  have bq2 := BQ.out.keepS hk2 (by simpa using hqp)
  have c1 : W2.cell? ⟨p, 1, none⟩ = some (.int .i64 1) := bp.cell 1
  have c2 : W2.cell? ⟨p, 2, none⟩ = some (.int .i64 7) := bp.cell 2
  have c3 : W2.cell? ⟨p, 3, none⟩ = some (.int .i64 2) := bp.cell 3
  have z0 : W2.cell? ⟨q, 0, none⟩ = some (.int .i64 4) := bq2.cell 0
  have z1 : W2.cell? ⟨q, 1, none⟩ = some (.int .i64 1) := bq2.cell 1
  have z2 : W2.cell? ⟨q, 2, none⟩ = some (.int .i64 7) := bq2.cell 2
  have zr : W2.rangeAt q 0 (pcs (upd F (.nk b L)) lu).toList := bq2.range
  have KA2 : Hid (Keep w.heap.size [p] w W2) := Lib.hid ((KA.out.mono (S' := [p]) (Nat.le_refl _) (by simp)).trans (hk2.mono KA.out.size (by simp)))
  have BP2 := Lib.hid bp
  have BQ2 := Lib.hid bq2
  have UA2 : Hid (PIn W2 (upd F (.nk b L)) lu) := Lib.hid (UA.out.keepP hk2 (fun g hg hm => hx (by rw [← List.mem_singleton.1 hm]; exact hg)))
  clear hk2 bp bq2
  go_upto_region 4 with fail
  have y0 : (fun w' => w'.rangeAt q 0 (pcs (upd F (.nk b L)) lu).toList ∧ w'.cell? ⟨q, 0, none⟩ = some (.int .i64 4) ∧ w'.cell? ⟨q, 1, none⟩ = some (.int .i64 1) ∧ w'.cell? ⟨q, 2, none⟩ = some (.int .i64 7) ∧ w'.cell? ⟨p, 1, none⟩ = some (.int .i64 1) ∧ w'.cell? ⟨p, 2, none⟩ = some (.int .i64 7)) W2.drew := ⟨zr, z0, z1, z2, c1, c2⟩
  refine wp_region_held_drew (S := (fun w' => w'.rangeAt q 0 (pcs (upd F (.nk b L)) lu).toList ∧ w'.cell? ⟨q, 0, none⟩ = some (.int .i64 4) ∧ w'.cell? ⟨q, 1, none⟩ = some (.int .i64 1) ∧ w'.cell? ⟨q, 2, none⟩ = some (.int .i64 7) ∧ w'.cell? ⟨p, 1, none⟩ = some (.int .i64 1) ∧ w'.cell? ⟨p, 2, none⟩ = some (.int .i64 7))) (by kernel_rfl) (by exact y0) (fun hHeld => ?_)
  refine wpAnyH_take (i := 0) (oi := { dst := some 14, op := Op.load 85 (Operand.tmp 4), type := 85, pos := _, after := _, guard := none }) (v := _) rfl (by kernel_rfl) (by kernel_rfl) (by kernel_rfl) (fun _ _ _ h => h) (yieldsIf_load_mid (by rfl) TP (.tmp 4) rfl q 0 rfl (pcs (upd F (.nk b L)) lu).toList _ (fun _ h => h.1) Try.underlying85 rfl (by rw [infoPd]; rfl)) (by assumption) ?_
  (try simp only [Act.put, List.setIfInBounds_toArray, List.set_cons_zero, List.set_cons_succ])
  refine wpAnyH_ready (rs := [1]) (by kernel_rfl) (by simp) ?_
  refine (AllReadyH.cons (o := { dst := some 15, op := Op.call { callee := Callee.value (Operand.func 75), args := #[Operand.tmp 14], argTypes := #[85] }, type := 4, pos := _, after := _, guard := none }) rfl (fun K hK => ?_) AllReadyH.nil)
  go_simp
  refine (pvalid_b _ (upd F (.nk b L)) lu true (by exact UA2.out.drew) HVU.out).mono ?_
  rintro e W3 ⟨rfl, hk3⟩
  have bp3 := BP2.out.drew.keepS hk3 (by simp)
  have bq3 := BQ2.out.drew.keepS hk3 (by simp)
  have K3 := Lib.hid (KA2.out.drew.trans (hk3.mono KA2.out.drew.size (by simp)))
  have UA3 : Hid (PIn W3 (upd F (.nk b L)) lu) := Lib.hid (UA2.out.drew.keep0 hk3)
  have y1 : (fun w' => w'.rangeAt q 0 (pcs (upd F (.nk b L)) lu).toList ∧ w'.cell? ⟨q, 0, none⟩ = some (.int .i64 4) ∧ w'.cell? ⟨q, 1, none⟩ = some (.int .i64 1) ∧ w'.cell? ⟨q, 2, none⟩ = some (.int .i64 7) ∧ w'.cell? ⟨p, 1, none⟩ = some (.int .i64 1) ∧ w'.cell? ⟨p, 2, none⟩ = some (.int .i64 7)) W3 := ⟨bq3.range, bq3.cell 0, bq3.cell 1, bq3.cell 2, bp3.cell 1, bp3.cell 2⟩
  have BP3 := Lib.hid bp3
  have BQ3 := Lib.hid bq3
  clear hk3 bp3 bq3 y0 z0 z1 z2 zr c1 c2 c3
  refine hK.out _ _ (by exact y1) (fun hHeld => ?_)
  clear hK K
  (try simp only [Act.put, List.setIfInBounds_toArray, List.set_cons_zero, List.set_cons_succ])
  refine tkH (i := 2) (oi := { dst := some 16, op := Op.unOp UnOp.not 4 (Operand.tmp 15), type := 4, pos := _, after := _, guard := none }) rfl (by assumption) ?_
  (try simp only [Act.put, List.setIfInBounds_toArray, List.set_cons_zero, List.set_cons_succ])
  refine tkH (i := 3) (oi := { dst := some 17, op := Op.move (Operand.tmp 16), type := 4, pos := _, after := _, guard := none }) rfl (by assumption) ?_
  (try simp only [Act.put, List.setIfInBounds_toArray, List.set_cons_zero, List.set_cons_succ])
  refine tkH (i := 4) (oi := { dst := some 18, op := Op.fieldAddr 85 (Operand.tmp 4) 1, type := 0, pos := _, after := _, guard := some (3, false) }) rfl (by assumption) ?_
  (try simp only [Act.put, List.setIfInBounds_toArray, List.set_cons_zero, List.set_cons_succ])
  refine tkH (i := 5) (oi := { dst := some 19, op := Op.load 75 (Operand.tmp 18), type := 75, pos := _, after := _, guard := some (3, false) }) rfl (by assumption) ?_
  (try simp only [Act.put, List.setIfInBounds_toArray, List.set_cons_zero, List.set_cons_succ])
  refine tkH (i := 6) (oi := { dst := some 20, op := Op.move (Operand.tmp 0), type := 76, pos := _, after := _, guard := some (3, false) }) rfl (by assumption) ?_
  (try simp only [Act.put, List.setIfInBounds_toArray, List.set_cons_zero, List.set_cons_succ])
  refine tkH (i := 7) (oi := { dst := some 21, op := Op.nilCheck (Operand.tmp 20), type := 0, pos := _, after := _, guard := some (3, false) }) rfl (by assumption) ?_
  (try simp only [Act.put, List.setIfInBounds_toArray, List.set_cons_zero, List.set_cons_succ])
  refine tkH (i := 8) (oi := { dst := some 22, op := Op.fieldAddr 148 (Operand.tmp 21) 1, type := 0, pos := _, after := _, guard := some (3, false) }) rfl (by assumption) ?_
  (try simp only [Act.put, List.setIfInBounds_toArray, List.set_cons_zero, List.set_cons_succ])
  refine tkH (i := 9) (oi := { dst := some 23, op := Op.load 75 (Operand.tmp 22), type := 75, pos := _, after := _, guard := some (3, false) }) rfl (by assumption) ?_
  (try simp only [Act.put, List.setIfInBounds_toArray, List.set_cons_zero, List.set_cons_succ])
  refine tkH (i := 10) (oi := { dst := some 24, op := Op.binOp BinOp.neq 75 (Operand.tmp 19) (Operand.tmp 23) 75, type := 4, pos := _, after := _, guard := some (3, false) }) rfl (by assumption) ?_
  (try simp only [Act.put, List.setIfInBounds_toArray, List.set_cons_zero, List.set_cons_succ])
  refine tkH (i := 11) (oi := { dst := some 25, op := Op.pick (Operand.tmp 17) (Operand.const (Value.bool true)) (Operand.tmp 24), type := 4, pos := _, after := _, guard := none }) rfl (by assumption) ?_
  (try simp only [Act.put, List.setIfInBounds_toArray, List.set_cons_zero, List.set_cons_succ])
  refine tkH (i := 12) (oi := { dst := some 26, op := Op.move (Operand.tmp 25), type := 4, pos := _, after := _, guard := none }) rfl (by assumption) ?_
  (try simp only [Act.put, List.setIfInBounds_toArray, List.set_cons_zero, List.set_cons_succ])
  refine tkH (i := 13) (oi := { dst := some 27, op := Op.fieldAddr 85 (Operand.tmp 4) 0, type := 0, pos := _, after := _, guard := some (12, false) }) rfl (by assumption) ?_
  (try simp only [Act.put, List.setIfInBounds_toArray, List.set_cons_zero, List.set_cons_succ])
  refine tkH (i := 14) (oi := { dst := some 28, op := Op.load 3 (Operand.tmp 27), type := 3, pos := _, after := _, guard := some (12, false) }) rfl (by assumption) ?_
  (try simp only [Act.put, List.setIfInBounds_toArray, List.set_cons_zero, List.set_cons_succ])
  refine wpAnyH_ready (rs := [15]) (by kernel_rfl) (by simp) ?_
  refine (AllReadyH.cons (o := { dst := some 29, op := Op.call { callee := Callee.value (Operand.func 89), args := #[Operand.tmp 28], argTypes := #[3] }, type := 4, pos := _, after := _, guard := some (12, false) }) rfl (fun K hK => ?_) AllReadyH.nil)
  go_simp
  refine (pfwd_b _ 4 false (by rfl)).mono ?_
  rintro e W4 ⟨rfl, rfl⟩
  refine hK.out _ _ (by exact y1) (fun hHeld => ?_)
  clear hK K
  (try simp only [Act.put, List.setIfInBounds_toArray, List.set_cons_zero, List.set_cons_succ])
  refine tkH (i := 16) (oi := { dst := some 30, op := Op.pick (Operand.tmp 26) (Operand.const (Value.bool true)) (Operand.tmp 29), type := 4, pos := _, after := _, guard := none }) rfl (by assumption) ?_
  (try simp only [Act.put, List.setIfInBounds_toArray, List.set_cons_zero, List.set_cons_succ])
  refine tkH (i := 17) (oi := { dst := some 13, op := Op.assign (Operand.tmp 30), type := 4, pos := _, after := _, guard := none }) rfl (by assumption) ?_
  (try simp only [Act.put, List.setIfInBounds_toArray, List.set_cons_zero, List.set_cons_succ])
  refine wpAnyH_done (by kernel_rfl) ?_ _
  clear hHeld y1
  have r0 : W3.cell? ⟨q, 0, none⟩ = some (.int .i64 4) := BQ3.out.cell 0
  have r9 : W3.cell? ⟨q, 9, none⟩ = some (.int .i64 (upd F (.nk b L)).code) := BQ3.out.cell 9
  have r10 : W3.cell? ⟨q, 10, none⟩ = some (.slice lu.G lu.gn lu.gc) := BQ3.out.cell 10
  have c3 : W3.cell? ⟨p, 3, none⟩ = some (.int .i64 2) := BP3.out.cell 3
  go_wp2_with fail
  refine (sreq_2 _ p F c l { S with now := t } lu.G lu.gn lu.gc (upd F (.nk b L)).gaps hgl UA3.out.cg hn UA3.out.vg hgb hp BP3.out).mono ?_
  rintro e W5 ⟨rfl, hk5⟩
  have B5 := Lib.hid (BP3.out.keepS hk5 (by simp))
  have K5 : Hid (Keep w.heap.size [p] w W5) := Lib.hid (K3.out.trans (hk5.mono K3.out.size (by simp)))
  clear hk5
  go_wp2_with fail
  go_ret
  exact ⟨l, _, rfl, .nk2 b L (by omega), HS.out.same rfl B5.out K5.out, K5.out, LyOk.same rfl⟩
set_option maxRecDepth 100000 in
set_option maxHeartbeats 4000000 in
theorem take_nk1 (w : World) (p : Nat) (F : List Int) (c : Nat) (l : Ly) (S : Sr) (t T : Nat) (hT : T ≤ t) (ht : t ≤ 1000) (hi : IS c F.length T S) (hn : F.length ≤ 300) (h : SrAt w p F c l S) (lu : Lc) (b : Bool) (L : List Gp) (hL : ∀ g ∈ L, g.f < g.t) (hx : p ∉ blks lu.D ++ blks lu.G) (hgb : ∀ g ∈ (upd F (.nk b L)).gaps, 0 ≤ g.f ∧ g.t ≤ (F.length : Int)) (hgl : lu.gn ≤ 100) (hp : S.ph = 1) (hu : PIn w (upd F (.nk b L)) lu) (hv : validP (upd F (.nk b L)) = true) : Calls Try.prog 35 #[ptr p, .agg (pcs (upd F (.nk b L)) lu), .int .i64 t] w (TkPost w p F c t l S (.nk b L)) := by
  have hnow : S.now ≤ t := Nat.le_trans hi.now hT
  have hwi : ∀ z, mem S.wd z → 0 ≤ z ∧ z < (F.length : Int) := fun z hz => hi.al.inn hz
  have HWI := Lib.hid hwi
  clear hwi
  have HI := Lib.hid hi
  have HS := Lib.hid h
  have HU := Lib.hid hu
  have HVU := Lib.hid hv
  have HB := Lib.hid h.blk
  clear h hi hu hv
  go_enter Try.func35, Try.ntmps35
  go_upto_region 1 with fail
  obtain ⟨W, hW⟩ : ∃ W, W = w.alloc (.cells (pcs (upd F (.nk b L)) lu) TP) := ⟨_, rfl⟩
  obtain ⟨q, hq⟩ : ∃ q, q = w.heap.size := ⟨_, rfl⟩
  have bq : Blk W q TP (pcs (upd F (.nk b L)) lu) := by rw [hW, hq]; exact Blk.new _ _ _
  have ka : Keep w.heap.size [] w W := by rw [hW]; exact (Keep.refl _ _ _).alloc (Nat.le_refl _) _
  have hpq : p ≠ q := by have := HB.out.lt; omega
  have hqp : q ≠ p := hpq.symm
  change Code.wp _ _ _ _ (w.alloc (.cells (pcs (upd F (.nk b L)) lu) TP))
  rw [← hW, ← hq]
  have BQ := Lib.hid bq
  have KA := Lib.hid ka
  have BP := Lib.hid (HB.out.keepS ka (by simp))
  have SA := Lib.hid (HS.out.keepS ka (by simp))
  have UA := Lib.hid (HU.out.keep0 ka)
  clear hW hq bq ka
  go_wp2_with fail
  refine (sok_w _ p F c l S BP.out).mono ?_
  rintro e w1 ⟨rfl, rfl⟩
  go_wp2_with fail
  refine (pass_w _ p F c l S t hnow ht BP.out).mono ?_
  rintro e W2 ⟨rfl, bp, hk2⟩
  have bq2 := BQ.out.keepS hk2 (by simpa using hqp)
  have c1 : W2.cell? ⟨p, 1, none⟩ = some (.int .i64 1) := bp.cell 1
  have c2 : W2.cell? ⟨p, 2, none⟩ = some (.int .i64 7) := bp.cell 2
  have c3 : W2.cell? ⟨p, 3, none⟩ = some (.int .i64 2) := bp.cell 3
  have z0 : W2.cell? ⟨q, 0, none⟩ = some (.int .i64 4) := bq2.cell 0
  have z1 : W2.cell? ⟨q, 1, none⟩ = some (.int .i64 1) := bq2.cell 1
  have z2 : W2.cell? ⟨q, 2, none⟩ = some (.int .i64 7) := bq2.cell 2
  have zr : W2.rangeAt q 0 (pcs (upd F (.nk b L)) lu).toList := bq2.range
  have KA2 : Hid (Keep w.heap.size [p] w W2) := Lib.hid ((KA.out.mono (S' := [p]) (Nat.le_refl _) (by simp)).trans (hk2.mono KA.out.size (by simp)))
  have BP2 := Lib.hid bp
  have BQ2 := Lib.hid bq2
  have UA2 : Hid (PIn W2 (upd F (.nk b L)) lu) := Lib.hid (UA.out.keepP hk2 (fun g hg hm => hx (by rw [← List.mem_singleton.1 hm]; exact hg)))
  clear hk2 bp bq2
  go_upto_region 4 with fail
  have y0 : (fun w' => w'.rangeAt q 0 (pcs (upd F (.nk b L)) lu).toList ∧ w'.cell? ⟨q, 0, none⟩ = some (.int .i64 4) ∧ w'.cell? ⟨q, 1, none⟩ = some (.int .i64 1) ∧ w'.cell? ⟨q, 2, none⟩ = some (.int .i64 7) ∧ w'.cell? ⟨p, 1, none⟩ = some (.int .i64 1) ∧ w'.cell? ⟨p, 2, none⟩ = some (.int .i64 7)) W2.drew := ⟨zr, z0, z1, z2, c1, c2⟩
  refine wp_region_held_drew (S := (fun w' => w'.rangeAt q 0 (pcs (upd F (.nk b L)) lu).toList ∧ w'.cell? ⟨q, 0, none⟩ = some (.int .i64 4) ∧ w'.cell? ⟨q, 1, none⟩ = some (.int .i64 1) ∧ w'.cell? ⟨q, 2, none⟩ = some (.int .i64 7) ∧ w'.cell? ⟨p, 1, none⟩ = some (.int .i64 1) ∧ w'.cell? ⟨p, 2, none⟩ = some (.int .i64 7))) (by kernel_rfl) (by exact y0) (fun hHeld => ?_)
  refine wpAnyH_take (i := 0) (oi := { dst := some 14, op := Op.load 85 (Operand.tmp 4), type := 85, pos := _, after := _, guard := none }) (v := _) rfl (by kernel_rfl) (by kernel_rfl) (by kernel_rfl) (fun _ _ _ h => h) (yieldsIf_load_mid (by rfl) TP (.tmp 4) rfl q 0 rfl (pcs (upd F (.nk b L)) lu).toList _ (fun _ h => h.1) Try.underlying85 rfl (by rw [infoPd]; rfl)) (by assumption) ?_
  (try simp only [Act.put, List.setIfInBounds_toArray, List.set_cons_zero, List.set_cons_succ])
  refine wpAnyH_ready (rs := [1]) (by kernel_rfl) (by simp) ?_
  refine (AllReadyH.cons (o := { dst := some 15, op := Op.call { callee := Callee.value (Operand.func 75), args := #[Operand.tmp 14], argTypes := #[85] }, type := 4, pos := _, after := _, guard := none }) rfl (fun K hK => ?_) AllReadyH.nil)
  go_simp
  refine (pvalid_b _ (upd F (.nk b L)) lu true (by exact UA2.out.drew) HVU.out).mono ?_
  rintro e W3 ⟨rfl, hk3⟩
  have bp3 := BP2.out.drew.keepS hk3 (by simp)
  have bq3 := BQ2.out.drew.keepS hk3 (by simp)
  have K3 := Lib.hid (KA2.out.drew.trans (hk3.mono KA2.out.drew.size (by simp)))
  have UA3 : Hid (PIn W3 (upd F (.nk b L)) lu) := Lib.hid (UA2.out.drew.keep0 hk3)
  have y1 : (fun w' => w'.rangeAt q 0 (pcs (upd F (.nk b L)) lu).toList ∧ w'.cell? ⟨q, 0, none⟩ = some (.int .i64 4) ∧ w'.cell? ⟨q, 1, none⟩ = some (.int .i64 1) ∧ w'.cell? ⟨q, 2, none⟩ = some (.int .i64 7) ∧ w'.cell? ⟨p, 1, none⟩ = some (.int .i64 1) ∧ w'.cell? ⟨p, 2, none⟩ = some (.int .i64 7)) W3 := ⟨bq3.range, bq3.cell 0, bq3.cell 1, bq3.cell 2, bp3.cell 1, bp3.cell 2⟩
  have BP3 := Lib.hid bp3
  have BQ3 := Lib.hid bq3
  clear hk3 bp3 bq3 y0 z0 z1 z2 zr c1 c2 c3
  refine hK.out _ _ (by exact y1) (fun hHeld => ?_)
  clear hK K
  (try simp only [Act.put, List.setIfInBounds_toArray, List.set_cons_zero, List.set_cons_succ])
  refine tkH (i := 2) (oi := { dst := some 16, op := Op.unOp UnOp.not 4 (Operand.tmp 15), type := 4, pos := _, after := _, guard := none }) rfl (by assumption) ?_
  (try simp only [Act.put, List.setIfInBounds_toArray, List.set_cons_zero, List.set_cons_succ])
  refine tkH (i := 3) (oi := { dst := some 17, op := Op.move (Operand.tmp 16), type := 4, pos := _, after := _, guard := none }) rfl (by assumption) ?_
  (try simp only [Act.put, List.setIfInBounds_toArray, List.set_cons_zero, List.set_cons_succ])
  refine tkH (i := 4) (oi := { dst := some 18, op := Op.fieldAddr 85 (Operand.tmp 4) 1, type := 0, pos := _, after := _, guard := some (3, false) }) rfl (by assumption) ?_
  (try simp only [Act.put, List.setIfInBounds_toArray, List.set_cons_zero, List.set_cons_succ])
  refine tkH (i := 5) (oi := { dst := some 19, op := Op.load 75 (Operand.tmp 18), type := 75, pos := _, after := _, guard := some (3, false) }) rfl (by assumption) ?_
  (try simp only [Act.put, List.setIfInBounds_toArray, List.set_cons_zero, List.set_cons_succ])
  refine tkH (i := 6) (oi := { dst := some 20, op := Op.move (Operand.tmp 0), type := 76, pos := _, after := _, guard := some (3, false) }) rfl (by assumption) ?_
  (try simp only [Act.put, List.setIfInBounds_toArray, List.set_cons_zero, List.set_cons_succ])
  refine tkH (i := 7) (oi := { dst := some 21, op := Op.nilCheck (Operand.tmp 20), type := 0, pos := _, after := _, guard := some (3, false) }) rfl (by assumption) ?_
  (try simp only [Act.put, List.setIfInBounds_toArray, List.set_cons_zero, List.set_cons_succ])
  refine tkH (i := 8) (oi := { dst := some 22, op := Op.fieldAddr 148 (Operand.tmp 21) 1, type := 0, pos := _, after := _, guard := some (3, false) }) rfl (by assumption) ?_
  (try simp only [Act.put, List.setIfInBounds_toArray, List.set_cons_zero, List.set_cons_succ])
  refine tkH (i := 9) (oi := { dst := some 23, op := Op.load 75 (Operand.tmp 22), type := 75, pos := _, after := _, guard := some (3, false) }) rfl (by assumption) ?_
  (try simp only [Act.put, List.setIfInBounds_toArray, List.set_cons_zero, List.set_cons_succ])
  refine tkH (i := 10) (oi := { dst := some 24, op := Op.binOp BinOp.neq 75 (Operand.tmp 19) (Operand.tmp 23) 75, type := 4, pos := _, after := _, guard := some (3, false) }) rfl (by assumption) ?_
  (try simp only [Act.put, List.setIfInBounds_toArray, List.set_cons_zero, List.set_cons_succ])
  refine tkH (i := 11) (oi := { dst := some 25, op := Op.pick (Operand.tmp 17) (Operand.const (Value.bool true)) (Operand.tmp 24), type := 4, pos := _, after := _, guard := none }) rfl (by assumption) ?_
  (try simp only [Act.put, List.setIfInBounds_toArray, List.set_cons_zero, List.set_cons_succ])
  refine tkH (i := 12) (oi := { dst := some 26, op := Op.move (Operand.tmp 25), type := 4, pos := _, after := _, guard := none }) rfl (by assumption) ?_
  (try simp only [Act.put, List.setIfInBounds_toArray, List.set_cons_zero, List.set_cons_succ])
  refine tkH (i := 13) (oi := { dst := some 27, op := Op.fieldAddr 85 (Operand.tmp 4) 0, type := 0, pos := _, after := _, guard := some (12, false) }) rfl (by assumption) ?_
  (try simp only [Act.put, List.setIfInBounds_toArray, List.set_cons_zero, List.set_cons_succ])
  refine tkH (i := 14) (oi := { dst := some 28, op := Op.load 3 (Operand.tmp 27), type := 3, pos := _, after := _, guard := some (12, false) }) rfl (by assumption) ?_
  (try simp only [Act.put, List.setIfInBounds_toArray, List.set_cons_zero, List.set_cons_succ])
  refine wpAnyH_ready (rs := [15]) (by kernel_rfl) (by simp) ?_
  refine (AllReadyH.cons (o := { dst := some 29, op := Op.call { callee := Callee.value (Operand.func 89), args := #[Operand.tmp 28], argTypes := #[3] }, type := 4, pos := _, after := _, guard := some (12, false) }) rfl (fun K hK => ?_) AllReadyH.nil)
  go_simp
  refine (pfwd_b _ 4 false (by rfl)).mono ?_
  rintro e W4 ⟨rfl, rfl⟩
  refine hK.out _ _ (by exact y1) (fun hHeld => ?_)
  clear hK K
  (try simp only [Act.put, List.setIfInBounds_toArray, List.set_cons_zero, List.set_cons_succ])
  refine tkH (i := 16) (oi := { dst := some 30, op := Op.pick (Operand.tmp 26) (Operand.const (Value.bool true)) (Operand.tmp 29), type := 4, pos := _, after := _, guard := none }) rfl (by assumption) ?_
  (try simp only [Act.put, List.setIfInBounds_toArray, List.set_cons_zero, List.set_cons_succ])
  refine tkH (i := 17) (oi := { dst := some 13, op := Op.assign (Operand.tmp 30), type := 4, pos := _, after := _, guard := none }) rfl (by assumption) ?_
  (try simp only [Act.put, List.setIfInBounds_toArray, List.set_cons_zero, List.set_cons_succ])
  refine wpAnyH_done (by kernel_rfl) ?_ _
  clear hHeld y1
  have r0 : W3.cell? ⟨q, 0, none⟩ = some (.int .i64 4) := BQ3.out.cell 0
  have r9 : W3.cell? ⟨q, 9, none⟩ = some (.int .i64 (upd F (.nk b L)).code) := BQ3.out.cell 9
  have r10 : W3.cell? ⟨q, 10, none⟩ = some (.slice lu.G lu.gn lu.gc) := BQ3.out.cell 10
  have c3 : W3.cell? ⟨p, 3, none⟩ = some (.int .i64 2) := BP3.out.cell 3
  go_wp2_with fail
  have hwn := HI.out.nrm
  have at3 := HS.out.same (S' := { S with now := t }) rfl BP3.out K3.out
  refine (sreq_1 _ p F c l { S with now := t } lu.G lu.gn lu.gc (upd F (.nk b L)).gaps hgl UA3.out.cg hn UA3.out.vg hgb hwn HWI.out at3.want at3.wc at3.nW (fun h => hx (by simp [h])) hp BP3.out).mono ?_
  rintro e W5 ⟨N, Y, yc, rfl, hN, hM, hb5, hv5, hc5, hpY, hfY, hk5⟩
  have B5 := Lib.hid hb5
  have V5 := Lib.hid hv5
  have M5 := Lib.hid hM
  have FY := Lib.hid hfY
  have K5 : Hid (Keep w.heap.size [p] w W5) := Lib.hid (K3.out.trans (hk5.mono K3.out.size (by simp)))
  clear hb5 hv5 hk5 hM hfY at3 hwn
  go_wp2_with fail
  go_ret
  have e1 : anyZ0 (upd F (.nk b L)).gaps = b := by
    simp only [upd, anyZ0, List.any_append]
    have e2 : L.any (fun g => decide (g.f = 0 ∧ g.t = 0)) = false := by
      rw [List.any_eq_false]
      intro g hg
      have := hL g hg
      simp; omega
    rw [e2]
    cases b <;> simp
  have b5 := B5.out
  rw [e1] at b5
  have KF := K5.out
  have hz3 := K3.out.size
  refine ⟨⟨l.D, l.dc, Y, yc⟩, _, rfl, .nk1 b L N hp hN (fun z => ?_), ⟨b5, HS.out.data.keepS KF (fun g hg hm => HS.out.nD (by rw [← List.mem_singleton.1 hm]; exact hg)), HS.out.dc, HS.out.nD, V5.out, hc5, hpY⟩, KF, rfl, fun hN y hy => ?_⟩
  · refine (M5.out z).trans ?_
    simp only [upd]
    rw [mem_app]
    cases b
    · simp [mem_nil]
    · simp only [if_true, mem_one]
      constructor
      · rintro (h | h | h)
        · exact .inl h
        · omega
        · exact .inr h
      · rintro (h | h)
        · exact .inl h
        · exact .inr (.inr h)
  · rcases FY.out hN y hy with h | h
    · exact .inl h
    · right; omega
set_option maxRecDepth 100000 in
set_option maxHeartbeats 4000000 in
theorem take_fi1 (w : World) (p : Nat) (F : List Int) (c : Nat) (l : Ly) (S : Sr) (t T : Nat) (hT : T ≤ t) (ht : t ≤ 1000) (hi : IS c F.length T S) (hn : F.length ≤ 300) (h : SrAt w p F c l S) (lu : Lc) (hx : p ∉ blks lu.D ++ blks lu.G) (hp : S.ph = 1) (hu : PIn w (upd F .fi) lu) (hv : validP (upd F .fi) = true) : Calls Try.prog 35 #[ptr p, .agg (pcs (upd F .fi) lu), .int .i64 t] w (TkPost w p F c t l S .fi) := by
  have hnow : S.now ≤ t := Nat.le_trans hi.now hT
  have HI := Lib.hid hi
  have HS := Lib.hid h
  have HU := Lib.hid hu
  have HVU := Lib.hid hv
  have HB := Lib.hid h.blk
  clear h hi hu hv
  go_enter Try.func35, Try.ntmps35
  go_upto_region 1 with fail
  obtain ⟨W, hW⟩ : ∃ W, W = w.alloc (.cells (pcs (upd F .fi) lu) TP) := ⟨_, rfl⟩
  obtain ⟨q, hq⟩ : ∃ q, q = w.heap.size := ⟨_, rfl⟩
  have bq : Blk W q TP (pcs (upd F .fi) lu) := by rw [hW, hq]; exact Blk.new _ _ _
  have ka : Keep w.heap.size [] w W := by rw [hW]; exact (Keep.refl _ _ _).alloc (Nat.le_refl _) _
  have hpq : p ≠ q := by have := HB.out.lt; omega
  have hqp : q ≠ p := hpq.symm
  change Code.wp _ _ _ _ (w.alloc (.cells (pcs (upd F .fi) lu) TP))
  rw [← hW, ← hq]
  have BQ := Lib.hid bq
  have KA := Lib.hid ka
  have BP := Lib.hid (HB.out.keepS ka (by simp))
  have SA := Lib.hid (HS.out.keepS ka (by simp))
  have UA := Lib.hid (HU.out.keep0 ka)
  clear hW hq bq ka
  go_wp2_with fail
  refine (sok_w _ p F c l S BP.out).mono ?_
  rintro e w1 ⟨rfl, rfl⟩
  go_wp2_with fail
  refine (pass_w _ p F c l S t hnow ht BP.out).mono ?_
  rintro e W2 ⟨rfl, bp, hk2⟩
  have bq2 := BQ.out.keepS hk2 (by simpa using hqp)
  have c1 : W2.cell? ⟨p, 1, none⟩ = some (.int .i64 1) := bp.cell 1
  have c2 : W2.cell? ⟨p, 2, none⟩ = some (.int .i64 7) := bp.cell 2
  have c3 : W2.cell? ⟨p, 3, none⟩ = some (.int .i64 2) := bp.cell 3
  have z0 : W2.cell? ⟨q, 0, none⟩ = some (.int .i64 5) := bq2.cell 0
  have z1 : W2.cell? ⟨q, 1, none⟩ = some (.int .i64 1) := bq2.cell 1
  have z2 : W2.cell? ⟨q, 2, none⟩ = some (.int .i64 7) := bq2.cell 2
  have zr : W2.rangeAt q 0 (pcs (upd F .fi) lu).toList := bq2.range
  have KA2 : Hid (Keep w.heap.size [p] w W2) := Lib.hid ((KA.out.mono (S' := [p]) (Nat.le_refl _) (by simp)).trans (hk2.mono KA.out.size (by simp)))
  have BP2 := Lib.hid bp
  have BQ2 := Lib.hid bq2
  have UA2 : Hid (PIn W2 (upd F .fi) lu) := Lib.hid (UA.out.keepP hk2 (fun g hg hm => hx (by rw [← List.mem_singleton.1 hm]; exact hg)))
  clear hk2 bp bq2
  go_upto_region 4 with fail
  have y0 : (fun w' => w'.rangeAt q 0 (pcs (upd F .fi) lu).toList ∧ w'.cell? ⟨q, 0, none⟩ = some (.int .i64 5) ∧ w'.cell? ⟨q, 1, none⟩ = some (.int .i64 1) ∧ w'.cell? ⟨q, 2, none⟩ = some (.int .i64 7) ∧ w'.cell? ⟨p, 1, none⟩ = some (.int .i64 1) ∧ w'.cell? ⟨p, 2, none⟩ = some (.int .i64 7)) W2.drew := ⟨zr, z0, z1, z2, c1, c2⟩
  refine wp_region_held_drew (S := (fun w' => w'.rangeAt q 0 (pcs (upd F .fi) lu).toList ∧ w'.cell? ⟨q, 0, none⟩ = some (.int .i64 5) ∧ w'.cell? ⟨q, 1, none⟩ = some (.int .i64 1) ∧ w'.cell? ⟨q, 2, none⟩ = some (.int .i64 7) ∧ w'.cell? ⟨p, 1, none⟩ = some (.int .i64 1) ∧ w'.cell? ⟨p, 2, none⟩ = some (.int .i64 7))) (by kernel_rfl) (by exact y0) (fun hHeld => ?_)
  refine wpAnyH_take (i := 0) (oi := { dst := some 14, op := Op.load 85 (Operand.tmp 4), type := 85, pos := _, after := _, guard := none }) (v := _) rfl (by kernel_rfl) (by kernel_rfl) (by kernel_rfl) (fun _ _ _ h => h) (yieldsIf_load_mid (by rfl) TP (.tmp 4) rfl q 0 rfl (pcs (upd F .fi) lu).toList _ (fun _ h => h.1) Try.underlying85 rfl (by rw [infoPd]; rfl)) (by assumption) ?_
  (try simp only [Act.put, List.setIfInBounds_toArray, List.set_cons_zero, List.set_cons_succ])
  refine wpAnyH_ready (rs := [1]) (by kernel_rfl) (by simp) ?_
  refine (AllReadyH.cons (o := { dst := some 15, op := Op.call { callee := Callee.value (Operand.func 75), args := #[Operand.tmp 14], argTypes := #[85] }, type := 4, pos := _, after := _, guard := none }) rfl (fun K hK => ?_) AllReadyH.nil)
  go_simp
  refine (pvalid_b _ (upd F .fi) lu true (by exact UA2.out.drew) HVU.out).mono ?_
  rintro e W3 ⟨rfl, hk3⟩
  have bp3 := BP2.out.drew.keepS hk3 (by simp)
  have bq3 := BQ2.out.drew.keepS hk3 (by simp)
  have K3 := Lib.hid (KA2.out.drew.trans (hk3.mono KA2.out.drew.size (by simp)))
  have UA3 : Hid (PIn W3 (upd F .fi) lu) := Lib.hid (UA2.out.drew.keep0 hk3)
  have y1 : (fun w' => w'.rangeAt q 0 (pcs (upd F .fi) lu).toList ∧ w'.cell? ⟨q, 0, none⟩ = some (.int .i64 5) ∧ w'.cell? ⟨q, 1, none⟩ = some (.int .i64 1) ∧ w'.cell? ⟨q, 2, none⟩ = some (.int .i64 7) ∧ w'.cell? ⟨p, 1, none⟩ = some (.int .i64 1) ∧ w'.cell? ⟨p, 2, none⟩ = some (.int .i64 7)) W3 := ⟨bq3.range, bq3.cell 0, bq3.cell 1, bq3.cell 2, bp3.cell 1, bp3.cell 2⟩
  have BP3 := Lib.hid bp3
  have BQ3 := Lib.hid bq3
  clear hk3 bp3 bq3 y0 z0 z1 z2 zr c1 c2 c3
  refine hK.out _ _ (by exact y1) (fun hHeld => ?_)
  clear hK K
  (try simp only [Act.put, List.setIfInBounds_toArray, List.set_cons_zero, List.set_cons_succ])
  refine tkH (i := 2) (oi := { dst := some 16, op := Op.unOp UnOp.not 4 (Operand.tmp 15), type := 4, pos := _, after := _, guard := none }) rfl (by assumption) ?_
  (try simp only [Act.put, List.setIfInBounds_toArray, List.set_cons_zero, List.set_cons_succ])
  refine tkH (i := 3) (oi := { dst := some 17, op := Op.move (Operand.tmp 16), type := 4, pos := _, after := _, guard := none }) rfl (by assumption) ?_
  (try simp only [Act.put, List.setIfInBounds_toArray, List.set_cons_zero, List.set_cons_succ])
  refine tkH (i := 4) (oi := { dst := some 18, op := Op.fieldAddr 85 (Operand.tmp 4) 1, type := 0, pos := _, after := _, guard := some (3, false) }) rfl (by assumption) ?_
  (try simp only [Act.put, List.setIfInBounds_toArray, List.set_cons_zero, List.set_cons_succ])
  refine tkH (i := 5) (oi := { dst := some 19, op := Op.load 75 (Operand.tmp 18), type := 75, pos := _, after := _, guard := some (3, false) }) rfl (by assumption) ?_
  (try simp only [Act.put, List.setIfInBounds_toArray, List.set_cons_zero, List.set_cons_succ])
  refine tkH (i := 6) (oi := { dst := some 20, op := Op.move (Operand.tmp 0), type := 76, pos := _, after := _, guard := some (3, false) }) rfl (by assumption) ?_
  (try simp only [Act.put, List.setIfInBounds_toArray, List.set_cons_zero, List.set_cons_succ])
  refine tkH (i := 7) (oi := { dst := some 21, op := Op.nilCheck (Operand.tmp 20), type := 0, pos := _, after := _, guard := some (3, false) }) rfl (by assumption) ?_
  (try simp only [Act.put, List.setIfInBounds_toArray, List.set_cons_zero, List.set_cons_succ])
  refine tkH (i := 8) (oi := { dst := some 22, op := Op.fieldAddr 148 (Operand.tmp 21) 1, type := 0, pos := _, after := _, guard := some (3, false) }) rfl (by assumption) ?_
  (try simp only [Act.put, List.setIfInBounds_toArray, List.set_cons_zero, List.set_cons_succ])
  refine tkH (i := 9) (oi := { dst := some 23, op := Op.load 75 (Operand.tmp 22), type := 75, pos := _, after := _, guard := some (3, false) }) rfl (by assumption) ?_
  (try simp only [Act.put, List.setIfInBounds_toArray, List.set_cons_zero, List.set_cons_succ])
  refine tkH (i := 10) (oi := { dst := some 24, op := Op.binOp BinOp.neq 75 (Operand.tmp 19) (Operand.tmp 23) 75, type := 4, pos := _, after := _, guard := some (3, false) }) rfl (by assumption) ?_
  (try simp only [Act.put, List.setIfInBounds_toArray, List.set_cons_zero, List.set_cons_succ])
  refine tkH (i := 11) (oi := { dst := some 25, op := Op.pick (Operand.tmp 17) (Operand.const (Value.bool true)) (Operand.tmp 24), type := 4, pos := _, after := _, guard := none }) rfl (by assumption) ?_
  (try simp only [Act.put, List.setIfInBounds_toArray, List.set_cons_zero, List.set_cons_succ])
  refine tkH (i := 12) (oi := { dst := some 26, op := Op.move (Operand.tmp 25), type := 4, pos := _, after := _, guard := none }) rfl (by assumption) ?_
  (try simp only [Act.put, List.setIfInBounds_toArray, List.set_cons_zero, List.set_cons_succ])
  refine tkH (i := 13) (oi := { dst := some 27, op := Op.fieldAddr 85 (Operand.tmp 4) 0, type := 0, pos := _, after := _, guard := some (12, false) }) rfl (by assumption) ?_
  (try simp only [Act.put, List.setIfInBounds_toArray, List.set_cons_zero, List.set_cons_succ])
  refine tkH (i := 14) (oi := { dst := some 28, op := Op.load 3 (Operand.tmp 27), type := 3, pos := _, after := _, guard := some (12, false) }) rfl (by assumption) ?_
  (try simp only [Act.put, List.setIfInBounds_toArray, List.set_cons_zero, List.set_cons_succ])
  refine wpAnyH_ready (rs := [15]) (by kernel_rfl) (by simp) ?_
  refine (AllReadyH.cons (o := { dst := some 29, op := Op.call { callee := Callee.value (Operand.func 89), args := #[Operand.tmp 28], argTypes := #[3] }, type := 4, pos := _, after := _, guard := some (12, false) }) rfl (fun K hK => ?_) AllReadyH.nil)
  go_simp
  refine (pfwd_b _ 5 false (by rfl)).mono ?_
  rintro e W4 ⟨rfl, rfl⟩
  refine hK.out _ _ (by exact y1) (fun hHeld => ?_)
  clear hK K
  (try simp only [Act.put, List.setIfInBounds_toArray, List.set_cons_zero, List.set_cons_succ])
  refine tkH (i := 16) (oi := { dst := some 30, op := Op.pick (Operand.tmp 26) (Operand.const (Value.bool true)) (Operand.tmp 29), type := 4, pos := _, after := _, guard := none }) rfl (by assumption) ?_
  (try simp only [Act.put, List.setIfInBounds_toArray, List.set_cons_zero, List.set_cons_succ])
  refine tkH (i := 17) (oi := { dst := some 13, op := Op.assign (Operand.tmp 30), type := 4, pos := _, after := _, guard := none }) rfl (by assumption) ?_
  (try simp only [Act.put, List.setIfInBounds_toArray, List.set_cons_zero, List.set_cons_succ])
  refine wpAnyH_done (by kernel_rfl) ?_ _
  clear hHeld y1
  have r0 : W3.cell? ⟨q, 0, none⟩ = some (.int .i64 5) := BQ3.out.cell 0
  have r9 : W3.cell? ⟨q, 9, none⟩ = some (.int .i64 (upd F .fi).code) := BQ3.out.cell 9
  have r10 : W3.cell? ⟨q, 10, none⟩ = some (.slice lu.G lu.gn lu.gc) := BQ3.out.cell 10
  have c3 : W3.cell? ⟨p, 3, none⟩ = some (.int .i64 2) := BP3.out.cell 3
  go_wp2_with fail
  refine (sfin_1 _ p F c l { S with now := t } hp BP3.out).mono ?_
  rintro e W5 ⟨rfl, hb5, hk5⟩
  have B5 := Lib.hid hb5
  have K5 : Hid (Keep w.heap.size [p] w W5) := Lib.hid (K3.out.trans (hk5.mono K3.out.size (by simp)))
  clear hb5 hk5
  go_wp2_with fail
  go_ret
  have KF := K5.out
  refine ⟨⟨l.D, l.dc, none, 0⟩, _, rfl, .fi1 hp, ⟨B5.out, HS.out.data.keepS KF (fun g hg hm => HS.out.nD (by rw [← List.mem_singleton.1 hm]; exact hg)), HS.out.dc, HS.out.nD, Vw.nil _ _, ⟨Nat.le_refl _, Nat.zero_le _⟩, by simp [blks]⟩, KF, rfl, fun h => absurd rfl h⟩
set_option maxRecDepth 100000 in
set_option maxHeartbeats 4000000 in
theorem take_fi2 (w : World) (p : Nat) (F : List Int) (c : Nat) (l : Ly) (S : Sr) (t T : Nat) (hT : T ≤ t) (ht : t ≤ 1000) (hi : IS c F.length T S) (hn : F.length ≤ 300) (h : SrAt w p F c l S) (lu : Lc) (hx : p ∉ blks lu.D ++ blks lu.G) (hp : S.ph = 2) (hu : PIn w (upd F .fi) lu) (hv : validP (upd F .fi) = true) : Calls Try.prog 35 #[ptr p, .agg (pcs (upd F .fi) lu), .int .i64 t] w (TkPost w p F c t l S .fi) := by
  have hnow : S.now ≤ t := Nat.le_trans hi.now hT
  have HI := Lib.hid hi
  have HS := Lib.hid h
  have HU := Lib.hid hu
  have HVU := Lib.hid hv
  have HB := Lib.hid h.blk
  clear h hi hu hv
  go_enter Try.func35, Try.ntmps35
  go_upto_region 1 with fail
  obtain ⟨W, hW⟩ : ∃ W, W = w.alloc (.cells (pcs (upd F .fi) lu) TP) := ⟨_, rfl⟩
  obtain ⟨q, hq⟩ : ∃ q, q = w.heap.size := ⟨_, rfl⟩
  have bq : Blk W q TP (pcs (upd F .fi) lu) := by rw [hW, hq]; exact Blk.new _ _ _
  have ka : Keep w.heap.size [] w W := by rw [hW]; exact (Keep.refl _ _ _).alloc (Nat.le_refl _) _
  have hpq : p ≠ q := by have := HB.out.lt; omega
  have hqp : q ≠ p := hpq.symm
  change Code.wp _ _ _ _ (w.alloc (.cells (pcs (upd F .fi) lu) TP))
  rw [← hW, ← hq]
  have BQ := Lib.hid bq
  have KA := Lib.hid ka
  have BP := Lib.hid (HB.out.keepS ka (by simp))
  have SA := Lib.hid (HS.out.keepS ka (by simp))
  have UA := Lib.hid (HU.out.keep0 ka)
  clear hW hq bq ka
  go_wp2_with fail
  refine (sok_w _ p F c l S BP.out).mono ?_
  rintro e w1 ⟨rfl, rfl⟩
  go_wp2_with fail
  refine (pass_w _ p F c l S t hnow ht BP.out).mono ?_
  rintro e W2 ⟨rfl, bp, hk2⟩
  have bq2 := BQ.out.keepS hk2 (by simpa using hqp)
  have c1 : W2.cell? ⟨p, 1, none⟩ = some (.int .i64 1) := bp.cell 1
  have c2 : W2.cell? ⟨p, 2, none⟩ = some (.int .i64 7) := bp.cell 2
  have c3 : W2.cell? ⟨p, 3, none⟩ = some (.int .i64 2) := bp.cell 3
  have z0 : W2.cell? ⟨q, 0, none⟩ = some (.int .i64 5) := bq2.cell 0
  have z1 : W2.cell? ⟨q, 1, none⟩ = some (.int .i64 1) := bq2.cell 1
  have z2 : W2.cell? ⟨q, 2, none⟩ = some (.int .i64 7) := bq2.cell 2
  have zr : W2.rangeAt q 0 (pcs (upd F .fi) lu).toList := bq2.range
  have KA2 : Hid (Keep w.heap.size [p] w W2) := Lib.hid ((KA.out.mono (S' := [p]) (Nat.le_refl _) (by simp)).trans (hk2.mono KA.out.size (by simp)))
  have BP2 := Lib.hid bp
  have BQ2 := Lib.hid bq2
  have UA2 : Hid (PIn W2 (upd F .fi) lu) := Lib.hid (UA.out.keepP hk2 (fun g hg hm => hx (by rw [← List.mem_singleton.1 hm]; exact hg)))
  clear hk2 bp bq2
  go_upto_region 4 with fail
  have y0 : (fun w' => w'.rangeAt q 0 (pcs (upd F .fi) lu).toList ∧ w'.cell? ⟨q, 0, none⟩ = some (.int .i64 5) ∧ w'.cell? ⟨q, 1, none⟩ = some (.int .i64 1) ∧ w'.cell? ⟨q, 2, none⟩ = some (.int .i64 7) ∧ w'.cell? ⟨p, 1, none⟩ = some (.int .i64 1) ∧ w'.cell? ⟨p, 2, none⟩ = some (.int .i64 7)) W2.drew := ⟨zr, z0, z1, z2, c1, c2⟩
  refine wp_region_held_drew (S := (fun w' => w'.rangeAt q 0 (pcs (upd F .fi) lu).toList ∧ w'.cell? ⟨q, 0, none⟩ = some (.int .i64 5) ∧ w'.cell? ⟨q, 1, none⟩ = some (.int .i64 1) ∧ w'.cell? ⟨q, 2, none⟩ = some (.int .i64 7) ∧ w'.cell? ⟨p, 1, none⟩ = some (.int .i64 1) ∧ w'.cell? ⟨p, 2, none⟩ = some (.int .i64 7))) (by kernel_rfl) (by exact y0) (fun hHeld => ?_)
  refine wpAnyH_take (i := 0) (oi := { dst := some 14, op := Op.load 85 (Operand.tmp 4), type := 85, pos := _, after := _, guard := none }) (v := _) rfl (by kernel_rfl) (by kernel_rfl) (by kernel_rfl) (fun _ _ _ h => h) (yieldsIf_load_mid (by rfl) TP (.tmp 4) rfl q 0 rfl (pcs (upd F .fi) lu).toList _ (fun _ h => h.1) Try.underlying85 rfl (by rw [infoPd]; rfl)) (by assumption) ?_
  (try simp only [Act.put, List.setIfInBounds_toArray, List.set_cons_zero, List.set_cons_succ])
  refine wpAnyH_ready (rs := [1]) (by kernel_rfl) (by simp) ?_
  refine (AllReadyH.cons (o := { dst := some 15, op := Op.call { callee := Callee.value (Operand.func 75), args := #[Operand.tmp 14], argTypes := #[85] }, type := 4, pos := _, after := _, guard := none }) rfl (fun K hK => ?_) AllReadyH.nil)
  go_simp
  refine (pvalid_b _ (upd F .fi) lu true (by exact UA2.out.drew) HVU.out).mono ?_
  rintro e W3 ⟨rfl, hk3⟩
  have bp3 := BP2.out.drew.keepS hk3 (by simp)
  have bq3 := BQ2.out.drew.keepS hk3 (by simp)
  have K3 := Lib.hid (KA2.out.drew.trans (hk3.mono KA2.out.drew.size (by simp)))
  have UA3 : Hid (PIn W3 (upd F .fi) lu) := Lib.hid (UA2.out.drew.keep0 hk3)
  have y1 : (fun w' => w'.rangeAt q 0 (pcs (upd F .fi) lu).toList ∧ w'.cell? ⟨q, 0, none⟩ = some (.int .i64 5) ∧ w'.cell? ⟨q, 1, none⟩ = some (.int .i64 1) ∧ w'.cell? ⟨q, 2, none⟩ = some (.int .i64 7) ∧ w'.cell? ⟨p, 1, none⟩ = some (.int .i64 1) ∧ w'.cell? ⟨p, 2, none⟩ = some (.int .i64 7)) W3 := ⟨bq3.range, bq3.cell 0, bq3.cell 1, bq3.cell 2, bp3.cell 1, bp3.cell 2⟩
  have BP3 := Lib.hid bp3
  have BQ3 := Lib.hid bq3
  clear hk3 bp3 bq3 y0 z0 z1 z2 zr c1 c2 c3
  refine hK.out _ _ (by exact y1) (fun hHeld => ?_)
  clear hK K
  (try simp only [Act.put, List.setIfInBounds_toArray, List.set_cons_zero, List.set_cons_succ])
  refine tkH (i := 2) (oi := { dst := some 16, op := Op.unOp UnOp.not 4 (Operand.tmp 15), type := 4, pos := _, after := _, guard := none }) rfl (by assumption) ?_
  (try simp only [Act.put, List.setIfInBounds_toArray, List.set_cons_zero, List.set_cons_succ])
  refine tkH (i := 3) (oi := { dst := some 17, op := Op.move (Operand.tmp 16), type := 4, pos := _, after := _, guard := none }) rfl (by assumption) ?_
  (try simp only [Act.put, List.setIfInBounds_toArray, List.set_cons_zero, List.set_cons_succ])
  refine tkH (i := 4) (oi := { dst := some 18, op := Op.fieldAddr 85 (Operand.tmp 4) 1, type := 0, pos := _, after := _, guard := some (3, false) }) rfl (by assumption) ?_
  (try simp only [Act.put, List.setIfInBounds_toArray, List.set_cons_zero, List.set_cons_succ])
  refine tkH (i := 5) (oi := { dst := some 19, op := Op.load 75 (Operand.tmp 18), type := 75, pos := _, after := _, guard := some (3, false) }) rfl (by assumption) ?_
  (try simp only [Act.put, List.setIfInBounds_toArray, List.set_cons_zero, List.set_cons_succ])
  refine tkH (i := 6) (oi := { dst := some 20, op := Op.move (Operand.tmp 0), type := 76, pos := _, after := _, guard := some (3, false) }) rfl (by assumption) ?_
  (try simp only [Act.put, List.setIfInBounds_toArray, List.set_cons_zero, List.set_cons_succ])
  refine tkH (i := 7) (oi := { dst := some 21, op := Op.nilCheck (Operand.tmp 20), type := 0, pos := _, after := _, guard := some (3, false) }) rfl (by assumption) ?_
  (try simp only [Act.put, List.setIfInBounds_toArray, List.set_cons_zero, List.set_cons_succ])
  refine tkH (i := 8) (oi := { dst := some 22, op := Op.fieldAddr 148 (Operand.tmp 21) 1, type := 0, pos := _, after := _, guard := some (3, false) }) rfl (by assumption) ?_
  (try simp only [Act.put, List.setIfInBounds_toArray, List.set_cons_zero, List.set_cons_succ])
  refine tkH (i := 9) (oi := { dst := some 23, op := Op.load 75 (Operand.tmp 22), type := 75, pos := _, after := _, guard := some (3, false) }) rfl (by assumption) ?_
  (try simp only [Act.put, List.setIfInBounds_toArray, List.set_cons_zero, List.set_cons_succ])
  refine tkH (i := 10) (oi := { dst := some 24, op := Op.binOp BinOp.neq 75 (Operand.tmp 19) (Operand.tmp 23) 75, type := 4, pos := _, after := _, guard := some (3, false) }) rfl (by assumption) ?_
  (try simp only [Act.put, List.setIfInBounds_toArray, List.set_cons_zero, List.set_cons_succ])
  refine tkH (i := 11) (oi := { dst := some 25, op := Op.pick (Operand.tmp 17) (Operand.const (Value.bool true)) (Operand.tmp 24), type := 4, pos := _, after := _, guard := none }) rfl (by assumption) ?_
  (try simp only [Act.put, List.setIfInBounds_toArray, List.set_cons_zero, List.set_cons_succ])
  refine tkH (i := 12) (oi := { dst := some 26, op := Op.move (Operand.tmp 25), type := 4, pos := _, after := _, guard := none }) rfl (by assumption) ?_
  (try simp only [Act.put, List.setIfInBounds_toArray, List.set_cons_zero, List.set_cons_succ])
  refine tkH (i := 13) (oi := { dst := some 27, op := Op.fieldAddr 85 (Operand.tmp 4) 0, type := 0, pos := _, after := _, guard := some (12, false) }) rfl (by assumption) ?_
  (try simp only [Act.put, List.setIfInBounds_toArray, List.set_cons_zero, List.set_cons_succ])
  refine tkH (i := 14) (oi := { dst := some 28, op := Op.load 3 (Operand.tmp 27), type := 3, pos := _, after := _, guard := some (12, false) }) rfl (by assumption) ?_
  (try simp only [Act.put, List.setIfInBounds_toArray, List.set_cons_zero, List.set_cons_succ])
  refine wpAnyH_ready (rs := [15]) (by kernel_rfl) (by simp) ?_
  refine (AllReadyH.cons (o := { dst := some 29, op := Op.call { callee := Callee.value (Operand.func 89), args := #[Operand.tmp 28], argTypes := #[3] }, type := 4, pos := _, after := _, guard := some (12, false) }) rfl (fun K hK => ?_) AllReadyH.nil)
  go_simp
  refine (pfwd_b _ 5 false (by rfl)).mono ?_
  rintro e W4 ⟨rfl, rfl⟩
  refine hK.out _ _ (by exact y1) (fun hHeld => ?_)
  clear hK K
  (try simp only [Act.put, List.setIfInBounds_toArray, List.set_cons_zero, List.set_cons_succ])
  refine tkH (i := 16) (oi := { dst := some 30, op := Op.pick (Operand.tmp 26) (Operand.const (Value.bool true)) (Operand.tmp 29), type := 4, pos := _, after := _, guard := none }) rfl (by assumption) ?_
  (try simp only [Act.put, List.setIfInBounds_toArray, List.set_cons_zero, List.set_cons_succ])
  refine tkH (i := 17) (oi := { dst := some 13, op := Op.assign (Operand.tmp 30), type := 4, pos := _, after := _, guard := none }) rfl (by assumption) ?_
  (try simp only [Act.put, List.setIfInBounds_toArray, List.set_cons_zero, List.set_cons_succ])
  refine wpAnyH_done (by kernel_rfl) ?_ _
  clear hHeld y1
  have r0 : W3.cell? ⟨q, 0, none⟩ = some (.int .i64 5) := BQ3.out.cell 0
  have r9 : W3.cell? ⟨q, 9, none⟩ = some (.int .i64 (upd F .fi).code) := BQ3.out.cell 9
  have r10 : W3.cell? ⟨q, 10, none⟩ = some (.slice lu.G lu.gn lu.gc) := BQ3.out.cell 10
  have c3 : W3.cell? ⟨p, 3, none⟩ = some (.int .i64 2) := BP3.out.cell 3
  go_wp2_with fail
  refine (sfin_2 _ p F c l { S with now := t } hp BP3.out).mono ?_
  rintro e W5 ⟨rfl, rfl⟩
  go_wp2_with fail
  go_ret
  exact ⟨l, _, rfl, .fi2 hp, HS.out.same rfl BP3.out K3.out, K3.out, LyOk.same rfl⟩
set_option maxRecDepth 100000 in
set_option maxHeartbeats 4000000 in
theorem take_fi4 (w : World) (p : Nat) (F : List Int) (c : Nat) (l : Ly) (S : Sr) (t T : Nat) (hT : T ≤ t) (ht : t ≤ 1000) (hi : IS c F.length T S) (hn : F.length ≤ 300) (h : SrAt w p F c l S) (lu : Lc) (hx : p ∉ blks lu.D ++ blks lu.G) (hp : S.ph = 4) (hu : PIn w (upd F .fi) lu) (hv : validP (upd F .fi) = true) : Calls Try.prog 35 #[ptr p, .agg (pcs (upd F .fi) lu), .int .i64 t] w (TkPost w p F c t l S .fi) := by
  have hnow : S.now ≤ t := Nat.le_trans hi.now hT
  have HI := Lib.hid hi
  have HS := Lib.hid h
  have HU := Lib.hid hu
  have HVU := Lib.hid hv
  have HB := Lib.hid h.blk
  clear h hi hu hv
  go_enter Try.func35, Try.ntmps35
  go_upto_region 1 with fail
  obtain ⟨W, hW⟩ : ∃ W, W = w.alloc (.cells (pcs (upd F .fi) lu) TP) := ⟨_, rfl⟩
  obtain ⟨q, hq⟩ : ∃ q, q = w.heap.size := ⟨_, rfl⟩
  have bq : Blk W q TP (pcs (upd F .fi) lu) := by rw [hW, hq]; exact Blk.new _ _ _
  have ka : Keep w.heap.size [] w W := by rw [hW]; exact (Keep.refl _ _ _).alloc (Nat.le_refl _) _
  have hpq : p ≠ q := by have := HB.out.lt; omega
  have hqp : q ≠ p := hpq.symm
  change Code.wp _ _ _ _ (w.alloc (.cells (pcs (upd F .fi) lu) TP))
  rw [← hW, ← hq]
  have BQ := Lib.hid bq
  have KA := Lib.hid ka
  have BP := Lib.hid (HB.out.keepS ka (by simp))
  have SA := Lib.hid (HS.out.keepS ka (by simp))
  have UA := Lib.hid (HU.out.keep0 ka)
  clear hW hq bq ka
  go_wp2_with fail
  refine (sok_w _ p F c l S BP.out).mono ?_
  rintro e w1 ⟨rfl, rfl⟩
  go_wp2_with fail
  refine (pass_w _ p F c l S t hnow ht BP.out).mono ?_
  rintro e W2 ⟨rfl, bp, hk2⟩
  have bq2 := BQ.out.keepS hk2 (by simpa using hqp)
  have c1 : W2.cell? ⟨p, 1, none⟩ = some (.int .i64 1) := bp.cell 1
  have c2 : W2.cell? ⟨p, 2, none⟩ = some (.int .i64 7) := bp.cell 2
  have c3 : W2.cell? ⟨p, 3, none⟩ = some (.int .i64 2) := bp.cell 3
  have z0 : W2.cell? ⟨q, 0, none⟩ = some (.int .i64 5) := bq2.cell 0
  have z1 : W2.cell? ⟨q, 1, none⟩ = some (.int .i64 1) := bq2.cell 1
  have z2 : W2.cell? ⟨q, 2, none⟩ = some (.int .i64 7) := bq2.cell 2
  have zr : W2.rangeAt q 0 (pcs (upd F .fi) lu).toList := bq2.range
  have KA2 : Hid (Keep w.heap.size [p] w W2) := Lib.hid ((KA.out.mono (S' := [p]) (Nat.le_refl _) (by simp)).trans (hk2.mono KA.out.size (by simp)))
  have BP2 := Lib.hid bp
  have BQ2 := Lib.hid bq2
  have UA2 : Hid (PIn W2 (upd F .fi) lu) := Lib.hid (UA.out.keepP hk2 (fun g hg hm => hx (by rw [← List.mem_singleton.1 hm]; exact hg)))
  clear hk2 bp bq2
  go_upto_region 4 with fail
  have y0 : (fun w' => w'.rangeAt q 0 (pcs (upd F .fi) lu).toList ∧ w'.cell? ⟨q, 0, none⟩ = some (.int .i64 5) ∧ w'.cell? ⟨q, 1, none⟩ = some (.int .i64 1) ∧ w'.cell? ⟨q, 2, none⟩ = some (.int .i64 7) ∧ w'.cell? ⟨p, 1, none⟩ = some (.int .i64 1) ∧ w'.cell? ⟨p, 2, none⟩ = some (.int .i64 7)) W2.drew := ⟨zr, z0, z1, z2, c1, c2⟩
  refine wp_region_held_drew (S := (fun w' => w'.rangeAt q 0 (pcs (upd F .fi) lu).toList ∧ w'.cell? ⟨q, 0, none⟩ = some (.int .i64 5) ∧ w'.cell? ⟨q, 1, none⟩ = some (.int .i64 1) ∧ w'.cell? ⟨q, 2, none⟩ = some (.int .i64 7) ∧ w'.cell? ⟨p, 1, none⟩ = some (.int .i64 1) ∧ w'.cell? ⟨p, 2, none⟩ = some (.int .i64 7))) (by kernel_rfl) (by exact y0) (fun hHeld => ?_)
  refine wpAnyH_take (i := 0) (oi := { dst := some 14, op := Op.load 85 (Operand.tmp 4), type := 85, pos := _, after := _, guard := none }) (v := _) rfl (by kernel_rfl) (by kernel_rfl) (by kernel_rfl) (fun _ _ _ h => h) (yieldsIf_load_mid (by rfl) TP (.tmp 4) rfl q 0 rfl (pcs (upd F .fi) lu).toList _ (fun _ h => h.1) Try.underlying85 rfl (by rw [infoPd]; rfl)) (by assumption) ?_
  (try simp only [Act.put, List.setIfInBounds_toArray, List.set_cons_zero, List.set_cons_succ])
  refine wpAnyH_ready (rs := [1]) (by kernel_rfl) (by simp) ?_
  refine (AllReadyH.cons (o := { dst := some 15, op := Op.call { callee := Callee.value (Operand.func 75), args := #[Operand.tmp 14], argTypes := #[85] }, type := 4, pos := _, after := _, guard := none }) rfl (fun K hK => ?_) AllReadyH.nil)
  go_simp
  refine (pvalid_b _ (upd F .fi) lu true (by exact UA2.out.drew) HVU.out).mono ?_
  rintro e W3 ⟨rfl, hk3⟩
  have bp3 := BP2.out.drew.keepS hk3 (by simp)
  have bq3 := BQ2.out.drew.keepS hk3 (by simp)
  have K3 := Lib.hid (KA2.out.drew.trans (hk3.mono KA2.out.drew.size (by simp)))
  have UA3 : Hid (PIn W3 (upd F .fi) lu) := Lib.hid (UA2.out.drew.keep0 hk3)
  have y1 : (fun w' => w'.rangeAt q 0 (pcs (upd F .fi) lu).toList ∧ w'.cell? ⟨q, 0, none⟩ = some (.int .i64 5) ∧ w'.cell? ⟨q, 1, none⟩ = some (.int .i64 1) ∧ w'.cell? ⟨q, 2, none⟩ = some (.int .i64 7) ∧ w'.cell? ⟨p, 1, none⟩ = some (.int .i64 1) ∧ w'.cell? ⟨p, 2, none⟩ = some (.int .i64 7)) W3 := ⟨bq3.range, bq3.cell 0, bq3.cell 1, bq3.cell 2, bp3.cell 1, bp3.cell 2⟩
  have BP3 := Lib.hid bp3
  have BQ3 := Lib.hid bq3
  clear hk3 bp3 bq3 y0 z0 z1 z2 zr c1 c2 c3
  refine hK.out _ _ (by exact y1) (fun hHeld => ?_)
  clear hK K
  (try simp only [Act.put, List.setIfInBounds_toArray, List.set_cons_zero, List.set_cons_succ])
  refine tkH (i := 2) (oi := { dst := some 16, op := Op.unOp UnOp.not 4 (Operand.tmp 15), type := 4, pos := _, after := _, guard := none }) rfl (by assumption) ?_
  (try simp only [Act.put, List.setIfInBounds_toArray, List.set_cons_zero, List.set_cons_succ])
  refine tkH (i := 3) (oi := { dst := some 17, op := Op.move (Operand.tmp 16), type := 4, pos := _, after := _, guard := none }) rfl (by assumption) ?_
  (try simp only [Act.put, List.setIfInBounds_toArray, List.set_cons_zero, List.set_cons_succ])
  refine tkH (i := 4) (oi := { dst := some 18, op := Op.fieldAddr 85 (Operand.tmp 4) 1, type := 0, pos := _, after := _, guard := some (3, false) }) rfl (by assumption) ?_
  (try simp only [Act.put, List.setIfInBounds_toArray, List.set_cons_zero, List.set_cons_succ])
  refine tkH (i := 5) (oi := { dst := some 19, op := Op.load 75 (Operand.tmp 18), type := 75, pos := _, after := _, guard := some (3, false) }) rfl (by assumption) ?_
  (try simp only [Act.put, List.setIfInBounds_toArray, List.set_cons_zero, List.set_cons_succ])
  refine tkH (i := 6) (oi := { dst := some 20, op := Op.move (Operand.tmp 0), type := 76, pos := _, after := _, guard := some (3, false) }) rfl (by assumption) ?_
  (try simp only [Act.put, List.setIfInBounds_toArray, List.set_cons_zero, List.set_cons_succ])
  refine tkH (i := 7) (oi := { dst := some 21, op := Op.nilCheck (Operand.tmp 20), type := 0, pos := _, after := _, guard := some (3, false) }) rfl (by assumption) ?_
  (try simp only [Act.put, List.setIfInBounds_toArray, List.set_cons_zero, List.set_cons_succ])
  refine tkH (i := 8) (oi := { dst := some 22, op := Op.fieldAddr 148 (Operand.tmp 21) 1, type := 0, pos := _, after := _, guard := some (3, false) }) rfl (by assumption) ?_
  (try simp only [Act.put, List.setIfInBounds_toArray, List.set_cons_zero, List.set_cons_succ])
  refine tkH (i := 9) (oi := { dst := some 23, op := Op.load 75 (Operand.tmp 22), type := 75, pos := _, after := _, guard := some (3, false) }) rfl (by assumption) ?_
  (try simp only [Act.put, List.setIfInBounds_toArray, List.set_cons_zero, List.set_cons_succ])
  refine tkH (i := 10) (oi := { dst := some 24, op := Op.binOp BinOp.neq 75 (Operand.tmp 19) (Operand.tmp 23) 75, type := 4, pos := _, after := _, guard := some (3, false) }) rfl (by assumption) ?_
  (try simp only [Act.put, List.setIfInBounds_toArray, List.set_cons_zero, List.set_cons_succ])
  refine tkH (i := 11) (oi := { dst := some 25, op := Op.pick (Operand.tmp 17) (Operand.const (Value.bool true)) (Operand.tmp 24), type := 4, pos := _, after := _, guard := none }) rfl (by assumption) ?_
  (try simp only [Act.put, List.setIfInBounds_toArray, List.set_cons_zero, List.set_cons_succ])
  refine tkH (i := 12) (oi := { dst := some 26, op := Op.move (Operand.tmp 25), type := 4, pos := _, after := _, guard := none }) rfl (by assumption) ?_
  (try simp only [Act.put, List.setIfInBounds_toArray, List.set_cons_zero, List.set_cons_succ])
  refine tkH (i := 13) (oi := { dst := some 27, op := Op.fieldAddr 85 (Operand.tmp 4) 0, type := 0, pos := _, after := _, guard := some (12, false) }) rfl (by assumption) ?_
  (try simp only [Act.put, List.setIfInBounds_toArray, List.set_cons_zero, List.set_cons_succ])
  refine tkH (i := 14) (oi := { dst := some 28, op := Op.load 3 (Operand.tmp 27), type := 3, pos := _, after := _, guard := some (12, false) }) rfl (by assumption) ?_
  (try simp only [Act.put, List.setIfInBounds_toArray, List.set_cons_zero, List.set_cons_succ])
  refine wpAnyH_ready (rs := [15]) (by kernel_rfl) (by simp) ?_
  refine (AllReadyH.cons (o := { dst := some 29, op := Op.call { callee := Callee.value (Operand.func 89), args := #[Operand.tmp 28], argTypes := #[3] }, type := 4, pos := _, after := _, guard := some (12, false) }) rfl (fun K hK => ?_) AllReadyH.nil)
  go_simp
  refine (pfwd_b _ 5 false (by rfl)).mono ?_
  rintro e W4 ⟨rfl, rfl⟩
  refine hK.out _ _ (by exact y1) (fun hHeld => ?_)
  clear hK K
  (try simp only [Act.put, List.setIfInBounds_toArray, List.set_cons_zero, List.set_cons_succ])
  refine tkH (i := 16) (oi := { dst := some 30, op := Op.pick (Operand.tmp 26) (Operand.const (Value.bool true)) (Operand.tmp 29), type := 4, pos := _, after := _, guard := none }) rfl (by assumption) ?_
  (try simp only [Act.put, List.setIfInBounds_toArray, List.set_cons_zero, List.set_cons_succ])
  refine tkH (i := 17) (oi := { dst := some 13, op := Op.assign (Operand.tmp 30), type := 4, pos := _, after := _, guard := none }) rfl (by assumption) ?_
  (try simp only [Act.put, List.setIfInBounds_toArray, List.set_cons_zero, List.set_cons_succ])
  refine wpAnyH_done (by kernel_rfl) ?_ _
  clear hHeld y1
  have r0 : W3.cell? ⟨q, 0, none⟩ = some (.int .i64 5) := BQ3.out.cell 0
  have r9 : W3.cell? ⟨q, 9, none⟩ = some (.int .i64 (upd F .fi).code) := BQ3.out.cell 9
  have r10 : W3.cell? ⟨q, 10, none⟩ = some (.slice lu.G lu.gn lu.gc) := BQ3.out.cell 10
  have c3 : W3.cell? ⟨p, 3, none⟩ = some (.int .i64 2) := BP3.out.cell 3
  go_wp2_with fail
  refine (sfin_4 _ p F c l { S with now := t } hp BP3.out).mono ?_
  rintro e W5 ⟨rfl, hb5, hk5⟩
  have B5 := Lib.hid hb5
  have K5 : Hid (Keep w.heap.size [p] w W5) := Lib.hid (K3.out.trans (hk5.mono K3.out.size (by simp)))
  clear hb5 hk5
  go_wp2_with fail
  go_ret
  exact ⟨l, _, rfl, .fi4 hp, HS.out.same rfl B5.out K5.out, K5.out, LyOk.same rfl⟩
end Go.Proofs.Ytfkbcflgbjncdaa
