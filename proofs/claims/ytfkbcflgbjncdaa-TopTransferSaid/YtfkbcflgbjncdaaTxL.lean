/- The sending end: piece, again, forward, repeat. -/
import Derived.Test.YtfkbcflgbjncdaaTxR
import Derived.Test.YtfkbcflgbjncdaaTxK
namespace Go.Proofs.Ytfkbcflgbjncdaa
set_option linter.unusedVariables false
set_option linter.unusedSimpArgs false
open Go.RowKit
/-- a piece's parts -/
def pcl (X : Option Addr) (m c : Nat) : Lc := ⟨X, m, c, none, 0, 0⟩
theorem Vw.old {w : World} {X : Option Addr} {m size q : Nat} {xs : List Value} (h : Vw w X m size xs) (hs : 0 < m) (hq : w.heap.size ≤ q) : ∀ g, g ∈ blks X → g ∉ [q] := by
  obtain ⟨b, o, rfl, hb, _⟩ := h.2 hs
  intro g hg
  simp only [blks, List.mem_singleton] at hg ⊢
  omega
def PcPost (w : World) (F : List Int) (a b : Nat) (e : Ending) (w' : World) : Prop :=
  ∃ X xc, e = .returned (.agg (pcs (upd F (.pc a b)) (pcl X (b - a) xc))) ∧ Sl w' 5 1 X (b - a) xc (octs ((F.drop a).take (b - a))) ∧ Keep w.heap.size [] w w' ∧ ∀ y, y ∈ blks X → w.heap.size ≤ y
theorem Vw.part {w : World} {b o n i j : Nat} {F : List Int} (h : Vw w (some ⟨b, o, none⟩) n 1 (octs F)) (hij : i ≤ j) (hj : j ≤ n) : Vw w (some ⟨b, o + i, none⟩) (j - i) 1 (octs ((F.drop i).take (j - i))) := by
  have h1 := (h.drop (k := i) (by omega)).take (k := j - i) (by omega)
  simpa [octs, List.map_take, List.map_drop] using h1
set_option maxRecDepth 100000 in
set_option maxHeartbeats 2000000 in
theorem spiece_w (w : World) (p : Nat) (F : List Int) (c : Nat) (l : Ly) (S : Sr) (a b : Nat) (hab : a < b) (hbn : b ≤ F.length) (hn : F.length ≤ 300) (hd : Vw w l.D F.length 1 (octs F)) (hdc : F.length ≤ l.dc ∧ l.dc ≤ maxLen) (hb : Blk w p TS (scs F c l S)) : Calls Try.prog 130 #[ptr p, .int .i64 a, .int .i64 b] w fun e w' => PcPost w F a b e w' := by
  have HB := Lib.hid hb
  obtain ⟨g, k, hD, _, _⟩ := hd.2 (by omega)
  rw [hD] at hd
  have HD := Lib.hid hd
  have HDE := Lib.hid hD
  have dc1 := hdc.1
  have dc2 : (l.dc : Int) ≤ 9223372036854775807 := by have := hdc.2; unfold maxLen at this; omega
  have i0 : (0 : Int) ≤ (a : Int) := by omega
  have i1 : (a : Int) ≤ (b : Int) := by omega
  have i2 : (b : Int) ≤ (l.dc : Int) := by omega
  have i3 : (b : Int) ≤ (F.length : Int) := by omega
  have ia : ¬ l.dc = a := by omega
  clear hb hd hdc hD
  go_enter Try.func130, Try.ntmps130
  go_upto_region 1 with fail
  obtain ⟨W, q, hW, hq, bq, ka⟩ := newPd w
  have bp := HB.out.keepS ka (by simp)
  have hpq : p ≠ q := by have := HB.out.lt; omega
  have hqp : q ≠ p := hpq.symm
  change Code.wp _ _ _ _ (w.alloc (.cells zcs TP))
  rw [← hW, ← hq]
  have HQ := Lib.hid hq
  clear hW hq
  have c1 : W.cell? ⟨p, 1, none⟩ = some (.int .i64 1) := bp.cell 1
  have c2 : W.cell? ⟨p, 2, none⟩ = some (.int .i64 7) := bp.cell 2
  have c5 : W.cell? ⟨p, 5, none⟩ = some (.slice (some ⟨g, k, none⟩) F.length l.dc) := by rw [← HDE.out]; exact bp.cell 5
  have VD := Lib.hid (HD.out.keep0 ka)
  have BP := Lib.hid bp
  have BQ := Lib.hid bq
  have KA := Lib.hid ka
  clear bp bq ka
  have y0 : W.drew.cell? ⟨p, 1, none⟩ = some (.int .i64 1) ∧ W.drew.cell? ⟨p, 2, none⟩ = some (.int .i64 7) ∧ W.drew.cell? ⟨p, 5, none⟩ = some (.slice (some ⟨g, k, none⟩) F.length l.dc) := ⟨c1, c2, c5⟩
  refine region_anyZ 14 (S := (fun w' => w'.cell? ⟨p, 1, none⟩ = some (.int .i64 1) ∧ w'.cell? ⟨p, 2, none⟩ = some (.int .i64 7) ∧ w'.cell? ⟨p, 5, none⟩ = some (.slice (some ⟨g, k, none⟩) F.length l.dc))) (by kernel_rfl) (by exact y0) (fun hHeld => ?_)
  refine tkZ (i := 0) (oi := { dst := some 7, op := Op.move (Operand.tmp 0), type := 76, pos := _, after := _, guard := none }) rfl hHeld ?_
  (try simp only [Act.put, List.setIfInBounds_toArray, List.set_cons_zero, List.set_cons_succ])
  refine tkZ (i := 1) (oi := { dst := some 8, op := Op.nilCheck (Operand.tmp 7), type := 0, pos := _, after := _, guard := none }) rfl hHeld ?_
  (try simp only [Act.put, List.setIfInBounds_toArray, List.set_cons_zero, List.set_cons_succ])
  refine tkZ (i := 2) (oi := { dst := some 9, op := Op.fieldAddr 148 (Operand.tmp 8) 1, type := 0, pos := _, after := _, guard := none }) rfl hHeld ?_
  (try simp only [Act.put, List.setIfInBounds_toArray, List.set_cons_zero, List.set_cons_succ])
  refine tkZ (i := 3) (oi := { dst := some 10, op := Op.load 75 (Operand.tmp 9), type := 75, pos := _, after := _, guard := none }) rfl hHeld ?_
  (try simp only [Act.put, List.setIfInBounds_toArray, List.set_cons_zero, List.set_cons_succ])
  refine tkZ (i := 4) (oi := { dst := some 11, op := Op.move (Operand.tmp 1), type := 3, pos := _, after := _, guard := none }) rfl hHeld ?_
  (try simp only [Act.put, List.setIfInBounds_toArray, List.set_cons_zero, List.set_cons_succ])
  refine tkZ (i := 5) (oi := { dst := some 12, op := Op.move (Operand.tmp 0), type := 76, pos := _, after := _, guard := none }) rfl hHeld ?_
  (try simp only [Act.put, List.setIfInBounds_toArray, List.set_cons_zero, List.set_cons_succ])
  refine tkZ (i := 6) (oi := { dst := some 13, op := Op.nilCheck (Operand.tmp 12), type := 0, pos := _, after := _, guard := none }) rfl hHeld ?_
  (try simp only [Act.put, List.setIfInBounds_toArray, List.set_cons_zero, List.set_cons_succ])
  refine tkZ (i := 7) (oi := { dst := some 14, op := Op.fieldAddr 148 (Operand.tmp 13) 4, type := 0, pos := _, after := _, guard := none }) rfl hHeld ?_
  (try simp only [Act.put, List.setIfInBounds_toArray, List.set_cons_zero, List.set_cons_succ])
  refine tkZ (i := 8) (oi := { dst := some 15, op := Op.load 35 (Operand.tmp 14), type := 35, pos := _, after := _, guard := none }) rfl hHeld ?_
  (try simp only [Act.put, List.setIfInBounds_toArray, List.set_cons_zero, List.set_cons_succ])
  refine tkZ (i := 9) (oi := { dst := some 16, op := Op.move (Operand.tmp 1), type := 3, pos := _, after := _, guard := none }) rfl hHeld ?_
  (try simp only [Act.put, List.setIfInBounds_toArray, List.set_cons_zero, List.set_cons_succ])
  refine tkZ (i := 10) (oi := { dst := some 17, op := Op.move (Operand.tmp 2), type := 3, pos := _, after := _, guard := none }) rfl hHeld ?_
  (try simp only [Act.put, List.setIfInBounds_toArray, List.set_cons_zero, List.set_cons_succ])
  refine tkZ (i := 11) (oi := { dst := some 18, op := Op.slice 35 (Operand.tmp 15) (some (Operand.tmp 16)) (some (Operand.tmp 17)) none, type := 35, pos := _, after := _, guard := none }) rfl hHeld ?_
  (try simp only [Act.put, List.setIfInBounds_toArray, List.set_cons_zero, List.set_cons_succ])
  refine anyZ.ready (rs := [12]) (by kernel_rfl) (by simp) ?_
  refine (AllZ.cons (o := { dst := some 19, op := Op.call { callee := Callee.value (Operand.func 77), args := #[Operand.tmp 18], argTypes := #[35] }, type := 35, pos := _, after := _, guard := none }) rfl (fun K hK => ?_) AllZ.nil)
  go_simp
  refine (bclone_any _ (some ⟨g, k + a, none⟩) (b - a) (l.dc - a) _ (by omega) (by exact VD.out.drew.part (Nat.le_of_lt hab) hbn)).mono ?_
  rintro e W1 ⟨X, xc, rfl, hs1, hk1, hb1⟩
  have S1 := Lib.hid hs1
  have BQ1 := Lib.hid (BQ.out.drew.keepS hk1 (by simp))
  have bp1 := BP.out.drew.keepS hk1 (by simp)
  have K1 := Lib.hid (KA.out.drew.chain0 (Nat.le_refl _) hk1)
  have FX : Hid (∀ y, y ∈ blks X → W.heap.size ≤ y) := Lib.hid hb1
  have y1 : W1.cell? ⟨p, 1, none⟩ = some (.int .i64 1) ∧ W1.cell? ⟨p, 2, none⟩ = some (.int .i64 7) ∧ W1.cell? ⟨p, 5, none⟩ = some (.slice (some ⟨g, k, none⟩) F.length l.dc) := ⟨bp1.cell 1, bp1.cell 2, (by rw [← HDE.out]; exact bp1.cell 5)⟩
  clear hs1 hk1 hb1 bp1
  refine hK.out _ _ (fun _ => (by exact y1)) (fun hHeld => ?_)
  clear hK K
  replace hHeld := hHeld (by kernel_rfl)
  (try simp only [Act.put, List.setIfInBounds_toArray, List.set_cons_zero, List.set_cons_succ])
  refine tkZ (i := 13) (oi := { dst := some 20, op := Op.build 85 #[(0, Operand.const (Value.int IntKind.i64 2)), (1, Operand.tmp 10), (5, Operand.tmp 11), (6, Operand.tmp 19)], type := 85, pos := _, after := _, guard := none }) rfl hHeld ?_
  (try simp only [Act.put, List.setIfInBounds_toArray, List.set_cons_zero, List.set_cons_succ])
  refine anyZ.ready (rs := [14]) (by kernel_rfl) (by simp) ?_
  refine (AllZ.cons (o := { dst := none, op := Op.store 85 (Operand.tmp 6) (Operand.tmp 20), type := 0, pos := _, after := _, guard := none }) rfl (fun K hK => ?_) AllZ.nil)
  refine step_store_mid rfl TP (.tmp 6) (.tmp 20) rfl q 0 (pcs (upd F (.pc a b)) (pcl X (b - a) xc)) rfl rfl (by refine thereQ ?_; repeat (first | with_reducible exact BQ1.out | refine Blk.far ?_ hqp _)) infoPd (by exact upd_cells _ _) ?_
  refine hK.out _ _ (fun h => absurd h (by decide)) (fun hHeld => ?_)
  clear hK K
  (try simp only [Act.put, List.setIfInBounds_toArray, List.set_cons_zero, List.set_cons_succ])
  refine anyZ.done (by kernel_rfl) ?_ _
  clear hHeld
  go_wp2_with fail
  refine bodyPost_ret (res_piece _ _ q (upd F (.pc a b)) (pcl X (b - a) xc) rfl (by refine Blk.setAll (cs := zcs) (vs := pcs (upd F (.pc a b)) (pcl X (b - a) xc)) ?_ rfl; repeat (first | with_reducible exact BQ1.out | refine Blk.far ?_ hqp _))) rfl ?_
  have hx : ∀ y, y ∈ blks X → y ∉ [q] := fun y hy => by have := FX.out y hy; have := BQ.out.lt; simp; omega
  exact ⟨X, xc, rfl, S1.out.keepS (Keep.setCells (S := [q]) (.inr (by simp)) _ _ _ (Keep.refl _ _ _)) hx, Keep.setCells (.inl (by rw [HQ.out]; exact Nat.le_refl _)) _ _ _ K1.out, fun y hy => Nat.le_trans KA.out.size (FX.out y hy)⟩
theorem i64k {x : Int} (h0 : 0 ≤ x) (h1 : x ≤ 1000000) : IntKind.i64.wrap x = x := by rw [IntKind.wrap_i64]; omega
def AgPost (w : World) (p : Nat) (F : List Int) (c : Nat) (l : Ly) (S : Sr) (r : Gp) (e : Ending) (w' : World) : Prop :=
  ∃ X xc N Y yc, e = .returned (.agg (pcs (upd F (.pc r.f.toNat (min r.t (r.f + c)).toNat)) (pcl X ((min r.t (r.f + c)).toNat - r.f.toNat) xc))) ∧ Sl w' 5 1 X ((min r.t (r.f + c)).toNat - r.f.toNat) xc (octs ((F.drop r.f.toNat).take ((min r.t (r.f + c)).toNat - r.f.toNat))) ∧ Nrm N ∧ (∀ z, mem N z ↔ mem S.wd z ∧ ¬ (r.f ≤ z ∧ z < min r.t (r.f + c))) ∧
    Blk w' p TS (scs F c ⟨l.D, l.dc, Y, yc⟩ { S with wd := N }) ∧ Sl w' TG 2 Y N.length yc (gcs N) ∧ Keep w.heap.size [p] w w' ∧ (∀ y, y ∈ blks X → w.heap.size ≤ y) ∧ ∀ y, y ∈ blks Y → w.heap.size ≤ y
set_option maxRecDepth 100000 in
set_option maxHeartbeats 2000000 in
theorem sagain_w (w : World) (p : Nat) (F : List Int) (c : Nat) (l : Ly) (S : Sr) (r : Gp) (lw : List Gp) (hwd : S.wd = r :: lw) (hr0 : 0 ≤ r.f) (hr1 : r.f < r.t) (hr2 : r.t ≤ F.length) (hc : 1 ≤ c) (hc2 : c ≤ 512) (hn : F.length ≤ 300) (hwl : S.wd.length ≤ 1000) (hwc : S.wd.length ≤ l.wc ∧ l.wc ≤ maxLen) (hd : Vw w l.D F.length 1 (octs F)) (hdc : F.length ≤ l.dc ∧ l.dc ≤ maxLen) (hnD : p ∉ blks l.D) (hv : Vw w l.W S.wd.length 2 (gcs S.wd)) (hb : Blk w p TS (scs F c l S)) : Calls Try.prog 84 #[ptr p] w fun e w' => AgPost w p F c l S r e w' := by
  have HB := Lib.hid hb
  have HD := Lib.hid hd
  have HDC := Lib.hid hdc
  have hlen : 0 < S.wd.length := by rw [hwd]; simp
  obtain ⟨g2, o2, r', hWd, hr', _, _⟩ := gap_at hv hlen
  have hrr : r' = r := by rw [hwd] at hr'; simpa using hr'.symm
  subst hrr
  rw [hWd] at hv
  have HV := Lib.hid hv
  have HWD := Lib.hid hWd
  have HWL := Lib.hid hwd
  have HL : Hid (0 < S.wd.length) := Lib.hid hlen
  obtain ⟨a, ha⟩ : ∃ a : Nat, r'.f = (a : Int) := ⟨r'.f.toNat, by omega⟩
  obtain ⟨bb, hbb⟩ : ∃ bb : Nat, min r'.t ((a : Int) + (c : Int)) = (bb : Int) := ⟨(min r'.t ((a : Int) + (c : Int))).toNat, by omega⟩
  have hab : a < bb := by omega
  have hbn : bb ≤ F.length := by omega
  have ew : IntKind.i64.wrap ((a : Int) + (c : Int)) = (a : Int) + (c : Int) := i64k (by omega) (by omega)
  have hwl0 : (0 : Int) < (S.wd.length : Int) := by omega
  have HA := Lib.hid ha
  have HBB := Lib.hid hbb
  clear hb hd hdc hv hWd hr' hwd hlen
  go_enter Try.func84, Try.ntmps84
  go_upto_region 1 with fail
  obtain ⟨W, q, hW, hq, bq, ka⟩ := newPd w
  have bp := HB.out.keepS ka (by simp)
  have hpq : p ≠ q := by have := HB.out.lt; omega
  have hqp : q ≠ p := hpq.symm
  change Code.wp _ _ _ _ (w.alloc (.cells zcs TP))
  rw [← hW, ← hq]
  have HQ := Lib.hid hq
  clear hW hq
  have c15 : W.cell? ⟨p, 15, none⟩ = some (.slice (some ⟨g2, o2, none⟩) S.wd.length l.wc) := by rw [← HWD.out]; exact bp.cell 15
  have VW := Lib.hid (HV.out.keep0 ka)
  have VD := Lib.hid (HD.out.keep0 ka)
  obtain ⟨g3, o3, r3, hg3, hr3, d0, d1⟩ := gap_at VW.out HL.out
  have hgo : g3 = g2 ∧ o3 = o2 := by injection hg3 with h; injection h with h1 h2; exact ⟨h1.symm, h2.symm⟩
  obtain ⟨rfl, rfl⟩ := hgo
  have hrr : r3 = r' := by rw [HWL.out] at hr3; simpa using hr3.symm
  subst hrr
  rw [Nat.zero_mul, Nat.add_zero, ha] at d0
  rw [Nat.zero_mul, Nat.add_zero] at d1
  clear hg3 hr3 ha
  have hcap : S.wd.length ≤ l.wc := hwc.1
  have BP := Lib.hid bp
  have BQ := Lib.hid bq
  have KA := Lib.hid ka
  clear bp bq ka
  go_upto_region 2 with fail
  obtain ⟨W1, hW1⟩ : ∃ V, V = W.alloc (.cells #[.int .i64 a, .int .i64 r3.t] TG) := ⟨_, rfl⟩
  obtain ⟨q3, hq3⟩ : ∃ x, x = W.heap.size := ⟨_, rfl⟩
  change Code.wp _ _ _ _ (W.alloc (.cells #[.int .i64 a, .int .i64 r3.t] TG))
  rw [← hW1, ← hq3]
  have k1 : Keep W.heap.size [] W W1 := by rw [hW1]; exact (Keep.refl _ _ _).alloc (Nat.le_refl _) _
  have bg : Blk W1 q3 TG #[.int .i64 a, .int .i64 r3.t] := by rw [hW1, hq3]; exact Blk.new _ _ _
  have bp := BP.out.keepS k1 (by simp)
  have hq3p : q3 ≠ p := by have := BP.out.lt; omega
  have hpq3 : p ≠ q3 := hq3p.symm
  have hqq3 : q ≠ q3 := by have := BQ.out.lt; omega
  have g0 : W1.cell? ⟨q3, 0, none⟩ = some (.int .i64 a) := bg.cell 0
  have g1 : W1.cell? ⟨q3, 1, none⟩ = some (.int .i64 r3.t) := bg.cell 1
  have fg1 := bg.frozen 1
  have BG1 := Lib.hid bg
  have BP1 := Lib.hid bp
  have BQ1 := Lib.hid (BQ.out.keepS k1 (by simp))
  have KA1 := Lib.hid (KA.out.chain0 (Nat.le_refl _) k1)
  have HQ3 : Hid (w.heap.size ≤ q3) := Lib.hid (by rw [hq3]; exact KA.out.size)
  have VD1 := Lib.hid (VD.out.keep0 k1)
  have VW1 := Lib.hid (VW.out.keep0 k1)
  have c6 : W1.cell? ⟨p, 6, none⟩ = some (.int .i64 c) := bp.cell 6
  clear hW1 hq3 k1 bg bp
  have y0 : W1.drew.cell? ⟨p, 6, none⟩ = some (.int .i64 c) ∧ W1.drew.cell? ⟨q3, 0, none⟩ = some (.int .i64 a) ∧ W1.drew.cell? ⟨q3, 1, none⟩ = some (.int .i64 r3.t) := ⟨c6, g0, g1⟩
  refine region_anyZ 12 (S := (fun w' => w'.cell? ⟨p, 6, none⟩ = some (.int .i64 c) ∧ w'.cell? ⟨q3, 0, none⟩ = some (.int .i64 a) ∧ w'.cell? ⟨q3, 1, none⟩ = some (.int .i64 r3.t))) (by kernel_rfl) (by exact y0) (fun hHeld => ?_)
  refine tkZ (i := 0) (oi := { dst := some 10, op := Op.fieldAddr 158 (Operand.tmp 3) 1, type := 0, pos := _, after := _, guard := none }) rfl hHeld ?_
  (try simp only [Act.put, List.setIfInBounds_toArray, List.set_cons_zero, List.set_cons_succ])
  refine tkZ (i := 1) (oi := { dst := some 11, op := Op.load 3 (Operand.tmp 10), type := 3, pos := _, after := _, guard := none }) rfl hHeld ?_
  (try simp only [Act.put, List.setIfInBounds_toArray, List.set_cons_zero, List.set_cons_succ])
  refine tkZ (i := 2) (oi := { dst := some 12, op := Op.fieldAddr 158 (Operand.tmp 3) 0, type := 0, pos := _, after := _, guard := none }) rfl hHeld ?_
  (try simp only [Act.put, List.setIfInBounds_toArray, List.set_cons_zero, List.set_cons_succ])
  refine tkZ (i := 3) (oi := { dst := some 13, op := Op.load 3 (Operand.tmp 12), type := 3, pos := _, after := _, guard := none }) rfl hHeld ?_
  (try simp only [Act.put, List.setIfInBounds_toArray, List.set_cons_zero, List.set_cons_succ])
  refine tkZ (i := 4) (oi := { dst := some 14, op := Op.move (Operand.tmp 0), type := 76, pos := _, after := _, guard := none }) rfl hHeld ?_
  (try simp only [Act.put, List.setIfInBounds_toArray, List.set_cons_zero, List.set_cons_succ])
  refine tkZ (i := 5) (oi := { dst := some 15, op := Op.nilCheck (Operand.tmp 14), type := 0, pos := _, after := _, guard := none }) rfl hHeld ?_
  (try simp only [Act.put, List.setIfInBounds_toArray, List.set_cons_zero, List.set_cons_succ])
  refine tkZ (i := 6) (oi := { dst := some 16, op := Op.fieldAddr 148 (Operand.tmp 15) 5, type := 0, pos := _, after := _, guard := none }) rfl hHeld ?_
  (try simp only [Act.put, List.setIfInBounds_toArray, List.set_cons_zero, List.set_cons_succ])
  refine tkZ (i := 7) (oi := { dst := some 17, op := Op.fieldAddr 73 (Operand.tmp 16) 0, type := 0, pos := _, after := _, guard := none }) rfl hHeld ?_
  (try simp only [Act.put, List.setIfInBounds_toArray, List.set_cons_zero, List.set_cons_succ])
  refine tkZ (i := 8) (oi := { dst := some 18, op := Op.load 3 (Operand.tmp 17), type := 3, pos := _, after := _, guard := none }) rfl hHeld ?_
  (try simp only [Act.put, List.setIfInBounds_toArray, List.set_cons_zero, List.set_cons_succ])
  refine tkZ (i := 9) (oi := { dst := some 19, op := Op.binOp BinOp.add 3 (Operand.tmp 13) (Operand.tmp 18) 3, type := 3, pos := _, after := _, guard := none }) rfl hHeld ?_
  (try simp only [Act.put, List.setIfInBounds_toArray, List.set_cons_zero, List.set_cons_succ])
  refine tkZ (i := 10) (oi := { dst := some 20, op := Op.call { callee := Callee.builtin Builtin.min, args := #[Operand.tmp 11, Operand.tmp 19], argTypes := #[3, 3] }, type := 3, pos := _, after := _, guard := none }) rfl hHeld ?_
  (try simp only [Act.put, List.setIfInBounds_toArray, List.set_cons_zero, List.set_cons_succ])
  refine tkZ (i := 11) (oi := { dst := some 21, op := Op.fieldAddr 158 (Operand.tmp 3) 1, type := 0, pos := _, after := _, guard := none }) rfl hHeld ?_
  (try simp only [Act.put, List.setIfInBounds_toArray, List.set_cons_zero, List.set_cons_succ])
  refine anyZ.ready (rs := [12]) (by kernel_rfl) (by simp) ?_
  refine (AllZ.cons (o := { dst := none, op := Op.store 3 (Operand.tmp 21) (Operand.tmp 20), type := 0, pos := _, after := _, guard := none }) rfl (fun K hK => ?_) AllZ.nil)
  go_simp
  refine hK.out _ _ (fun h => absurd h (by decide)) (fun hHeld => ?_)
  clear hK K
  (try simp only [Act.put, List.setIfInBounds_toArray, List.set_cons_zero, List.set_cons_succ])
  refine anyZ.done (by kernel_rfl) ?_ _
  clear hHeld
  clear y0
  obtain ⟨W2, hW2⟩ : ∃ V, V = (W1.setCell ⟨q3, 1, none⟩ (.int .i64 (bb : Int))).drew := ⟨_, rfl⟩
  rw [← hW2]
  have bg : Blk W2 q3 TG #[.int .i64 a, .int .i64 bb] := by rw [hW2]; exact (BG1.out.set_ 1 _).drew
  have bp : Blk W2 p TS (scs F c l S) := by rw [hW2]; exact (BP1.out.far hpq3 _).drew
  have BQ2 : Hid (Blk W2 q TP zcs) := Lib.hid (by rw [hW2]; exact (BQ1.out.far hqq3 _).drew)
  have KA2 : Hid (Keep w.heap.size [] w W2) := Lib.hid (by rw [hW2]; exact (KA1.out.setN HQ3.out).drew)
  have k2 : Keep W1.heap.size [q3] W1 W2 := by rw [hW2]; exact ((Keep.refl _ _ _).set1).drew
  have VD2 := Lib.hid (VD1.out.keepS k2 (HD.out.old (by omega) HQ3.out))
  have VW2 := Lib.hid (VW1.out.keepS k2 (HV.out.old HL.out HQ3.out))
  have g0 : W2.cell? ⟨q3, 0, none⟩ = some (.int .i64 a) := bg.cell 0
  have g1 : W2.cell? ⟨q3, 1, none⟩ = some (.int .i64 bb) := bg.cell 1
  have c15 : W2.cell? ⟨p, 15, none⟩ = some (.slice (some ⟨g3, o3, none⟩) S.wd.length l.wc) := by rw [← HWD.out]; exact bp.cell 15
  have f15 := bp.frozen 15
  have BP2 := Lib.hid bp
  have BG2 := Lib.hid bg
  clear hW2 bg bp k2 g0 g1 fg1 c6
  have g0 := BG2.out.cell 0
  have g1 := BG2.out.cell 1
  go_upto_region 3 with fail
  have y0 : W2.drew.cell? ⟨p, 15, none⟩ = some (.slice (some ⟨g3, o3, none⟩) S.wd.length l.wc) ∧ W2.drew.cell? ⟨q3, 0, none⟩ = some (.int .i64 a) ∧ W2.drew.cell? ⟨q3, 1, none⟩ = some (.int .i64 bb) := ⟨c15, g0, g1⟩
  refine region_anyZ 9 (S := (fun w' => w'.cell? ⟨p, 15, none⟩ = some (.slice (some ⟨g3, o3, none⟩) S.wd.length l.wc) ∧ w'.cell? ⟨q3, 0, none⟩ = some (.int .i64 a) ∧ w'.cell? ⟨q3, 1, none⟩ = some (.int .i64 bb))) (by kernel_rfl) (by exact y0) (fun hHeld => ?_)
  refine tkZ (i := 0) (oi := { dst := some 22, op := Op.move (Operand.tmp 0), type := 76, pos := _, after := _, guard := none }) rfl hHeld ?_
  (try simp only [Act.put, List.setIfInBounds_toArray, List.set_cons_zero, List.set_cons_succ])
  refine tkZ (i := 1) (oi := { dst := some 23, op := Op.move (Operand.tmp 0), type := 76, pos := _, after := _, guard := none }) rfl hHeld ?_
  (try simp only [Act.put, List.setIfInBounds_toArray, List.set_cons_zero, List.set_cons_succ])
  refine tkZ (i := 2) (oi := { dst := some 24, op := Op.nilCheck (Operand.tmp 23), type := 0, pos := _, after := _, guard := none }) rfl hHeld ?_
  (try simp only [Act.put, List.setIfInBounds_toArray, List.set_cons_zero, List.set_cons_succ])
  refine tkZ (i := 3) (oi := { dst := some 25, op := Op.fieldAddr 148 (Operand.tmp 24) 12, type := 0, pos := _, after := _, guard := none }) rfl hHeld ?_
  (try simp only [Act.put, List.setIfInBounds_toArray, List.set_cons_zero, List.set_cons_succ])
  refine tkZ (i := 4) (oi := { dst := some 26, op := Op.load 83 (Operand.tmp 25), type := 83, pos := _, after := _, guard := none }) rfl hHeld ?_
  (try simp only [Act.put, List.setIfInBounds_toArray, List.set_cons_zero, List.set_cons_succ])
  refine tkZ (i := 5) (oi := { dst := some 27, op := Op.load 158 (Operand.tmp 3), type := 158, pos := _, after := _, guard := none }) rfl hHeld ?_
  (try simp only [Act.put, List.setIfInBounds_toArray, List.set_cons_zero, List.set_cons_succ])
  refine anyZ.ready (rs := [6]) (by kernel_rfl) (by simp) ?_
  refine (AllZ.cons (o := { dst := some 28, op := Op.call { callee := Callee.value (Operand.func 129), args := #[Operand.tmp 26, Operand.tmp 27], argTypes := #[83, 158] }, type := 83, pos := _, after := _, guard := none }) rfl (fun K hK => ?_) AllZ.nil)
  go_simp
  refine (remove_w _ (some ⟨g3, o3, none⟩) S.wd.length l.wc S.wd ⟨a, bb⟩ (by omega) (by simp only; omega) (by exact VW2.out.drew)).mono ?_
  rintro e W3 ⟨Y, yc, N, rfl, hs3, hn3, hm3, hl3, hk3, hb3⟩
  have S3 := Lib.hid hs3
  have N3 := Lib.hid hn3
  have M3 := Lib.hid hm3
  have B3 : Hid (∀ y, y ∈ blks Y → W2.heap.size ≤ y) := Lib.hid hb3
  have BP3 := Lib.hid (BP2.out.drew.keepS hk3 (by simp))
  have BG3 := Lib.hid (BG2.out.drew.keepS hk3 (by simp))
  have BQ3 := Lib.hid (BQ2.out.drew.keepS hk3 (by simp))
  have K3 := Lib.hid (KA2.out.drew.chain0 (Nat.le_refl _) hk3)
  have VD3 := Lib.hid (VD2.out.drew.keep0 hk3)
  have z15 : W3.cell? ⟨p, 15, none⟩ = some (.slice (some ⟨g3, o3, none⟩) S.wd.length l.wc) := by rw [← HWD.out]; exact BP3.out.cell 15
  have z15f := BP3.out.frozen 15
  have y1 : W3.cell? ⟨p, 15, none⟩ = some (.slice (some ⟨g3, o3, none⟩) S.wd.length l.wc) ∧ W3.cell? ⟨q3, 0, none⟩ = some (.int .i64 a) ∧ W3.cell? ⟨q3, 1, none⟩ = some (.int .i64 bb) := ⟨z15, BG3.out.cell 0, BG3.out.cell 1⟩
  clear hs3 hn3 hm3 hl3 hk3 hb3 y0 g0 g1 c15 f15
  refine hK.out _ _ (fun _ => (by exact y1)) (fun hHeld => ?_)
  clear hK K
  replace hHeld := hHeld (by kernel_rfl)
  (try simp only [Act.put, List.setIfInBounds_toArray, List.set_cons_zero, List.set_cons_succ])
  refine anyZ.takeU (i := 7) (oi := { dst := some 29, op := Op.nilCheck (Operand.tmp 22), type := 0, pos := _, after := _, guard := none }) (v := _) rfl (by decide) (by kernel_rfl) (by kernel_rfl) (by kernel_rfl) (fun _ _ _ h => h) (Or.inl ⟨by rfl, by (intro wS hSw; (try dsimp only at hSw); go_simp; try with_reducible rfl)⟩) (by exact hHeld) ?_
  (try simp only [Act.put, List.setIfInBounds_toArray, List.set_cons_zero, List.set_cons_succ])
  refine tkZ (i := 8) (oi := { dst := some 30, op := Op.fieldAddr 148 (Operand.tmp 29) 12, type := 0, pos := _, after := _, guard := none }) rfl hHeld ?_
  (try simp only [Act.put, List.setIfInBounds_toArray, List.set_cons_zero, List.set_cons_succ])
  refine anyZ.ready (rs := [9]) (by kernel_rfl) (by simp) ?_
  refine (AllZ.cons (o := { dst := none, op := Op.store 83 (Operand.tmp 30) (Operand.tmp 28), type := 0, pos := _, after := _, guard := none }) rfl (fun K hK => ?_) AllZ.nil)
  go_simp
  refine hK.out _ _ (fun h => absurd h (by decide)) (fun hHeld => ?_)
  clear hK K
  (try simp only [Act.put, List.setIfInBounds_toArray, List.set_cons_zero, List.set_cons_succ])
  refine anyZ.done (by kernel_rfl) ?_ _
  clear hHeld
  clear hpq3 y1
  obtain ⟨W4, hW4⟩ : ∃ V, V = W3.setCell ⟨p, 15, none⟩ (.slice Y N.length yc) := ⟨_, rfl⟩
  rw [← hW4]
  have bp : Blk W4 p TS (scs F c ⟨l.D, l.dc, Y, yc⟩ { S with wd := N }) := by rw [hW4]; exact BP3.out.set_ 15 _
  have bg : Blk W4 q3 TG #[.int .i64 a, .int .i64 bb] := by rw [hW4]; exact BG3.out.far hq3p _
  have BQ4 : Hid (Blk W4 q TP zcs) := Lib.hid (by rw [hW4]; exact BQ3.out.far hqp _)
  have KA4 : Hid (Keep w.heap.size [p] w W4) := Lib.hid (by rw [hW4]; exact (K3.out.mono (S' := [p]) (Nat.le_refl _) (by simp)).set1)
  have VD4 : Hid (Vw W4 l.D F.length 1 (octs F)) := Lib.hid (by rw [hW4]; exact VD3.out.far _ hnD)
  have S4 : Hid (Sl W4 TG 2 Y N.length yc (gcs N)) := Lib.hid (by rw [hW4]; exact S3.out.far _ (fun hm => by have := B3.out _ hm; have := BP2.out.lt; simp only at *; omega))
  have g0 : W4.cell? ⟨q3, 0, none⟩ = some (.int .i64 a) := bg.cell 0
  have g1 : W4.cell? ⟨q3, 1, none⟩ = some (.int .i64 bb) := bg.cell 1
  have BP4 := Lib.hid bp
  clear hW4 bp bg z15 z15f
  go_wp2_with fail
  refine (spiece_w _ p F c ⟨l.D, l.dc, Y, yc⟩ { S with wd := N } a bb hab hbn hn VD4.out HDC.out BP4.out).mono ?_
  rintro e W5 ⟨X, xc, rfl, hs5, hk5, hf5⟩
  have S5 := Lib.hid hs5
  have BP5 := Lib.hid (BP4.out.keepS hk5 (by simp))
  have BQ5 := Lib.hid (BQ4.out.keepS hk5 (by simp))
  have Y5 := Lib.hid (S4.out.keep0 hk5)
  have K5 : Hid (Keep w.heap.size [p] w W5) := Lib.hid (KA4.out.trans (hk5.mono KA4.out.size (by simp)))
  have F5 : Hid (∀ y, y ∈ blks X → W4.heap.size ≤ y) := Lib.hid hf5
  clear hs5 hk5 hf5
  go_wp2_with (refine wpList_store_mid rfl TP (.tmp 2) (.tmp 36) rfl q 0 (pcs (upd F (.pc a bb)) (pcl X (bb - a) xc)) rfl rfl (by refine thereQ ?_; repeat (first | with_reducible exact BQ5.out | refine Blk.far ?_ hqp _)) infoPd (by exact upd_cells _ _) ?_)
  refine bodyPost_ret (res_again _ _ q (upd F (.pc a bb)) (pcl X (bb - a) xc) rfl (by refine Blk.setAll (cs := zcs) (vs := pcs (upd F (.pc a bb)) (pcl X (bb - a) xc)) ?_ rfl; repeat (first | with_reducible exact BQ5.out | refine Blk.far ?_ hqp _))) rfl ?_
  have e1 : r3.f.toNat = a := by rw [HA.out]; rfl
  have e2 : (min r3.t (r3.f + (c : Int))).toNat = bb := by rw [HA.out, HBB.out]; rfl
  unfold AgPost
  rw [e1, e2]
  have kq : Keep W5.heap.size [q] W5 (W5.setCells q 0 (pcs (upd F (.pc a bb)) (pcl X (bb - a) xc)).toList) := Keep.setCells (.inr (by simp)) _ _ _ (Keep.refl _ _ _)
  have hx : ∀ y, y ∈ blks X → y ∉ [q] := fun y hy => by have := F5.out y hy; have := BQ4.out.lt; simp; omega
  have hy : ∀ y, y ∈ blks Y → y ∉ [q] := fun y hy => by have := B3.out y hy; have := BQ2.out.lt; simp; omega
  exact ⟨X, xc, N, Y, yc, rfl, S5.out.keepS kq hx, N3.out, fun z => by rw [HA.out, HBB.out]; exact M3.out z, Blk.setCellsFar hpq _ _ _ BP5.out, Y5.out.keepS kq hy, Keep.setCells (.inl (by rw [HQ.out]; exact Nat.le_refl _)) _ _ _ K5.out, fun y hy => Nat.le_trans KA4.out.size (F5.out y hy), fun y hy => Nat.le_trans KA2.out.size (B3.out y hy)⟩
set_option maxRecDepth 100000 in
set_option maxHeartbeats 2000000 in
theorem sforward_md (w : World) (p : Nat) (F : List Int) (c : Nat) (l : Ly) (S : Sr) (hst : S.st = false) (hb : Blk w p TS (scs F c l S)) : Calls Try.prog 85 #[ptr p] w fun e w' => e = .returned (.agg (pcs (upd F .md) zL)) ∧ Blk w' p TS (scs F c l { S with st := true }) ∧ Keep w.heap.size [p] w w' := by
  have HB := Lib.hid hb
  clear hb
  go_enter Try.func85, Try.ntmps85
  go_upto_region 1 with fail
  obtain ⟨W, q, hW, hq, bq, ka⟩ := newPd w
  have bp := HB.out.keepS ka (by simp)
  have hpq : p ≠ q := by have := HB.out.lt; omega
  have hqp : q ≠ p := hpq.symm
  change Code.wp _ _ _ _ (w.alloc (.cells zcs TP))
  rw [← hW, ← hq]
  have HQ := Lib.hid hq
  clear hW hq
  have c12 : W.cell? ⟨p, 12, none⟩ = some (.bool S.st) := bp.cell 12
  have fc12 := bp.frozen 12
  have BP := Lib.hid bp
  have BQ := Lib.hid bq
  have KA := Lib.hid ka
  clear bp bq ka
  rw [hst] at c12
  go_wp2_with fail
  have BP1 : Hid (Blk (W.setCell ⟨p, 12, none⟩ (.bool true)) p TS (scs F c l { S with st := true })) := Lib.hid (BP.out.set_ 12 _)
  have KA1 : Hid (Keep w.heap.size [p] w (W.setCell ⟨p, 12, none⟩ (.bool true))) := Lib.hid ((KA.out.mono (S' := [p]) (Nat.le_refl _) (by simp)).set1)
  have BQ1 : Hid (Blk (W.setCell ⟨p, 12, none⟩ (.bool true)) q TP zcs) := Lib.hid (BQ.out.far hqp _)
  refine (metadata_w _ p F c l { S with st := true } BP1.out).mono ?_
  rintro e W2 ⟨rfl, hk2⟩
  have BP2 := Lib.hid (BP1.out.keepS hk2 (by simp))
  have BQ2 := Lib.hid (BQ1.out.keepS hk2 (by simp))
  have K2 : Hid (Keep w.heap.size [p] w W2) := Lib.hid (KA1.out.trans (hk2.mono KA1.out.size (by simp)))
  clear hk2
  go_wp2_with (refine wpList_store_mid rfl TP (.tmp 2) (.tmp 13) rfl q 0 (pcs (upd F .md) zL) rfl rfl (by refine thereQ ?_; repeat (first | with_reducible exact BQ2.out | refine Blk.far ?_ hqp _)) infoPd (by exact upd_cells _ _) ?_)
  refine bodyPost_ret (res_forward _ _ q (upd F .md) (zL) rfl (by refine Blk.setAll (cs := zcs) (vs := pcs (upd F .md) (zL)) ?_ rfl; repeat (first | with_reducible exact BQ2.out | refine Blk.far ?_ hqp _))) rfl ?_
  exact ⟨rfl, Blk.setCellsFar hpq _ _ _ BP2.out, Keep.setCells (.inl (by rw [HQ.out]; exact Nat.le_refl _)) _ _ _  K2.out⟩
def FpPost (w : World) (p : Nat) (F : List Int) (c : Nat) (l : Ly) (S : Sr) (e : Ending) (w' : World) : Prop :=
  ∃ X xc, e = .returned (.agg (pcs (upd F (.pc S.pos (min (S.pos + c) F.length))) (pcl X (min (S.pos + c) F.length - S.pos) xc))) ∧ Sl w' 5 1 X (min (S.pos + c) F.length - S.pos) xc (octs ((F.drop S.pos).take (min (S.pos + c) F.length - S.pos))) ∧ Blk w' p TS (scs F c l { S with pos := min (S.pos + c) F.length }) ∧ Keep w.heap.size [p] w w' ∧ ∀ y, y ∈ blks X → w.heap.size ≤ y
set_option maxRecDepth 100000 in
set_option maxHeartbeats 2000000 in
theorem sforward_pc (w : World) (p : Nat) (F : List Int) (c : Nat) (l : Ly) (S : Sr) (hst : S.st = true) (hpos : S.pos < F.length) (hc : 1 ≤ c) (hc2 : c ≤ 512) (hn : F.length ≤ 300) (hd : Vw w l.D F.length 1 (octs F)) (hdc : F.length ≤ l.dc ∧ l.dc ≤ maxLen) (hnD : p ∉ blks l.D) (hb : Blk w p TS (scs F c l S)) : Calls Try.prog 85 #[ptr p] w fun e w' => FpPost w p F c l S e w' := by
  have HB := Lib.hid hb
  have HD := Lib.hid hd
  have HDC := Lib.hid hdc
  obtain ⟨bb, hbb⟩ : ∃ bb : Nat, min (S.pos + c) F.length = bb := ⟨_, rfl⟩
  have hmi : min ((S.pos : Int) + (c : Int)) (F.length : Int) = (bb : Int) := by omega
  have hab : S.pos < bb := by omega
  have hbn : bb ≤ F.length := by omega
  have ew : IntKind.i64.wrap ((S.pos : Int) + (c : Int)) = (S.pos : Int) + (c : Int) := i64k (by omega) (by omega)
  have hposI : (S.pos : Int) < (F.length : Int) := by omega
  unfold FpPost
  rw [hbb]
  clear hb hd hdc hbb
  go_enter Try.func85, Try.ntmps85
  go_upto_region 1 with fail
  obtain ⟨W, q, hW, hq, bq, ka⟩ := newPd w
  have bp := HB.out.keepS ka (by simp)
  have hpq : p ≠ q := by have := HB.out.lt; omega
  have hqp : q ≠ p := hpq.symm
  change Code.wp _ _ _ _ (w.alloc (.cells zcs TP))
  rw [← hW, ← hq]
  have HQ := Lib.hid hq
  clear hW hq
  have c5 : W.cell? ⟨p, 5, none⟩ = some (.slice l.D F.length l.dc) := bp.cell 5
  have c6 : W.cell? ⟨p, 6, none⟩ = some (.int .i64 c) := bp.cell 6
  have c10 : W.cell? ⟨p, 10, none⟩ = some (.int .i64 S.ph) := bp.cell 10
  have c12 : W.cell? ⟨p, 12, none⟩ = some (.bool S.st) := bp.cell 12
  have c13 : W.cell? ⟨p, 13, none⟩ = some (.int .i64 S.pos) := bp.cell 13
  have fc13 := bp.frozen 13
  have VD := Lib.hid (HD.out.keep0 ka)
  have BP := Lib.hid bp
  have BQ := Lib.hid bq
  have KA := Lib.hid ka
  clear bp bq ka
  rw [hst] at c12
  go_upto_region 6 with fail
  have y0 : W.drew.cell? ⟨p, 5, none⟩ = some (.slice l.D F.length l.dc) ∧ W.drew.cell? ⟨p, 6, none⟩ = some (.int .i64 c) ∧ W.drew.cell? ⟨p, 13, none⟩ = some (.int .i64 S.pos) := ⟨c5, c6, c13⟩
  refine region_anyZ 16 (S := (fun w' => w'.cell? ⟨p, 5, none⟩ = some (.slice l.D F.length l.dc) ∧ w'.cell? ⟨p, 6, none⟩ = some (.int .i64 c) ∧ w'.cell? ⟨p, 13, none⟩ = some (.int .i64 S.pos))) (by kernel_rfl) (by exact y0) (fun hHeld => ?_)
  refine tkZ (i := 0) (oi := { dst := some 25, op := Op.move (Operand.tmp 0), type := 76, pos := _, after := _, guard := none }) rfl hHeld ?_
  (try simp only [Act.put, List.setIfInBounds_toArray, List.set_cons_zero, List.set_cons_succ])
  refine tkZ (i := 1) (oi := { dst := some 26, op := Op.move (Operand.tmp 3), type := 3, pos := _, after := _, guard := none }) rfl hHeld ?_
  (try simp only [Act.put, List.setIfInBounds_toArray, List.set_cons_zero, List.set_cons_succ])
  refine tkZ (i := 2) (oi := { dst := some 27, op := Op.move (Operand.tmp 0), type := 76, pos := _, after := _, guard := none }) rfl hHeld ?_
  (try simp only [Act.put, List.setIfInBounds_toArray, List.set_cons_zero, List.set_cons_succ])
  refine tkZ (i := 3) (oi := { dst := some 28, op := Op.nilCheck (Operand.tmp 27), type := 0, pos := _, after := _, guard := none }) rfl hHeld ?_
  (try simp only [Act.put, List.setIfInBounds_toArray, List.set_cons_zero, List.set_cons_succ])
  refine tkZ (i := 4) (oi := { dst := some 29, op := Op.fieldAddr 148 (Operand.tmp 28) 5, type := 0, pos := _, after := _, guard := none }) rfl hHeld ?_
  (try simp only [Act.put, List.setIfInBounds_toArray, List.set_cons_zero, List.set_cons_succ])
  refine tkZ (i := 5) (oi := { dst := some 30, op := Op.fieldAddr 73 (Operand.tmp 29) 0, type := 0, pos := _, after := _, guard := none }) rfl hHeld ?_
  (try simp only [Act.put, List.setIfInBounds_toArray, List.set_cons_zero, List.set_cons_succ])
  refine tkZ (i := 6) (oi := { dst := some 31, op := Op.load 3 (Operand.tmp 30), type := 3, pos := _, after := _, guard := none }) rfl hHeld ?_
  (try simp only [Act.put, List.setIfInBounds_toArray, List.set_cons_zero, List.set_cons_succ])
  refine tkZ (i := 7) (oi := { dst := some 32, op := Op.binOp BinOp.add 3 (Operand.tmp 26) (Operand.tmp 31) 3, type := 3, pos := _, after := _, guard := none }) rfl hHeld ?_
  (try simp only [Act.put, List.setIfInBounds_toArray, List.set_cons_zero, List.set_cons_succ])
  refine tkZ (i := 8) (oi := { dst := some 33, op := Op.move (Operand.tmp 0), type := 76, pos := _, after := _, guard := none }) rfl hHeld ?_
  (try simp only [Act.put, List.setIfInBounds_toArray, List.set_cons_zero, List.set_cons_succ])
  refine tkZ (i := 9) (oi := { dst := some 34, op := Op.nilCheck (Operand.tmp 33), type := 0, pos := _, after := _, guard := none }) rfl hHeld ?_
  (try simp only [Act.put, List.setIfInBounds_toArray, List.set_cons_zero, List.set_cons_succ])
  refine tkZ (i := 10) (oi := { dst := some 35, op := Op.fieldAddr 148 (Operand.tmp 34) 4, type := 0, pos := _, after := _, guard := none }) rfl hHeld ?_
  (try simp only [Act.put, List.setIfInBounds_toArray, List.set_cons_zero, List.set_cons_succ])
  refine tkZ (i := 11) (oi := { dst := some 36, op := Op.load 35 (Operand.tmp 35), type := 35, pos := _, after := _, guard := none }) rfl hHeld ?_
  (try simp only [Act.put, List.setIfInBounds_toArray, List.set_cons_zero, List.set_cons_succ])
  refine tkZ (i := 12) (oi := { dst := some 37, op := Op.call { callee := Callee.builtin Builtin.len, args := #[Operand.tmp 36], argTypes := #[35] }, type := 3, pos := _, after := _, guard := none }) rfl hHeld ?_
  (try simp only [Act.put, List.setIfInBounds_toArray, List.set_cons_zero, List.set_cons_succ])
  refine tkZ (i := 13) (oi := { dst := some 38, op := Op.call { callee := Callee.builtin Builtin.min, args := #[Operand.tmp 32, Operand.tmp 37], argTypes := #[3, 3] }, type := 3, pos := _, after := _, guard := none }) rfl hHeld ?_
  (try simp only [Act.put, List.setIfInBounds_toArray, List.set_cons_zero, List.set_cons_succ])
  refine anyZ.takeU (i := 14) (oi := { dst := some 39, op := Op.nilCheck (Operand.tmp 25), type := 0, pos := _, after := _, guard := none }) (v := _) rfl (by decide) (by kernel_rfl) (by kernel_rfl) (by kernel_rfl) (fun _ _ _ h => h) (Or.inl ⟨by rfl, by (intro wS hSw; (try dsimp only at hSw); go_simp; try with_reducible rfl)⟩) (by exact hHeld) ?_
  (try simp only [Act.put, List.setIfInBounds_toArray, List.set_cons_zero, List.set_cons_succ])
  refine tkZ (i := 15) (oi := { dst := some 40, op := Op.fieldAddr 148 (Operand.tmp 39) 10, type := 0, pos := _, after := _, guard := none }) rfl hHeld ?_
  (try simp only [Act.put, List.setIfInBounds_toArray, List.set_cons_zero, List.set_cons_succ])
  refine anyZ.ready (rs := [16]) (by kernel_rfl) (by simp) ?_
  refine (AllZ.cons (o := { dst := none, op := Op.store 3 (Operand.tmp 40) (Operand.tmp 38), type := 0, pos := _, after := _, guard := none }) rfl (fun K hK => ?_) AllZ.nil)
  go_simp
  refine hK.out _ _ (fun h => absurd h (by decide)) (fun hHeld => ?_)
  clear hK K
  (try simp only [Act.put, List.setIfInBounds_toArray, List.set_cons_zero, List.set_cons_succ])
  refine anyZ.done (by kernel_rfl) ?_ _
  clear hHeld
  clear y0
  obtain ⟨W2, hW2⟩ : ∃ V, V = (W.setCell ⟨p, 13, none⟩ (.int .i64 (bb : Int))).drew := ⟨_, rfl⟩
  rw [← hW2]
  have bp : Blk W2 p TS (scs F c l { S with pos := bb }) := by rw [hW2]; exact (BP.out.set_ 13 _).drew
  have BQ2 : Hid (Blk W2 q TP zcs) := Lib.hid (by rw [hW2]; exact (BQ.out.far hqp _).drew)
  have KA2 : Hid (Keep w.heap.size [p] w W2) := Lib.hid (by rw [hW2]; exact ((KA.out.mono (S' := [p]) (Nat.le_refl _) (by simp)).set1).drew)
  have VD2 : Hid (Vw W2 l.D F.length 1 (octs F)) := Lib.hid (by rw [hW2]; exact (VD.out.far _ hnD).drew)
  clear c13 fc13
  have c13 : W2.cell? ⟨p, 13, none⟩ = some (.int .i64 bb) := bp.cell 13
  have BP2 := Lib.hid bp
  clear hW2 bp c5 c6 c10 c12
  go_wp2_with fail
  refine (spiece_w _ p F c l { S with pos := bb } S.pos bb hab hbn hn VD2.out HDC.out BP2.out).mono ?_
  rintro e W5 ⟨X, xc, rfl, hs5, hk5, hf5⟩
  have S5 := Lib.hid hs5
  have BP5 := Lib.hid (BP2.out.keepS hk5 (by simp))
  have BQ5 := Lib.hid (BQ2.out.keepS hk5 (by simp))
  have K5 : Hid (Keep w.heap.size [p] w W5) := Lib.hid (KA2.out.trans (hk5.mono KA2.out.size (by simp)))
  have F5 : Hid (∀ y, y ∈ blks X → W2.heap.size ≤ y) := Lib.hid hf5
  clear hs5 hk5 hf5
  go_wp2_with (refine wpList_store_mid rfl TP (.tmp 2) (.tmp 47) rfl q 0 (pcs (upd F (.pc S.pos bb)) (pcl X (bb - S.pos) xc)) rfl rfl (by refine thereQ ?_; repeat (first | with_reducible exact BQ5.out | refine Blk.far ?_ hqp _)) infoPd (by exact upd_cells _ _) ?_)
  refine bodyPost_ret (res_forward _ _ q (upd F (.pc S.pos bb)) (pcl X (bb - S.pos) xc) rfl (by refine Blk.setAll (cs := zcs) (vs := pcs (upd F (.pc S.pos bb)) (pcl X (bb - S.pos) xc)) ?_ rfl; repeat (first | with_reducible exact BQ5.out | refine Blk.far ?_ hqp _))) rfl ?_
  have kq : Keep W5.heap.size [q] W5 (W5.setCells q 0 (pcs (upd F (.pc S.pos bb)) (pcl X (bb - S.pos) xc)).toList) := Keep.setCells (.inr (by simp)) _ _ _ (Keep.refl _ _ _)
  have hx : ∀ y, y ∈ blks X → y ∉ [q] := fun y hy => by have := F5.out y hy; have := BQ2.out.lt; simp; omega
  exact ⟨X, xc, rfl, S5.out.keepS kq hx, Blk.setCellsFar hpq _ _ _ BP5.out, Keep.setCells (.inl (by rw [HQ.out]; exact Nat.le_refl _)) _ _ _  K5.out, fun y hy => Nat.le_trans KA2.out.size (F5.out y hy)⟩
set_option maxRecDepth 100000 in
set_option maxHeartbeats 2000000 in
theorem sforward_ef (w : World) (p : Nat) (F : List Int) (c : Nat) (l : Ly) (S : Sr) (hst : S.st = true) (hpos : F.length ≤ S.pos) (hn : F.length ≤ 300) (hd : Vw w l.D F.length 1 (octs F)) (hdc : F.length ≤ l.dc) (ho : Oct F) (hnD : p ∉ blks l.D) (hb : Blk w p TS (scs F c l S)) : Calls Try.prog 85 #[ptr p] w fun e w' => e = .returned (.agg (pcs (upd F .ef) zL)) ∧ Blk w' p TS (scs F c l { S with ph := 1, tm := S.now, tr := 0 }) ∧ Keep w.heap.size [p] w w' := by
  have HB := Lib.hid hb
  have HD := Lib.hid hd
  have HO := Lib.hid ho
  have hposI : (F.length : Int) ≤ (S.pos : Int) := by omega
  clear hb hd ho
  go_enter Try.func85, Try.ntmps85
  go_upto_region 1 with fail
  obtain ⟨W, q, hW, hq, bq, ka⟩ := newPd w
  have bp := HB.out.keepS ka (by simp)
  have hpq : p ≠ q := by have := HB.out.lt; omega
  have hqp : q ≠ p := hpq.symm
  change Code.wp _ _ _ _ (w.alloc (.cells zcs TP))
  rw [← hW, ← hq]
  have HQ := Lib.hid hq
  clear hW hq
  have c3 : W.cell? ⟨p, 3, none⟩ = some (.int .i64 2) := bp.cell 3
  have c5 : W.cell? ⟨p, 5, none⟩ = some (.slice l.D F.length l.dc) := bp.cell 5
  have c9 : W.cell? ⟨p, 9, none⟩ = some (.int .i64 S.now) := bp.cell 9
  have c10 : W.cell? ⟨p, 10, none⟩ = some (.int .i64 S.ph) := bp.cell 10
  have c12 : W.cell? ⟨p, 12, none⟩ = some (.bool S.st) := bp.cell 12
  have c13 : W.cell? ⟨p, 13, none⟩ = some (.int .i64 S.pos) := bp.cell 13
  have c17 : W.cell? ⟨p, 17, none⟩ = some (.int .i64 S.tm) := bp.cell 17
  have c18 : W.cell? ⟨p, 18, none⟩ = some (.int .i64 S.tr) := bp.cell 18
  have fc10 := bp.frozen 10
  have fc17 := bp.frozen 17
  have fc18 := bp.frozen 18
  have VD := Lib.hid (HD.out.keep0 ka)
  have BP := Lib.hid bp
  have BQ := Lib.hid bq
  have KA := Lib.hid ka
  clear bp bq ka
  rw [hst] at c12
  go_wp2_with fail
  have BP2 : Hid (Blk ((((W.setCell ⟨p, 10, none⟩ (.int .i64 4)).setCell ⟨p, 10, none⟩ (.int .i64 1)).setCell ⟨p, 17, none⟩ (.int .i64 S.now)).setCell ⟨p, 18, none⟩ (.int .i64 0)) p TS (scs F c l { S with ph := 1, tm := S.now, tr := 0 })) := Lib.hid ((((BP.out.set_ 10 _).set_ 10 _).set_ 17 _).set_ 18 _)
  have BQ2 : Hid (Blk ((((W.setCell ⟨p, 10, none⟩ (.int .i64 4)).setCell ⟨p, 10, none⟩ (.int .i64 1)).setCell ⟨p, 17, none⟩ (.int .i64 S.now)).setCell ⟨p, 18, none⟩ (.int .i64 0)) q TP zcs) := Lib.hid ((((BQ.out.far hqp _).far hqp _).far hqp _).far hqp _)
  have KA2 : Hid (Keep w.heap.size [p] w ((((W.setCell ⟨p, 10, none⟩ (.int .i64 4)).setCell ⟨p, 10, none⟩ (.int .i64 1)).setCell ⟨p, 17, none⟩ (.int .i64 S.now)).setCell ⟨p, 18, none⟩ (.int .i64 0))) := Lib.hid (((((KA.out.mono (S' := [p]) (Nat.le_refl _) (by simp)).set1).set1).set1).set1)
  have VD2 : Hid (Vw ((((W.setCell ⟨p, 10, none⟩ (.int .i64 4)).setCell ⟨p, 10, none⟩ (.int .i64 1)).setCell ⟨p, 17, none⟩ (.int .i64 S.now)).setCell ⟨p, 18, none⟩ (.int .i64 0)) l.D F.length 1 (octs F)) := Lib.hid ((((VD.out.far _ hnD).far _ hnD).far _ hnD).far _ hnD)
  refine (eof_w _ p F c l { S with ph := 1, tm := S.now, tr := 0 } hn VD2.out hdc HO.out BP2.out).mono ?_
  rintro e W5 ⟨rfl, hk5⟩
  have BP5 := Lib.hid (BP2.out.keepS hk5 (by simp))
  have BQ5 := Lib.hid (BQ2.out.keepS hk5 (by simp))
  have K5 : Hid (Keep w.heap.size [p] w W5) := Lib.hid (KA2.out.trans (hk5.mono KA2.out.size (by simp)))
  clear hk5
  go_wp2_with (refine wpList_store_mid rfl TP (.tmp 2) (.tmp 70) rfl q 0 (pcs (upd F .ef) zL) rfl rfl (by refine thereQ ?_; repeat (first | with_reducible exact BQ5.out | refine Blk.far ?_ hqp _)) infoPd (by exact upd_cells _ _) ?_)
  refine bodyPost_ret (res_forward _ _ q (upd F .ef) (zL) rfl (by refine Blk.setAll (cs := zcs) (vs := pcs (upd F .ef) (zL)) ?_ rfl; repeat (first | with_reducible exact BQ5.out | refine Blk.far ?_ hqp _))) rfl ?_
  exact ⟨rfl, Blk.setCellsFar hpq _ _ _ BP5.out, Keep.setCells (.inl (by rw [HQ.out]; exact Nat.le_refl _)) _ _ _  K5.out⟩
set_option maxRecDepth 100000 in
set_option maxHeartbeats 2000000 in
theorem srepeat_acked (w : World) (p : Nat) (F : List Int) (c : Nat) (l : Ly) (S : Sr) (hp : S.ph = 1) (ha : S.ack = true) (hb : Blk w p TS (scs F c l S)) : Calls Try.prog 86 #[ptr p] w fun e w' => e = .returned (.tuple #[.agg (pcs zP zL), .bool false]) ∧ Keep w.heap.size [] w w' := by
  have HB := Lib.hid hb
  have hpI : (S.ph : Int) = 1 := by omega
  clear hb
  go_enter Try.func86, Try.ntmps86
  go_upto_region 1 with fail
  obtain ⟨W, q, hW, hq, bq, ka⟩ := newPd w
  have bp := HB.out.keepS ka (by simp)
  have hpq : p ≠ q := by have := HB.out.lt; omega
  have hqp : q ≠ p := hpq.symm
  change Code.wp _ _ _ _ (w.alloc (.cells zcs TP))
  rw [← hW, ← hq]
  have HQ := Lib.hid hq
  clear hW hq
  have c7 : W.cell? ⟨p, 7, none⟩ = some (.int .i64 10) := bp.cell 7
  have c9 : W.cell? ⟨p, 9, none⟩ = some (.int .i64 S.now) := bp.cell 9
  have c10 : W.cell? ⟨p, 10, none⟩ = some (.int .i64 S.ph) := bp.cell 10
  have c16 : W.cell? ⟨p, 16, none⟩ = some (.bool S.ack) := bp.cell 16
  have c17 : W.cell? ⟨p, 17, none⟩ = some (.int .i64 S.tm) := bp.cell 17
  have BP := Lib.hid bp
  have BQ := Lib.hid bq
  have KA := Lib.hid ka
  clear bp bq ka
  rw [hpI] at c10
  rw [ha] at c16
  go_quiet (fail)
  go_wp2_with (refine wpList_store_mid rfl TP (.tmp 2) (.tmp 32) rfl q 0 (pcs zP zL) rfl rfl (by refine thereQ ?_; repeat (first | with_reducible exact BQ.out.drewN _ | refine Blk.far ?_ hqp _)) infoPd (by exact upd_cells _ _) ?_)
  refine bodyPost_ret (res_repeat _ _ q (zP) (zL) false rfl rfl (by refine Blk.setAll (cs := zcs) (vs := pcs (zP) (zL)) ?_ rfl; repeat (first | with_reducible exact BQ.out.drewN _ | refine Blk.far ?_ hqp _))) rfl ?_
  exact ⟨rfl, Keep.setCells (.inl (by rw [HQ.out]; exact Nat.le_refl _)) _ _ _  (KA.out.drewN _)⟩
set_option maxRecDepth 100000 in
set_option maxHeartbeats 2000000 in
theorem srepeat_early (w : World) (p : Nat) (F : List Int) (c : Nat) (l : Ly) (S : Sr) (hp : S.ph = 1) (ha : S.ack = false) (ht : S.now < S.tm + 10) (hn : S.tm ≤ 1000) (hb : Blk w p TS (scs F c l S)) : Calls Try.prog 86 #[ptr p] w fun e w' => e = .returned (.tuple #[.agg (pcs zP zL), .bool false]) ∧ Keep w.heap.size [] w w' := by
  have HB := Lib.hid hb
  have hpI : (S.ph : Int) = 1 := by omega
  have htI : (S.now : Int) < (S.tm : Int) + 10 := by omega
  have ew : IntKind.i64.wrap ((S.tm : Int) + 10) = (S.tm : Int) + 10 := i64k (by omega) (by omega)
  clear hb
  go_enter Try.func86, Try.ntmps86
  go_upto_region 1 with fail
  obtain ⟨W, q, hW, hq, bq, ka⟩ := newPd w
  have bp := HB.out.keepS ka (by simp)
  have hpq : p ≠ q := by have := HB.out.lt; omega
  have hqp : q ≠ p := hpq.symm
  change Code.wp _ _ _ _ (w.alloc (.cells zcs TP))
  rw [← hW, ← hq]
  have HQ := Lib.hid hq
  clear hW hq
  have c7 : W.cell? ⟨p, 7, none⟩ = some (.int .i64 10) := bp.cell 7
  have c9 : W.cell? ⟨p, 9, none⟩ = some (.int .i64 S.now) := bp.cell 9
  have c10 : W.cell? ⟨p, 10, none⟩ = some (.int .i64 S.ph) := bp.cell 10
  have c16 : W.cell? ⟨p, 16, none⟩ = some (.bool S.ack) := bp.cell 16
  have c17 : W.cell? ⟨p, 17, none⟩ = some (.int .i64 S.tm) := bp.cell 17
  have BP := Lib.hid bp
  have BQ := Lib.hid bq
  have KA := Lib.hid ka
  clear bp bq ka
  rw [hpI] at c10
  rw [ha] at c16
  go_quiet (fail)
  go_wp2_with (refine wpList_store_mid rfl TP (.tmp 2) (.tmp 32) rfl q 0 (pcs zP zL) rfl rfl (by refine thereQ ?_; repeat (first | with_reducible exact BQ.out.drewN _ | refine Blk.far ?_ hqp _)) infoPd (by exact upd_cells _ _) ?_)
  refine bodyPost_ret (res_repeat _ _ q (zP) (zL) false rfl rfl (by refine Blk.setAll (cs := zcs) (vs := pcs (zP) (zL)) ?_ rfl; repeat (first | with_reducible exact BQ.out.drewN _ | refine Blk.far ?_ hqp _))) rfl ?_
  exact ⟨rfl, Keep.setCells (.inl (by rw [HQ.out]; exact Nat.le_refl _)) _ _ _  (KA.out.drewN _)⟩
set_option maxRecDepth 100000 in
set_option maxHeartbeats 2000000 in
theorem srepeat_yes (w : World) (p : Nat) (F : List Int) (c : Nat) (l : Ly) (S : Sr) (hp : S.ph = 1) (ha : S.ack = false) (ht : S.tm + 10 ≤ S.now) (hnw : S.now ≤ 1000) (htr : S.tr < 50) (hn : F.length ≤ 300) (hd : Vw w l.D F.length 1 (octs F)) (hdc : F.length ≤ l.dc) (ho : Oct F) (hnD : p ∉ blks l.D) (hb : Blk w p TS (scs F c l S)) : Calls Try.prog 86 #[ptr p] w fun e w' => e = .returned (.tuple #[.agg (pcs (upd F .ef) zL), .bool true]) ∧ Blk w' p TS (scs F c l { S with tm := S.now, tr := S.tr + 1 }) ∧ Keep w.heap.size [p] w w' := by
  have HB := Lib.hid hb
  have HD := Lib.hid hd
  have HO := Lib.hid ho
  have hpI : (S.ph : Int) = 1 := by omega
  have htI : (S.tm : Int) + 10 ≤ (S.now : Int) := by omega
  have htrI : (S.tr : Int) < 50 := by omega
  have ew : IntKind.i64.wrap ((S.tm : Int) + 10) = (S.tm : Int) + 10 := i64k (by omega) (by omega)
  have ew2 : IntKind.i64.wrap ((S.tr : Int) + 1) = ((S.tr + 1 : Nat) : Int) := by rw [i64k (by omega) (by omega)]; omega
  clear hb hd ho
  go_enter Try.func86, Try.ntmps86
  go_upto_region 1 with fail
  obtain ⟨W, q, hW, hq, bq, ka⟩ := newPd w
  have bp := HB.out.keepS ka (by simp)
  have hpq : p ≠ q := by have := HB.out.lt; omega
  have hqp : q ≠ p := hpq.symm
  change Code.wp _ _ _ _ (w.alloc (.cells zcs TP))
  rw [← hW, ← hq]
  have HQ := Lib.hid hq
  clear hW hq
  have c7 : W.cell? ⟨p, 7, none⟩ = some (.int .i64 10) := bp.cell 7
  have c8 : W.cell? ⟨p, 8, none⟩ = some (.int .i64 50) := bp.cell 8
  have c9 : W.cell? ⟨p, 9, none⟩ = some (.int .i64 S.now) := bp.cell 9
  have c10 : W.cell? ⟨p, 10, none⟩ = some (.int .i64 S.ph) := bp.cell 10
  have c16 : W.cell? ⟨p, 16, none⟩ = some (.bool S.ack) := bp.cell 16
  have c17 : W.cell? ⟨p, 17, none⟩ = some (.int .i64 S.tm) := bp.cell 17
  have c18 : W.cell? ⟨p, 18, none⟩ = some (.int .i64 S.tr) := bp.cell 18
  have fc17 := bp.frozen 17
  have fc18 := bp.frozen 18
  have VD := Lib.hid (HD.out.keep0 ka)
  have BP := Lib.hid bp
  have BQ := Lib.hid bq
  have KA := Lib.hid ka
  clear bp bq ka
  rw [hpI] at c10
  rw [ha] at c16
  clear htrI
  go_quiet (fail)
  rename Nat => n1
  have htrI : (S.tr : Int) < 50 := by omega
  go_upto_region 3 with fail
  go_quiet (fail)
  go_wp2_with fail
  have BP2 : Hid (Blk (((W.drewN (n1 + nq)).setCell ⟨p, 18, none⟩ (.int .i64 ((S.tr : Int) + 1))).setCell ⟨p, 17, none⟩ (.int .i64 S.now)) p TS (scs F c l { S with tm := S.now, tr := S.tr + 1 })) := Lib.hid (((BP.out.drewN _).set_ 18 _).set_ 17 _)
  have BQ2 : Hid (Blk (((W.drewN (n1 + nq)).setCell ⟨p, 18, none⟩ (.int .i64 ((S.tr : Int) + 1))).setCell ⟨p, 17, none⟩ (.int .i64 S.now)) q TP zcs) := Lib.hid (((BQ.out.drewN _).far hqp _).far hqp _)
  have KA2 : Hid (Keep w.heap.size [p] w (((W.drewN (n1 + nq)).setCell ⟨p, 18, none⟩ (.int .i64 ((S.tr : Int) + 1))).setCell ⟨p, 17, none⟩ (.int .i64 S.now))) := Lib.hid (((((KA.out.mono (S' := [p]) (Nat.le_refl _) (by simp))).drewN _).set1).set1)
  have VD2 : Hid (Vw (((W.drewN (n1 + nq)).setCell ⟨p, 18, none⟩ (.int .i64 ((S.tr : Int) + 1))).setCell ⟨p, 17, none⟩ (.int .i64 S.now)) l.D F.length 1 (octs F)) := Lib.hid (((VD.out.drewN _).far _ hnD).far _ hnD)
  refine (eof_w _ p F c l { S with tm := S.now, tr := S.tr + 1 } hn VD2.out hdc HO.out BP2.out).mono ?_
  rintro e W5 ⟨rfl, hk5⟩
  have BP5 := Lib.hid (BP2.out.keepS hk5 (by simp))
  have BQ5 := Lib.hid (BQ2.out.keepS hk5 (by simp))
  have K5 : Hid (Keep w.heap.size [p] w W5) := Lib.hid (KA2.out.trans (hk5.mono KA2.out.size (by simp)))
  clear hk5
  go_wp2_with (refine wpList_store_mid rfl TP (.tmp 2) (.tmp 65) rfl q 0 (pcs (upd F .ef) zL) rfl rfl (by refine thereQ ?_; repeat (first | with_reducible exact BQ5.out | refine Blk.far ?_ hqp _)) infoPd (by exact upd_cells _ _) ?_)
  refine bodyPost_ret (res_repeat _ _ q (upd F .ef) (zL) true rfl rfl (by refine Blk.setAll (cs := zcs) (vs := pcs (upd F .ef) (zL)) ?_ rfl; repeat (first | with_reducible exact BQ5.out | refine Blk.far ?_ hqp _))) rfl ?_
  exact ⟨rfl, Blk.setCellsFar hpq _ _ _ BP5.out, Keep.setCells (.inl (by rw [HQ.out]; exact Nat.le_refl _)) _ _ _  K5.out⟩
end Go.Proofs.Ytfkbcflgbjncdaa
