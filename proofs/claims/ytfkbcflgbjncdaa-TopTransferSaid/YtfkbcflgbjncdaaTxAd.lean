/- The receiving end: its block, its small methods. -/
import Derived.Test.YtfkbcflgbjncdaaTxR
import Derived.Test.YtfkbcflgbjncdaaTxAc
import Derived.Test.YtfkbcflgbjncdaaTxAb
namespace Go.Proofs.Ytfkbcflgbjncdaa
set_option linter.unusedVariables false
set_option linter.unusedSimpArgs false
open Go.RowKit
abbrev TK : TypeId := 150
def nmV (b : Bool) : ByteArray := if b then strOfNums plan else ⟨#[]⟩
def szV (F : List Int) (b : Bool) : Int := if b then F.length else 0
def smV (F : List Int) (b : Bool) : Int := if b then sumO F else 0
def kcs (F : List Int) (c : Nat) (l : Ly) (K : Sk) : Array Value := #[.bool true, .int .i64 1, .int .i64 7, .int .i64 2, .int .i64 c, .int .i64 10, .int .i64 50, .int .i64 K.now, .int .i64 K.ph, .bool K.ended, .bool false, .bool K.named, .string (nmV K.named), .int .i64 (szV F K.named), .bool K.fin, .int .i64 (szV F K.fin), .int .u32 (smV F K.fin), .slice l.D K.dat.length l.dc, .slice l.W K.got.length l.wc, .int .i64 K.tm, .int .i64 K.tr, .bool K.ad, .bool K.nd, .bool K.dd, .int .i64 0]
/-- the receiving end in a world -/
structure SkAt (w : World) (p : Nat) (F : List Int) (c : Nat) (l : Ly) (K : Sk) : Prop where
  blk : Blk w p TK (kcs F c l K)
  data : Sl w 5 1 l.D K.dat.length l.dc (octs K.dat)
  oct : Oct K.dat
  nD : p ∉ blks l.D
  got : Sl w TG 2 l.W K.got.length l.wc (gcs K.got)
  nW : p ∉ blks l.W
  nDW : ∀ y, y ∈ blks l.D → y ∉ blks l.W
theorem SkAt.same {w w' : World} {p : Nat} {F : List Int} {c : Nat} {l : Ly} {K K' : Sk} (h : SkAt w p F c l K) (hd : K'.dat = K.dat) (hg : K'.got = K.got) (hb : Blk w' p TK (kcs F c l K')) (k : Keep w.heap.size [p] w w') : SkAt w' p F c l K' :=
  ⟨hb, by rw [hd]; exact h.data.keepS k (fun g hg hm => h.nD (by rw [← List.mem_singleton.1 hm]; exact hg)), by rw [hd]; exact h.oct, h.nD, by rw [hg]; exact h.got.keepS k (fun g hg hm => h.nW (by rw [← List.mem_singleton.1 hm]; exact hg)), h.nW, h.nDW⟩
theorem SkAt.keepS {w w' : World} {p : Nat} {F : List Int} {c : Nat} {l : Ly} {K : Sk} {X : List Nat} (h : SkAt w p F c l K) (k : Keep w.heap.size X w w') (hx : ∀ y, y ∈ sbl p l → y ∉ X) : SkAt w' p F c l K :=
  ⟨h.blk.keepS k (hx p (by simp [sbl])), h.data.keepS k (fun g hg => hx g (by simp [sbl, hg])), h.oct, h.nD, h.got.keepS k (fun g hg => hx g (by simp [sbl, hg])), h.nW, h.nDW⟩
theorem kres_unit (w : World) (tmps : Array Value) (g : Nat) (p : Pd) (l : Lc) (h2 : tmps.getD 4 undef = ptr g) (hb : Blk w g TP (pcs p l)) : (results Try.f94 tmps).run Try.prog w = .ok (.agg (pcs p l)) w := by
  have hl := run_loadVar_mid (P := Try.prog) w g 0 85 (pcs p l).toList _ hb.range Try.underlying85 rfl (by rw [infoPd]; rfl)
  simp only [Array.getD_eq_getD_getElem?] at h2
  simp [results, Try.results94, h2, asAddr, hl]
theorem kres_report (w : World) (tmps : Array Value) (g : Nat) (p : Pd) (l : Lc) (h2 : tmps.getD 2 undef = ptr g) (hb : Blk w g TP (pcs p l)) : (results Try.f135 tmps).run Try.prog w = .ok (.agg (pcs p l)) w := by
  have hl := run_loadVar_mid (P := Try.prog) w g 0 85 (pcs p l).toList _ hb.range Try.underlying85 rfl (by rw [infoPd]; rfl)
  simp only [Array.getD_eq_getD_getElem?] at h2
  simp [results, Try.results135, h2, asAddr, hl]
theorem kres_repeat (w : World) (tmps : Array Value) (g : Nat) (p : Pd) (l : Lc) (b : Bool) (h2 : tmps.getD 2 undef = ptr g) (h3 : tmps.getD 3 undef = .bool b) (hb : Blk w g TP (pcs p l)) : (results Try.f96 tmps).run Try.prog w = .ok (.tuple #[.agg (pcs p l), .bool b]) w := by
  have hl := run_loadVar_mid (P := Try.prog) w g 0 85 (pcs p l).toList _ hb.range Try.underlying85 rfl (by rw [infoPd]; rfl)
  simp only [Array.getD_eq_getD_getElem?] at h2 h3
  simp [results, Try.results96, h2, h3, asAddr, hl]
theorem kres_Next (w : World) (tmps : Array Value) (g : Nat) (p : Pd) (l : Lc) (b : Bool) (h2 : tmps.getD 4 undef = ptr g) (h3 : tmps.getD 5 undef = .bool b) (hb : Blk w g TP (pcs p l)) : (results Try.f34 tmps).run Try.prog w = .ok (.tuple #[.agg (pcs p l), .bool b]) w := by
  have hl := run_loadVar_mid (P := Try.prog) w g 0 85 (pcs p l).toList _ hb.range Try.underlying85 rfl (by rw [infoPd]; rfl)
  simp only [Array.getD_eq_getD_getElem?] at h2 h3
  simp [results, Try.results34, h2, h3, asAddr, hl]
set_option maxRecDepth 100000 in
set_option maxHeartbeats 4000000 in
theorem kok_w (w : World) (p : Nat) (F : List Int) (c : Nat) (l : Ly) (K : Sk) (hb : Blk w p TK (kcs F c l K)) : Calls Try.prog 87 #[ptr p] w fun e w' => e = .returned (.bool true) ∧ w' = w := by
  have c0 : w.cell? ⟨p, 0, none⟩ = some (.bool true) := hb.cell 0
  clear hb
  go_enter Try.func87, Try.ntmps87
  go_wp2_with fail
  go_ret
  exact ⟨rfl, rfl⟩
set_option maxRecDepth 100000 in
set_option maxHeartbeats 4000000 in
theorem kadv_w (w : World) (p : Nat) (F : List Int) (c : Nat) (l : Ly) (K : Sk) (t : Nat) (hs : K.now ≤ t) (ht : t ≤ 1000) (hb : Blk w p TK (kcs F c l K)) : Calls Try.prog 88 #[ptr p, .int .i64 t] w fun e w' => e = .returned (.tuple #[]) ∧ Blk w' p TK (kcs F c l { K with now := t }) ∧ Keep w.heap.size [p] w w' := by
  have c7 : w.cell? ⟨p, 7, none⟩ = some (.int .i64 K.now) := hb.cell 7
  have fc7 := hb.frozen 7
  have HB := Lib.hid hb
  clear hb
  rcases Nat.lt_or_ge K.now t with h | h
  · have h1 : (K.now : Int) < (t : Int) := by omega
    go_enter Try.func88, Try.ntmps88
    go_wp2_with fail
    go_end0
    exact ⟨rfl, HB.out.set_ 7 _, (Keep.refl _ _ _).set1⟩
  · have h2 : K.now = t := by omega
    subst h2
    go_enter Try.func88, Try.ntmps88
    go_wp2_with fail
    go_end0
    exact ⟨rfl, HB.out, Keep.refl _ _ _⟩
set_option maxRecDepth 100000 in
set_option maxHeartbeats 4000000 in
theorem kack_w (w : World) (p : Nat) (F : List Int) (c : Nat) (l : Ly) (K : Sk) (hb : Blk w p TK (kcs F c l K)) : Calls Try.prog 92 #[ptr p] w fun e w' => e = .returned (.bool true) ∧ w' = w := by
  have c3 : w.cell? ⟨p, 3, none⟩ = some (.int .i64 2) := hb.cell 3
  clear hb
  go_enter Try.func92, Try.ntmps92
  go_wp2_with fail
  go_ret
  exact ⟨rfl, rfl⟩
set_option maxRecDepth 100000 in
set_option maxHeartbeats 4000000 in
theorem kprog_w (w : World) (p : Nat) (F : List Int) (c : Nat) (l : Ly) (K : Sk) (hb : Blk w p TK (kcs F c l K)) : Calls Try.prog 93 #[ptr p] w fun e w' => e = .returned (.tuple #[]) ∧ Blk w' p TK (kcs F c l { K with tm := K.now, tr := 0 }) ∧ Keep w.heap.size [p] w w' := by
  have c7 : w.cell? ⟨p, 7, none⟩ = some (.int .i64 K.now) := hb.cell 7
  have c19 : w.cell? ⟨p, 19, none⟩ = some (.int .i64 K.tm) := hb.cell 19
  have c20 : w.cell? ⟨p, 20, none⟩ = some (.int .i64 K.tr) := hb.cell 20
  have fc19 := hb.frozen 19
  have fc20 := hb.frozen 20
  have HB := Lib.hid hb
  clear hb
  go_enter Try.func93, Try.ntmps93
  go_wp2_with fail
  go_end0
  exact ⟨rfl, (HB.out.set_ 19 _).set_ 20 _, ((Keep.refl _ _ _).set1).set1⟩
theorem lastT_snoc (l : List Gp) (g : Gp) : lastT (l ++ [g]) = g.t := by unfold lastT; simp
set_option maxRecDepth 100000 in
set_option maxHeartbeats 4000000 in
theorem klast_w (w : World) (p : Nat) (F : List Int) (c : Nat) (l : Ly) (K : Sk) (hl : K.got.length ≤ 1000) (hg : Vw w l.W K.got.length 2 (gcs K.got)) (hc : K.got.length ≤ l.wc) (hb : Blk w p TK (kcs F c l K)) : Calls Try.prog 101 #[ptr p] w fun e w' => e = .returned (.int .i64 (lastT K.got)) ∧ Keep w.heap.size [] w w' := by
  obtain ⟨N, hN⟩ : ∃ N, N = K.got := ⟨_, rfl⟩
  have c18 : w.cell? ⟨p, 18, none⟩ = some (.slice l.W N.length l.wc) := by rw [hN]; exact hb.cell 18
  rw [← hN] at hg hl hc ⊢
  have HG := Lib.hid hg
  clear hb hN hg
  rcases List.eq_nil_or_concat N with h0 | ⟨I, g, h0⟩
  · subst h0
    have c18' : w.cell? ⟨p, 18, none⟩ = some (.slice l.W 0 l.wc) := c18
    clear c18
    go_enter Try.func101, Try.ntmps101
    go_wp2_with fail
    go_ret
    exact ⟨rfl, Keep.refl _ _ _⟩
  · rw [List.concat_eq_append] at h0
    subst h0
    have hlen : (I ++ [g]).length = I.length + 1 := by simp
    obtain ⟨b, o, g', hW, hg', d0, d1⟩ := gap_at (k := I.length) HG.out (by rw [hlen]; omega)
    have hgg : g' = g := by simpa using hg'.symm
    subst hgg
    rw [lastT_snoc]
    rw [hlen] at c18 hc
    rw [hW] at c18
    have hne : ¬ ((I.length + 1 : Nat) : Int) = 0 := by omega
    have e1 : ((I.length + 1 : Nat) : Int) - 1 = (I.length : Int) := by omega
    have e2 : IntKind.i64.wrap (I.length : Int) = (I.length : Int) := i64k (by omega) (by rw [hlen] at hl; omega)
    obtain ⟨m, hm⟩ : ∃ m : Nat, m = I.length + 1 := ⟨_, rfl⟩
    rw [← hm] at c18 hne e1 hc
    have hmI : (I.length : Int) < (m : Int) := by omega
    have hm0 : (0 : Int) ≤ (I.length : Int) := by omega
    have hmc : (m : Int) ≤ (l.wc : Int) := by omega
    clear d0 hW hg' hlen hm
    go_enter Try.func101, Try.ntmps101
    go_upto_region 3 with fail
    refine wp_region_held_drew (S := (fun w' => w'.cell? ⟨p, 18, none⟩ = some (.slice (some ⟨b, o, none⟩) m l.wc) ∧ w'.cell? ⟨b, o + I.length * 2 + 1, none⟩ = some (.int .i64 g'.t))) (by kernel_rfl) (by exact ⟨c18, d1⟩) (fun hHeld => ?_)
    refine tkH (i := 0) (oi := { dst := some 9, op := Op.move (Operand.tmp 0), type := 79, pos := _, after := _, guard := none }) rfl (by assumption) ?_
    (try simp only [Act.put, List.setIfInBounds_toArray, List.set_cons_zero, List.set_cons_succ])
    refine tkH (i := 1) (oi := { dst := some 10, op := Op.nilCheck (Operand.tmp 9), type := 0, pos := _, after := _, guard := none }) rfl (by assumption) ?_
    (try simp only [Act.put, List.setIfInBounds_toArray, List.set_cons_zero, List.set_cons_succ])
    refine tkH (i := 2) (oi := { dst := some 11, op := Op.fieldAddr 150 (Operand.tmp 10) 15, type := 0, pos := _, after := _, guard := none }) rfl (by assumption) ?_
    (try simp only [Act.put, List.setIfInBounds_toArray, List.set_cons_zero, List.set_cons_succ])
    refine tkH (i := 3) (oi := { dst := some 12, op := Op.load 83 (Operand.tmp 11), type := 83, pos := _, after := _, guard := none }) rfl (by assumption) ?_
    (try simp only [Act.put, List.setIfInBounds_toArray, List.set_cons_zero, List.set_cons_succ])
    refine tkH (i := 4) (oi := { dst := some 13, op := Op.move (Operand.tmp 0), type := 79, pos := _, after := _, guard := none }) rfl (by assumption) ?_
    (try simp only [Act.put, List.setIfInBounds_toArray, List.set_cons_zero, List.set_cons_succ])
    refine tkH (i := 5) (oi := { dst := some 14, op := Op.nilCheck (Operand.tmp 13), type := 0, pos := _, after := _, guard := none }) rfl (by assumption) ?_
    (try simp only [Act.put, List.setIfInBounds_toArray, List.set_cons_zero, List.set_cons_succ])
    refine tkH (i := 6) (oi := { dst := some 15, op := Op.fieldAddr 150 (Operand.tmp 14) 15, type := 0, pos := _, after := _, guard := none }) rfl (by assumption) ?_
    (try simp only [Act.put, List.setIfInBounds_toArray, List.set_cons_zero, List.set_cons_succ])
    refine tkH (i := 7) (oi := { dst := some 16, op := Op.load 83 (Operand.tmp 15), type := 83, pos := _, after := _, guard := none }) rfl (by assumption) ?_
    (try simp only [Act.put, List.setIfInBounds_toArray, List.set_cons_zero, List.set_cons_succ])
    refine tkH (i := 8) (oi := { dst := some 17, op := Op.call { callee := Callee.builtin Builtin.len, args := #[Operand.tmp 16], argTypes := #[83] }, type := 3, pos := _, after := _, guard := none }) rfl (by assumption) ?_
    (try simp only [Act.put, List.setIfInBounds_toArray, List.set_cons_zero, List.set_cons_succ])
    refine tkH (i := 9) (oi := { dst := some 18, op := Op.binOp BinOp.sub 3 (Operand.tmp 17) (Operand.const (Value.int IntKind.i64 1)) 3, type := 3, pos := _, after := _, guard := none }) rfl (by assumption) ?_
    (try simp only [Act.put, List.setIfInBounds_toArray, List.set_cons_zero, List.set_cons_succ])
    refine tkH (i := 10) (oi := { dst := some 19, op := Op.indexAddr 83 (Operand.tmp 12) (Operand.tmp 18), type := 0, pos := _, after := _, guard := none }) rfl (by assumption) ?_
    (try simp only [Act.put, List.setIfInBounds_toArray, List.set_cons_zero, List.set_cons_succ])
    refine tkH (i := 11) (oi := { dst := some 20, op := Op.fieldAddr 158 (Operand.tmp 19) 1, type := 0, pos := _, after := _, guard := none }) rfl (by assumption) ?_
    (try simp only [Act.put, List.setIfInBounds_toArray, List.set_cons_zero, List.set_cons_succ])
    refine tkH (i := 12) (oi := { dst := some 21, op := Op.load 3 (Operand.tmp 20), type := 3, pos := _, after := _, guard := none }) rfl (by assumption) ?_
    (try simp only [Act.put, List.setIfInBounds_toArray, List.set_cons_zero, List.set_cons_succ])
    refine tkH (i := 13) (oi := { dst := some 2, op := Op.assign (Operand.tmp 21), type := 3, pos := _, after := _, guard := none }) rfl (by assumption) ?_
    (try simp only [Act.put, List.setIfInBounds_toArray, List.set_cons_zero, List.set_cons_succ])
    refine wpAnyH_done (by kernel_rfl) ?_ _
    go_wp2_with fail
    go_ret
    exact ⟨rfl, (Keep.refl _ _ _).drew⟩
set_option maxRecDepth 100000 in
set_option maxHeartbeats 4000000 in
theorem ktotal_n (w : World) (p : Nat) (F : List Int) (c : Nat) (l : Ly) (K : Sk) (hn : K.named = true) (hb : Blk w p TK (kcs F c l K)) : Calls Try.prog 100 #[ptr p] w fun e w' => e = .returned (.tuple #[.int .i64 F.length, .bool true]) ∧ Keep w.heap.size [] w w' := by
  have c11 : w.cell? ⟨p, 11, none⟩ = some (.bool K.named) := hb.cell 11
  have c13 : w.cell? ⟨p, 13, none⟩ = some (.int .i64 F.length) := by have h := hb.cell 13; rw [h]; show some (Value.int .i64 (szV F K.named)) = _; rw [hn]; rfl
  rw [hn] at c11
  clear hb
  go_enter Try.func100, Try.ntmps100
  go_wp2_with fail
  go_ret2
  exact ⟨rfl, Keep.refl _ _ _⟩
set_option maxRecDepth 100000 in
set_option maxHeartbeats 4000000 in
theorem ktotal_u (w : World) (p : Nat) (F : List Int) (c : Nat) (l : Ly) (K : Sk) (hn : K.named = false) (hb : Blk w p TK (kcs F c l K)) : Calls Try.prog 100 #[ptr p] w fun e w' => e = .returned (.tuple #[.int .i64 (szV F K.fin), .bool K.fin]) ∧ Keep w.heap.size [] w w' := by
  have c11 : w.cell? ⟨p, 11, none⟩ = some (.bool K.named) := hb.cell 11
  have c14 : w.cell? ⟨p, 14, none⟩ = some (.bool K.fin) := hb.cell 14
  have c15 : w.cell? ⟨p, 15, none⟩ = some (.int .i64 (szV F K.fin)) := hb.cell 15
  rw [hn] at c11
  clear hb
  go_enter Try.func100, Try.ntmps100
  go_upto_region 3 with fail
  go_quiet (fail)
  go_wp2_with fail
  go_ret2
  exact ⟨rfl, (Keep.refl _ _ _).drewN _⟩
set_option maxRecDepth 100000 in
set_option maxHeartbeats 4000000 in
theorem kunit_w (w : World) (p : Nat) (F : List Int) (c : Nat) (l : Ly) (K : Sk) (k : Int) (hb : Blk w p TK (kcs F c l K)) : Calls Try.prog 94 #[ptr p, .int .i64 k] w fun e w' => e = .returned (.agg #[.int .i64 k, .int .i64 1, .int .i64 7, .int .i64 0, .string ⟨#[]⟩, .int .i64 0, .int .i64 0, .slice none 0 0, .int .u32 0, .int .i64 0, .slice none 0 0]) ∧ Keep w.heap.size [] w w' := by
  have HB := Lib.hid hb
  clear hb
  go_enter Try.func94, Try.ntmps94
  go_upto_region 1 with fail
  obtain ⟨W, q, hW, hq, bq, ka⟩ := newPd w
  have bp := HB.out.keepS ka (by simp)
  have hpq : p ≠ q := by have := HB.out.lt; omega
  have hqp : q ≠ p := hpq.symm
  change Code.wp _ _ _ _ (w.alloc (.cells zcs TP))
  rw [← hW, ← hq]
  have HQ := Lib.hid hq
  clear hW hq
  have c1 : W.cell? ⟨p, 1, none⟩ = some (.int .i64 1) := bp.cell 1
  have c2 : W.cell? ⟨p, 2, none⟩ = some (.int .i64 7) := bp.cell 2
  have BP := Lib.hid bp
  have BQ := Lib.hid bq
  have KA := Lib.hid ka
  clear bp bq ka
  go_wp2_with (refine wpList_store_mid rfl TP (.tmp 4) (.tmp 10) rfl q 0 (pcs (zeroP k 1 7) zL) rfl rfl (by refine thereQ ?_; repeat (first | with_reducible exact BQ.out | refine Blk.far ?_ hqp _)) infoPd (by exact upd_cells _ _) ?_)
  refine bodyPost_ret (kres_unit _ _ q (zeroP k 1 7) (zL) rfl (by refine Blk.setAll (cs := zcs) (vs := pcs (zeroP k 1 7) (zL)) ?_ rfl; repeat (first | with_reducible exact BQ.out | refine Blk.far ?_ hqp _))) rfl ?_
  exact ⟨rfl, Keep.setCells (.inl (by rw [HQ.out]; exact Nat.le_refl _)) _ _ _  KA.out⟩
set_option maxRecDepth 100000 in
set_option maxHeartbeats 4000000 in
theorem kreport_w (w : World) (p : Nat) (F : List Int) (c : Nat) (l : Ly) (K : Sk) (hb : Blk w p TK (kcs F c l K)) : Calls Try.prog 135 #[ptr p] w fun e w' => e = .returned (.agg (pcs (upd F .fi) zL)) ∧ Keep w.heap.size [] w w' := by
  have HB := Lib.hid hb
  clear hb
  go_enter Try.func135, Try.ntmps135
  go_upto_region 1 with fail
  obtain ⟨W, q, hW, hq, bq, ka⟩ := newPd w
  have bp := HB.out.keepS ka (by simp)
  have hpq : p ≠ q := by have := HB.out.lt; omega
  have hqp : q ≠ p := hpq.symm
  change Code.wp _ _ _ _ (w.alloc (.cells zcs TP))
  rw [← hW, ← hq]
  have HQ := Lib.hid hq
  clear hW hq
  have BP := Lib.hid bp
  have BQ := Lib.hid bq
  have KA := Lib.hid ka
  clear bp bq ka
  go_wp2_with fail
  refine (kunit_w _ p F c l K 5 BP.out).mono ?_
  rintro e w1 ⟨rfl, hk1⟩
  have BP1 := Lib.hid (BP.out.keepS hk1 (by simp))
  have BQ1 := Lib.hid (BQ.out.keepS hk1 (by simp))
  have K1 := Lib.hid (KA.out.chain0 (Nat.le_refl _) hk1)
  clear hk1
  go_upto_region 2 with fail
  obtain ⟨W2, q2, hW2, hq2, bq2, ka2⟩ : ∃ (W2 : World) (q2 : Nat), W2 = w1.alloc (.cells (pcs (upd F .fi) zL) TP) ∧ q2 = w1.heap.size ∧ Blk W2 q2 TP (pcs (upd F .fi) zL) ∧ Keep w1.heap.size [] w1 W2 := ⟨_, _, rfl, rfl, Blk.new _ _ _, (Keep.refl _ _ _).alloc (Nat.le_refl _) _⟩
  change Code.wp _ _ _ _ (w1.alloc (.cells (pcs (upd F .fi) zL) TP))
  rw [← hW2, ← hq2]
  have bp2 := BP1.out.keepS ka2 (by simp)
  have hqq2 : q ≠ q2 := by have := BQ1.out.lt; omega
  have HQ2 : Hid (w.heap.size ≤ q2) := Lib.hid (by rw [hq2]; exact K1.out.size)
  have BQ2 := Lib.hid (BQ1.out.keepS ka2 (by simp))
  have K2 := Lib.hid (K1.out.chain0 (Nat.le_refl _) ka2)
  have c24 : W2.cell? ⟨p, 24, none⟩ = some (.int .i64 0) := bp2.cell 24
  have z9 : W2.cell? ⟨q2, 9, none⟩ = some (.int .i64 0) := bq2.cell 9
  have z9f := bq2.frozen 9
  have BR : Hid (Blk (W2.setCell ⟨q2, 9, none⟩ (.int .i64 0)) q2 TP (pcs (upd F .fi) zL)) := Lib.hid (bq2.set_ 9 _)
  have BS : Hid (Blk (W2.setCell ⟨q2, 9, none⟩ (.int .i64 0)) q TP zcs) := Lib.hid (BQ2.out.far hqq2 _)
  have KS : Hid (Keep w.heap.size [] w (W2.setCell ⟨q2, 9, none⟩ (.int .i64 0))) := Lib.hid (K2.out.setN HQ2.out)
  clear hW2 hq2 bq2 ka2 bp2
  go_wp2_with (first
    | (refine wpList_load_mid rfl TP (.tmp 3) rfl q2 0 rfl (pcs (upd F .fi) zL).toList _ BR.out.range Try.underlying85 rfl (by rw [infoPd]; rfl) ?_)
    | (refine wpList_store_mid rfl TP (.tmp 2) (.tmp 11) rfl q 0 (pcs (upd F .fi) zL) rfl rfl (by refine thereQ ?_; repeat (first | with_reducible exact BS.out | refine Blk.far ?_ hqp _)) infoPd (by exact upd_cells _ _) ?_))
  refine bodyPost_ret (kres_report _ _ q (upd F .fi) (zL) rfl (by refine Blk.setAll (cs := zcs) (vs := pcs (upd F .fi) (zL)) ?_ rfl; repeat (first | with_reducible exact BS.out | refine Blk.far ?_ hqp _))) rfl ?_
  exact ⟨rfl, Keep.setCells (.inl (by rw [HQ.out]; exact Nat.le_refl _)) _ _ _  KS.out⟩
set_option maxRecDepth 100000 in
set_option maxHeartbeats 4000000 in
theorem krep_due (w : World) (p : Nat) (F : List Int) (c : Nat) (l : Ly) (K : Sk) (hd : K.dd = true) (hb : Blk w p TK (kcs F c l K)) : Calls Try.prog 96 #[ptr p] w fun e w' => e = .returned (.tuple #[.agg (pcs (upd F .fi) zL), .bool true]) ∧ Blk w' p TK (kcs F c l { K with dd := false }) ∧ Keep w.heap.size [p] w w' := by
  have HB := Lib.hid hb
  clear hb
  go_enter Try.func96, Try.ntmps96
  go_upto_region 1 with fail
  obtain ⟨W, q, hW, hq, bq, ka⟩ := newPd w
  have bp := HB.out.keepS ka (by simp)
  have hpq : p ≠ q := by have := HB.out.lt; omega
  have hqp : q ≠ p := hpq.symm
  change Code.wp _ _ _ _ (w.alloc (.cells zcs TP))
  rw [← hW, ← hq]
  have HQ := Lib.hid hq
  clear hW hq
  have c23 : W.cell? ⟨p, 23, none⟩ = some (.bool K.dd) := bp.cell 23
  have fc23 := bp.frozen 23
  have BP := Lib.hid bp
  have BQ := Lib.hid bq
  have KA := Lib.hid ka
  clear bp bq ka
  rw [hd] at c23
  go_wp2_with fail
  have BP1 : Hid (Blk (W.setCell ⟨p, 23, none⟩ (.bool false)) p TK (kcs F c l { K with dd := false })) := Lib.hid (BP.out.set_ 23 _)
  have KA1 : Hid (Keep w.heap.size [p] w (W.setCell ⟨p, 23, none⟩ (.bool false))) := Lib.hid ((KA.out.mono (S' := [p]) (Nat.le_refl _) (by simp)).set1)
  have BQ1 : Hid (Blk (W.setCell ⟨p, 23, none⟩ (.bool false)) q TP zcs) := Lib.hid (BQ.out.far hqp _)
  refine (kreport_w _ p F c l { K with dd := false } BP1.out).mono ?_
  rintro e W2 ⟨rfl, hk2⟩
  have BP2 := Lib.hid (BP1.out.keepS hk2 (by simp))
  have BQ2 := Lib.hid (BQ1.out.keepS hk2 (by simp))
  have K2 : Hid (Keep w.heap.size [p] w W2) := Lib.hid (KA1.out.trans (hk2.mono KA1.out.size (by simp)))
  clear hk2
  go_wp2_with (refine wpList_store_mid rfl TP (.tmp 2) (.tmp 12) rfl q 0 (pcs (upd F .fi) zL) rfl rfl (by refine thereQ ?_; repeat (first | with_reducible exact BQ2.out | refine Blk.far ?_ hqp _)) infoPd (by exact upd_cells _ _) ?_)
  refine bodyPost_ret (kres_repeat _ _ q (upd F .fi) (zL) true rfl rfl (by refine Blk.setAll (cs := zcs) (vs := pcs (upd F .fi) (zL)) ?_ rfl; repeat (first | with_reducible exact BQ2.out | refine Blk.far ?_ hqp _))) rfl ?_
  exact ⟨rfl, Blk.setCellsFar hpq _ _ _ BP2.out, Keep.setCells (.inl (by rw [HQ.out]; exact Nat.le_refl _)) _ _ _  K2.out⟩
set_option maxRecDepth 100000 in
set_option maxHeartbeats 4000000 in
theorem krep_ended (w : World) (p : Nat) (F : List Int) (c : Nat) (l : Ly) (K : Sk) (hd : K.dd = false) (he : K.ended = true) (hb : Blk w p TK (kcs F c l K)) : Calls Try.prog 96 #[ptr p] w fun e w' => e = .returned (.tuple #[.agg (pcs zP zL), .bool false]) ∧ Keep w.heap.size [] w w' := by
  have HB := Lib.hid hb
  clear hb
  go_enter Try.func96, Try.ntmps96
  go_upto_region 1 with fail
  obtain ⟨W, q, hW, hq, bq, ka⟩ := newPd w
  have bp := HB.out.keepS ka (by simp)
  have hpq : p ≠ q := by have := HB.out.lt; omega
  have hqp : q ≠ p := hpq.symm
  change Code.wp _ _ _ _ (w.alloc (.cells zcs TP))
  rw [← hW, ← hq]
  have HQ := Lib.hid hq
  clear hW hq
  have c5 : W.cell? ⟨p, 5, none⟩ = some (.int .i64 10) := bp.cell 5
  have c7 : W.cell? ⟨p, 7, none⟩ = some (.int .i64 K.now) := bp.cell 7
  have c9 : W.cell? ⟨p, 9, none⟩ = some (.bool K.ended) := bp.cell 9
  have c19 : W.cell? ⟨p, 19, none⟩ = some (.int .i64 K.tm) := bp.cell 19
  have c23 : W.cell? ⟨p, 23, none⟩ = some (.bool K.dd) := bp.cell 23
  have BP := Lib.hid bp
  have BQ := Lib.hid bq
  have KA := Lib.hid ka
  clear bp bq ka
  rw [hd] at c23
  rw [he] at c9
  go_upto_region 4 with fail
  refine wp_region_held_drew (S := (fun w' => w'.cell? ⟨p, 5, none⟩ = some (.int .i64 10) ∧ w'.cell? ⟨p, 7, none⟩ = some (.int .i64 K.now) ∧ w'.cell? ⟨p, 9, none⟩ = some (.bool true) ∧ w'.cell? ⟨p, 19, none⟩ = some (.int .i64 K.tm))) (by kernel_rfl) (by exact ⟨c5, c7, c9, c19⟩) (fun hHeld => ?_)
  refine tkH (i := 0) (oi := { dst := some 13, op := Op.move (Operand.tmp 0), type := 79, pos := _, after := _, guard := none }) rfl (by assumption) ?_
  (try simp only [Act.put, List.setIfInBounds_toArray, List.set_cons_zero, List.set_cons_succ])
  refine wpAnyH_ready (rs := [1]) (by kernel_rfl) (by simp) ?_
  refine (AllReadyH.cons (o := { dst := some 14, op := Op.call { callee := Callee.value (Operand.func 92), args := #[Operand.tmp 13], argTypes := #[79] }, type := 4, pos := _, after := _, guard := none }) rfl (fun KQ hK => ?_) AllReadyH.nil)
  go_simp
  refine (kack_w _ p F c l _ BP.out.drew).mono ?_
  rintro e W1 ⟨rfl, rfl⟩
  refine hK.out _ _ (by exact ⟨c5, c7, c9, c19⟩) (fun hHeld => ?_)
  clear hK KQ
  (try simp only [Act.put, List.setIfInBounds_toArray, List.set_cons_zero, List.set_cons_succ])
  refine tkH (i := 2) (oi := { dst := some 15, op := Op.unOp UnOp.not 4 (Operand.tmp 14), type := 4, pos := _, after := _, guard := none }) rfl (by assumption) ?_
  (try simp only [Act.put, List.setIfInBounds_toArray, List.set_cons_zero, List.set_cons_succ])
  refine tkH (i := 3) (oi := { dst := some 16, op := Op.move (Operand.tmp 15), type := 4, pos := _, after := _, guard := none }) rfl (by assumption) ?_
  (try simp only [Act.put, List.setIfInBounds_toArray, List.set_cons_zero, List.set_cons_succ])
  refine tkH (i := 4) (oi := { dst := some 17, op := Op.move (Operand.tmp 0), type := 79, pos := _, after := _, guard := some (3, false) }) rfl (by assumption) ?_
  (try simp only [Act.put, List.setIfInBounds_toArray, List.set_cons_zero, List.set_cons_succ])
  refine tkH (i := 5) (oi := { dst := some 18, op := Op.nilCheck (Operand.tmp 17), type := 0, pos := _, after := _, guard := some (3, false) }) rfl (by assumption) ?_
  (try simp only [Act.put, List.setIfInBounds_toArray, List.set_cons_zero, List.set_cons_succ])
  refine tkH (i := 6) (oi := { dst := some 19, op := Op.fieldAddr 150 (Operand.tmp 18) 6, type := 0, pos := _, after := _, guard := some (3, false) }) rfl (by assumption) ?_
  (try simp only [Act.put, List.setIfInBounds_toArray, List.set_cons_zero, List.set_cons_succ])
  refine tkH (i := 7) (oi := { dst := some 20, op := Op.load 4 (Operand.tmp 19), type := 4, pos := _, after := _, guard := some (3, false) }) rfl (by assumption) ?_
  (try simp only [Act.put, List.setIfInBounds_toArray, List.set_cons_zero, List.set_cons_succ])
  refine tkH (i := 8) (oi := { dst := some 21, op := Op.pick (Operand.tmp 16) (Operand.const (Value.bool true)) (Operand.tmp 20), type := 4, pos := _, after := _, guard := none }) rfl (by assumption) ?_
  (try simp only [Act.put, List.setIfInBounds_toArray, List.set_cons_zero, List.set_cons_succ])
  refine tkH (i := 9) (oi := { dst := some 22, op := Op.move (Operand.tmp 21), type := 4, pos := _, after := _, guard := none }) rfl (by assumption) ?_
  (try simp only [Act.put, List.setIfInBounds_toArray, List.set_cons_zero, List.set_cons_succ])
  refine skH (i := 10) (oi := { dst := some 23, op := Op.move (Operand.tmp 0), type := 79, pos := _, after := _, guard := some (9, false) }) rfl (by assumption) ?_
  (try simp only [Act.put, List.setIfInBounds_toArray, List.set_cons_zero, List.set_cons_succ])
  refine skH (i := 11) (oi := { dst := some 24, op := Op.nilCheck (Operand.tmp 23), type := 0, pos := _, after := _, guard := some (9, false) }) rfl (by assumption) ?_
  (try simp only [Act.put, List.setIfInBounds_toArray, List.set_cons_zero, List.set_cons_succ])
  refine skH (i := 12) (oi := { dst := some 25, op := Op.fieldAddr 150 (Operand.tmp 24) 4, type := 0, pos := _, after := _, guard := some (9, false) }) rfl (by assumption) ?_
  (try simp only [Act.put, List.setIfInBounds_toArray, List.set_cons_zero, List.set_cons_succ])
  refine skH (i := 13) (oi := { dst := some 26, op := Op.load 3 (Operand.tmp 25), type := 3, pos := _, after := _, guard := some (9, false) }) rfl (by assumption) ?_
  (try simp only [Act.put, List.setIfInBounds_toArray, List.set_cons_zero, List.set_cons_succ])
  refine skH (i := 14) (oi := { dst := some 27, op := Op.move (Operand.tmp 0), type := 79, pos := _, after := _, guard := some (9, false) }) rfl (by assumption) ?_
  (try simp only [Act.put, List.setIfInBounds_toArray, List.set_cons_zero, List.set_cons_succ])
  refine skH (i := 15) (oi := { dst := some 28, op := Op.nilCheck (Operand.tmp 27), type := 0, pos := _, after := _, guard := some (9, false) }) rfl (by assumption) ?_
  (try simp only [Act.put, List.setIfInBounds_toArray, List.set_cons_zero, List.set_cons_succ])
  refine skH (i := 16) (oi := { dst := some 29, op := Op.fieldAddr 150 (Operand.tmp 28) 16, type := 0, pos := _, after := _, guard := some (9, false) }) rfl (by assumption) ?_
  (try simp only [Act.put, List.setIfInBounds_toArray, List.set_cons_zero, List.set_cons_succ])
  refine skH (i := 17) (oi := { dst := some 30, op := Op.load 3 (Operand.tmp 29), type := 3, pos := _, after := _, guard := some (9, false) }) rfl (by assumption) ?_
  (try simp only [Act.put, List.setIfInBounds_toArray, List.set_cons_zero, List.set_cons_succ])
  refine skH (i := 18) (oi := { dst := some 31, op := Op.move (Operand.tmp 0), type := 79, pos := _, after := _, guard := some (9, false) }) rfl (by assumption) ?_
  (try simp only [Act.put, List.setIfInBounds_toArray, List.set_cons_zero, List.set_cons_succ])
  refine skH (i := 19) (oi := { dst := some 32, op := Op.nilCheck (Operand.tmp 31), type := 0, pos := _, after := _, guard := some (9, false) }) rfl (by assumption) ?_
  (try simp only [Act.put, List.setIfInBounds_toArray, List.set_cons_zero, List.set_cons_succ])
  refine skH (i := 20) (oi := { dst := some 33, op := Op.fieldAddr 150 (Operand.tmp 32) 3, type := 0, pos := _, after := _, guard := some (9, false) }) rfl (by assumption) ?_
  (try simp only [Act.put, List.setIfInBounds_toArray, List.set_cons_zero, List.set_cons_succ])
  refine skH (i := 21) (oi := { dst := some 34, op := Op.fieldAddr 73 (Operand.tmp 33) 1, type := 0, pos := _, after := _, guard := some (9, false) }) rfl (by assumption) ?_
  (try simp only [Act.put, List.setIfInBounds_toArray, List.set_cons_zero, List.set_cons_succ])
  refine skH (i := 22) (oi := { dst := some 35, op := Op.load 3 (Operand.tmp 34), type := 3, pos := _, after := _, guard := some (9, false) }) rfl (by assumption) ?_
  (try simp only [Act.put, List.setIfInBounds_toArray, List.set_cons_zero, List.set_cons_succ])
  refine skH (i := 23) (oi := { dst := some 36, op := Op.binOp BinOp.add 3 (Operand.tmp 30) (Operand.tmp 35) 3, type := 3, pos := _, after := _, guard := some (9, false) }) rfl (by assumption) ?_
  (try simp only [Act.put, List.setIfInBounds_toArray, List.set_cons_zero, List.set_cons_succ])
  refine skH (i := 24) (oi := { dst := some 37, op := Op.binOp BinOp.lss 3 (Operand.tmp 26) (Operand.tmp 36) 3, type := 4, pos := _, after := _, guard := some (9, false) }) rfl (by assumption) ?_
  (try simp only [Act.put, List.setIfInBounds_toArray, List.set_cons_zero, List.set_cons_succ])
  refine tkH (i := 25) (oi := { dst := some 38, op := Op.pick (Operand.tmp 22) (Operand.const (Value.bool true)) (Operand.tmp 37), type := 4, pos := _, after := _, guard := none }) rfl (by assumption) ?_
  (try simp only [Act.put, List.setIfInBounds_toArray, List.set_cons_zero, List.set_cons_succ])
  refine wpAnyH_done (by kernel_rfl) ?_ _
  go_wp2_with (refine wpList_store_mid rfl TP (.tmp 2) (.tmp 39) rfl q 0 (pcs zP zL) rfl rfl (by refine thereQ ?_; repeat (first | with_reducible exact BQ.out.drew | refine Blk.far ?_ hqp _)) infoPd (by exact upd_cells _ _) ?_)
  refine bodyPost_ret (kres_repeat _ _ q (zP) (zL) false rfl rfl (by refine Blk.setAll (cs := zcs) (vs := pcs (zP) (zL)) ?_ rfl; repeat (first | with_reducible exact BQ.out.drew | refine Blk.far ?_ hqp _))) rfl ?_
  exact ⟨rfl, Keep.setCells (.inl (by rw [HQ.out]; exact Nat.le_refl _)) _ _ _  KA.out.drew⟩
set_option maxRecDepth 100000 in
set_option maxHeartbeats 4000000 in
theorem krep_early (w : World) (p : Nat) (F : List Int) (c : Nat) (l : Ly) (K : Sk) (hd : K.dd = false) (he : K.ended = false) (ht : K.now < K.tm + 10) (hm : K.tm ≤ 1000) (hb : Blk w p TK (kcs F c l K)) : Calls Try.prog 96 #[ptr p] w fun e w' => e = .returned (.tuple #[.agg (pcs zP zL), .bool false]) ∧ Keep w.heap.size [] w w' := by
  have HB := Lib.hid hb
  have ew : IntKind.i64.wrap ((K.tm : Int) + 10) = (K.tm : Int) + 10 := i64k (by omega) (by omega)
  have htI : decide ((K.now : Int) < (K.tm : Int) + 10) = true := by simp; omega
  clear hb
  go_enter Try.func96, Try.ntmps96
  go_upto_region 1 with fail
  obtain ⟨W, q, hW, hq, bq, ka⟩ := newPd w
  have bp := HB.out.keepS ka (by simp)
  have hpq : p ≠ q := by have := HB.out.lt; omega
  have hqp : q ≠ p := hpq.symm
  change Code.wp _ _ _ _ (w.alloc (.cells zcs TP))
  rw [← hW, ← hq]
  have HQ := Lib.hid hq
  clear hW hq
  have c5 : W.cell? ⟨p, 5, none⟩ = some (.int .i64 10) := bp.cell 5
  have c7 : W.cell? ⟨p, 7, none⟩ = some (.int .i64 K.now) := bp.cell 7
  have c9 : W.cell? ⟨p, 9, none⟩ = some (.bool K.ended) := bp.cell 9
  have c19 : W.cell? ⟨p, 19, none⟩ = some (.int .i64 K.tm) := bp.cell 19
  have c23 : W.cell? ⟨p, 23, none⟩ = some (.bool K.dd) := bp.cell 23
  have BP := Lib.hid bp
  have BQ := Lib.hid bq
  have KA := Lib.hid ka
  clear bp bq ka
  rw [hd] at c23
  rw [he] at c9
  go_upto_region 4 with fail
  refine wp_region_held_drew (S := (fun w' => w'.cell? ⟨p, 5, none⟩ = some (.int .i64 10) ∧ w'.cell? ⟨p, 7, none⟩ = some (.int .i64 K.now) ∧ w'.cell? ⟨p, 9, none⟩ = some (.bool false) ∧ w'.cell? ⟨p, 19, none⟩ = some (.int .i64 K.tm))) (by kernel_rfl) (by exact ⟨c5, c7, c9, c19⟩) (fun hHeld => ?_)
  refine tkH (i := 0) (oi := { dst := some 13, op := Op.move (Operand.tmp 0), type := 79, pos := _, after := _, guard := none }) rfl (by assumption) ?_
  (try simp only [Act.put, List.setIfInBounds_toArray, List.set_cons_zero, List.set_cons_succ])
  refine wpAnyH_ready (rs := [1]) (by kernel_rfl) (by simp) ?_
  refine (AllReadyH.cons (o := { dst := some 14, op := Op.call { callee := Callee.value (Operand.func 92), args := #[Operand.tmp 13], argTypes := #[79] }, type := 4, pos := _, after := _, guard := none }) rfl (fun KQ hK => ?_) AllReadyH.nil)
  go_simp
  refine (kack_w _ p F c l _ BP.out.drew).mono ?_
  rintro e W1 ⟨rfl, rfl⟩
  refine hK.out _ _ (by exact ⟨c5, c7, c9, c19⟩) (fun hHeld => ?_)
  clear hK KQ
  (try simp only [Act.put, List.setIfInBounds_toArray, List.set_cons_zero, List.set_cons_succ])
  refine tkH (i := 2) (oi := { dst := some 15, op := Op.unOp UnOp.not 4 (Operand.tmp 14), type := 4, pos := _, after := _, guard := none }) rfl (by assumption) ?_
  (try simp only [Act.put, List.setIfInBounds_toArray, List.set_cons_zero, List.set_cons_succ])
  refine tkH (i := 3) (oi := { dst := some 16, op := Op.move (Operand.tmp 15), type := 4, pos := _, after := _, guard := none }) rfl (by assumption) ?_
  (try simp only [Act.put, List.setIfInBounds_toArray, List.set_cons_zero, List.set_cons_succ])
  refine tkH (i := 4) (oi := { dst := some 17, op := Op.move (Operand.tmp 0), type := 79, pos := _, after := _, guard := some (3, false) }) rfl (by assumption) ?_
  (try simp only [Act.put, List.setIfInBounds_toArray, List.set_cons_zero, List.set_cons_succ])
  refine tkH (i := 5) (oi := { dst := some 18, op := Op.nilCheck (Operand.tmp 17), type := 0, pos := _, after := _, guard := some (3, false) }) rfl (by assumption) ?_
  (try simp only [Act.put, List.setIfInBounds_toArray, List.set_cons_zero, List.set_cons_succ])
  refine tkH (i := 6) (oi := { dst := some 19, op := Op.fieldAddr 150 (Operand.tmp 18) 6, type := 0, pos := _, after := _, guard := some (3, false) }) rfl (by assumption) ?_
  (try simp only [Act.put, List.setIfInBounds_toArray, List.set_cons_zero, List.set_cons_succ])
  refine tkH (i := 7) (oi := { dst := some 20, op := Op.load 4 (Operand.tmp 19), type := 4, pos := _, after := _, guard := some (3, false) }) rfl (by assumption) ?_
  (try simp only [Act.put, List.setIfInBounds_toArray, List.set_cons_zero, List.set_cons_succ])
  refine tkH (i := 8) (oi := { dst := some 21, op := Op.pick (Operand.tmp 16) (Operand.const (Value.bool true)) (Operand.tmp 20), type := 4, pos := _, after := _, guard := none }) rfl (by assumption) ?_
  (try simp only [Act.put, List.setIfInBounds_toArray, List.set_cons_zero, List.set_cons_succ])
  refine tkH (i := 9) (oi := { dst := some 22, op := Op.move (Operand.tmp 21), type := 4, pos := _, after := _, guard := none }) rfl (by assumption) ?_
  (try simp only [Act.put, List.setIfInBounds_toArray, List.set_cons_zero, List.set_cons_succ])
  refine tkH (i := 10) (oi := { dst := some 23, op := Op.move (Operand.tmp 0), type := 79, pos := _, after := _, guard := some (9, false) }) rfl (by assumption) ?_
  (try simp only [Act.put, List.setIfInBounds_toArray, List.set_cons_zero, List.set_cons_succ])
  refine tkH (i := 11) (oi := { dst := some 24, op := Op.nilCheck (Operand.tmp 23), type := 0, pos := _, after := _, guard := some (9, false) }) rfl (by assumption) ?_
  (try simp only [Act.put, List.setIfInBounds_toArray, List.set_cons_zero, List.set_cons_succ])
  refine tkH (i := 12) (oi := { dst := some 25, op := Op.fieldAddr 150 (Operand.tmp 24) 4, type := 0, pos := _, after := _, guard := some (9, false) }) rfl (by assumption) ?_
  (try simp only [Act.put, List.setIfInBounds_toArray, List.set_cons_zero, List.set_cons_succ])
  refine tkH (i := 13) (oi := { dst := some 26, op := Op.load 3 (Operand.tmp 25), type := 3, pos := _, after := _, guard := some (9, false) }) rfl (by assumption) ?_
  (try simp only [Act.put, List.setIfInBounds_toArray, List.set_cons_zero, List.set_cons_succ])
  refine tkH (i := 14) (oi := { dst := some 27, op := Op.move (Operand.tmp 0), type := 79, pos := _, after := _, guard := some (9, false) }) rfl (by assumption) ?_
  (try simp only [Act.put, List.setIfInBounds_toArray, List.set_cons_zero, List.set_cons_succ])
  refine tkH (i := 15) (oi := { dst := some 28, op := Op.nilCheck (Operand.tmp 27), type := 0, pos := _, after := _, guard := some (9, false) }) rfl (by assumption) ?_
  (try simp only [Act.put, List.setIfInBounds_toArray, List.set_cons_zero, List.set_cons_succ])
  refine tkH (i := 16) (oi := { dst := some 29, op := Op.fieldAddr 150 (Operand.tmp 28) 16, type := 0, pos := _, after := _, guard := some (9, false) }) rfl (by assumption) ?_
  (try simp only [Act.put, List.setIfInBounds_toArray, List.set_cons_zero, List.set_cons_succ])
  refine tkH (i := 17) (oi := { dst := some 30, op := Op.load 3 (Operand.tmp 29), type := 3, pos := _, after := _, guard := some (9, false) }) rfl (by assumption) ?_
  (try simp only [Act.put, List.setIfInBounds_toArray, List.set_cons_zero, List.set_cons_succ])
  refine tkH (i := 18) (oi := { dst := some 31, op := Op.move (Operand.tmp 0), type := 79, pos := _, after := _, guard := some (9, false) }) rfl (by assumption) ?_
  (try simp only [Act.put, List.setIfInBounds_toArray, List.set_cons_zero, List.set_cons_succ])
  refine tkH (i := 19) (oi := { dst := some 32, op := Op.nilCheck (Operand.tmp 31), type := 0, pos := _, after := _, guard := some (9, false) }) rfl (by assumption) ?_
  (try simp only [Act.put, List.setIfInBounds_toArray, List.set_cons_zero, List.set_cons_succ])
  refine tkH (i := 20) (oi := { dst := some 33, op := Op.fieldAddr 150 (Operand.tmp 32) 3, type := 0, pos := _, after := _, guard := some (9, false) }) rfl (by assumption) ?_
  (try simp only [Act.put, List.setIfInBounds_toArray, List.set_cons_zero, List.set_cons_succ])
  refine tkH (i := 21) (oi := { dst := some 34, op := Op.fieldAddr 73 (Operand.tmp 33) 1, type := 0, pos := _, after := _, guard := some (9, false) }) rfl (by assumption) ?_
  (try simp only [Act.put, List.setIfInBounds_toArray, List.set_cons_zero, List.set_cons_succ])
  refine tkH (i := 22) (oi := { dst := some 35, op := Op.load 3 (Operand.tmp 34), type := 3, pos := _, after := _, guard := some (9, false) }) rfl (by assumption) ?_
  (try simp only [Act.put, List.setIfInBounds_toArray, List.set_cons_zero, List.set_cons_succ])
  refine tkH (i := 23) (oi := { dst := some 36, op := Op.binOp BinOp.add 3 (Operand.tmp 30) (Operand.tmp 35) 3, type := 3, pos := _, after := _, guard := some (9, false) }) rfl (by assumption) ?_
  (try simp only [Act.put, List.setIfInBounds_toArray, List.set_cons_zero, List.set_cons_succ])
  refine tkH (i := 24) (oi := { dst := some 37, op := Op.binOp BinOp.lss 3 (Operand.tmp 26) (Operand.tmp 36) 3, type := 4, pos := _, after := _, guard := some (9, false) }) rfl (by assumption) ?_
  (try simp only [Act.put, List.setIfInBounds_toArray, List.set_cons_zero, List.set_cons_succ])
  refine tkH (i := 25) (oi := { dst := some 38, op := Op.pick (Operand.tmp 22) (Operand.const (Value.bool true)) (Operand.tmp 37), type := 4, pos := _, after := _, guard := none }) rfl (by assumption) ?_
  (try simp only [Act.put, List.setIfInBounds_toArray, List.set_cons_zero, List.set_cons_succ])
  refine wpAnyH_done (by kernel_rfl) ?_ _
  go_wp2_with (refine wpList_store_mid rfl TP (.tmp 2) (.tmp 39) rfl q 0 (pcs zP zL) rfl rfl (by refine thereQ ?_; repeat (first | with_reducible exact BQ.out.drew | refine Blk.far ?_ hqp _)) infoPd (by exact upd_cells _ _) ?_)
  refine bodyPost_ret (kres_repeat _ _ q (zP) (zL) false rfl rfl (by refine Blk.setAll (cs := zcs) (vs := pcs (zP) (zL)) ?_ rfl; repeat (first | with_reducible exact BQ.out.drew | refine Blk.far ?_ hqp _))) rfl ?_
  exact ⟨rfl, Keep.setCells (.inl (by rw [HQ.out]; exact Nat.le_refl _)) _ _ _  KA.out.drew⟩
set_option maxRecDepth 100000 in
set_option maxHeartbeats 4000000 in
theorem krep_yes (w : World) (p : Nat) (F : List Int) (c : Nat) (l : Ly) (K : Sk) (hd : K.dd = false) (he : K.ended = false) (ht : K.tm + 10 ≤ K.now) (hnw : K.now ≤ 1000) (htr : K.tr < 50) (hb : Blk w p TK (kcs F c l K)) : Calls Try.prog 96 #[ptr p] w fun e w' => e = .returned (.tuple #[.agg (pcs (upd F .fi) zL), .bool true]) ∧ Blk w' p TK (kcs F c l { K with tm := K.now, tr := K.tr + 1 }) ∧ Keep w.heap.size [p] w w' := by
  have HB := Lib.hid hb
  have ew : IntKind.i64.wrap ((K.tm : Int) + 10) = (K.tm : Int) + 10 := i64k (by omega) (by omega)
  have htI : decide ((K.now : Int) < (K.tm : Int) + 10) = false := by simp; omega
  have ew2 : IntKind.i64.wrap ((K.tr : Int) + 1) = (K.tr : Int) + 1 := i64k (by omega) (by omega)
  have htrI : (K.tr : Int) < 50 := by omega
  clear hb
  go_enter Try.func96, Try.ntmps96
  go_upto_region 1 with fail
  obtain ⟨W, q, hW, hq, bq, ka⟩ := newPd w
  have bp := HB.out.keepS ka (by simp)
  have hpq : p ≠ q := by have := HB.out.lt; omega
  have hqp : q ≠ p := hpq.symm
  change Code.wp _ _ _ _ (w.alloc (.cells zcs TP))
  rw [← hW, ← hq]
  have HQ := Lib.hid hq
  clear hW hq
  have c5 : W.cell? ⟨p, 5, none⟩ = some (.int .i64 10) := bp.cell 5
  have c6 : W.cell? ⟨p, 6, none⟩ = some (.int .i64 50) := bp.cell 6
  have c7 : W.cell? ⟨p, 7, none⟩ = some (.int .i64 K.now) := bp.cell 7
  have c19 : W.cell? ⟨p, 19, none⟩ = some (.int .i64 K.tm) := bp.cell 19
  have c20 : W.cell? ⟨p, 20, none⟩ = some (.int .i64 K.tr) := bp.cell 20
  have c23 : W.cell? ⟨p, 23, none⟩ = some (.bool K.dd) := bp.cell 23
  have fc19 := bp.frozen 19
  have fc20 := bp.frozen 20
  have c9 : W.cell? ⟨p, 9, none⟩ = some (.bool K.ended) := bp.cell 9
  have BP := Lib.hid bp
  have BQ := Lib.hid bq
  have KA := Lib.hid ka
  clear bp bq ka
  rw [hd] at c23
  rw [he] at c9
  go_upto_region 4 with fail
  refine wp_region_held_drew (S := (fun w' => w'.cell? ⟨p, 5, none⟩ = some (.int .i64 10) ∧ w'.cell? ⟨p, 7, none⟩ = some (.int .i64 K.now) ∧ w'.cell? ⟨p, 9, none⟩ = some (.bool false) ∧ w'.cell? ⟨p, 19, none⟩ = some (.int .i64 K.tm))) (by kernel_rfl) (by exact ⟨c5, c7, c9, c19⟩) (fun hHeld => ?_)
  refine tkH (i := 0) (oi := { dst := some 13, op := Op.move (Operand.tmp 0), type := 79, pos := _, after := _, guard := none }) rfl (by assumption) ?_
  (try simp only [Act.put, List.setIfInBounds_toArray, List.set_cons_zero, List.set_cons_succ])
  refine wpAnyH_ready (rs := [1]) (by kernel_rfl) (by simp) ?_
  refine (AllReadyH.cons (o := { dst := some 14, op := Op.call { callee := Callee.value (Operand.func 92), args := #[Operand.tmp 13], argTypes := #[79] }, type := 4, pos := _, after := _, guard := none }) rfl (fun KQ hK => ?_) AllReadyH.nil)
  go_simp
  refine (kack_w _ p F c l _ BP.out.drew).mono ?_
  rintro e W1 ⟨rfl, rfl⟩
  refine hK.out _ _ (by exact ⟨c5, c7, c9, c19⟩) (fun hHeld => ?_)
  clear hK KQ
  (try simp only [Act.put, List.setIfInBounds_toArray, List.set_cons_zero, List.set_cons_succ])
  refine tkH (i := 2) (oi := { dst := some 15, op := Op.unOp UnOp.not 4 (Operand.tmp 14), type := 4, pos := _, after := _, guard := none }) rfl (by assumption) ?_
  (try simp only [Act.put, List.setIfInBounds_toArray, List.set_cons_zero, List.set_cons_succ])
  refine tkH (i := 3) (oi := { dst := some 16, op := Op.move (Operand.tmp 15), type := 4, pos := _, after := _, guard := none }) rfl (by assumption) ?_
  (try simp only [Act.put, List.setIfInBounds_toArray, List.set_cons_zero, List.set_cons_succ])
  refine tkH (i := 4) (oi := { dst := some 17, op := Op.move (Operand.tmp 0), type := 79, pos := _, after := _, guard := some (3, false) }) rfl (by assumption) ?_
  (try simp only [Act.put, List.setIfInBounds_toArray, List.set_cons_zero, List.set_cons_succ])
  refine tkH (i := 5) (oi := { dst := some 18, op := Op.nilCheck (Operand.tmp 17), type := 0, pos := _, after := _, guard := some (3, false) }) rfl (by assumption) ?_
  (try simp only [Act.put, List.setIfInBounds_toArray, List.set_cons_zero, List.set_cons_succ])
  refine tkH (i := 6) (oi := { dst := some 19, op := Op.fieldAddr 150 (Operand.tmp 18) 6, type := 0, pos := _, after := _, guard := some (3, false) }) rfl (by assumption) ?_
  (try simp only [Act.put, List.setIfInBounds_toArray, List.set_cons_zero, List.set_cons_succ])
  refine tkH (i := 7) (oi := { dst := some 20, op := Op.load 4 (Operand.tmp 19), type := 4, pos := _, after := _, guard := some (3, false) }) rfl (by assumption) ?_
  (try simp only [Act.put, List.setIfInBounds_toArray, List.set_cons_zero, List.set_cons_succ])
  refine tkH (i := 8) (oi := { dst := some 21, op := Op.pick (Operand.tmp 16) (Operand.const (Value.bool true)) (Operand.tmp 20), type := 4, pos := _, after := _, guard := none }) rfl (by assumption) ?_
  (try simp only [Act.put, List.setIfInBounds_toArray, List.set_cons_zero, List.set_cons_succ])
  refine tkH (i := 9) (oi := { dst := some 22, op := Op.move (Operand.tmp 21), type := 4, pos := _, after := _, guard := none }) rfl (by assumption) ?_
  (try simp only [Act.put, List.setIfInBounds_toArray, List.set_cons_zero, List.set_cons_succ])
  refine tkH (i := 10) (oi := { dst := some 23, op := Op.move (Operand.tmp 0), type := 79, pos := _, after := _, guard := some (9, false) }) rfl (by assumption) ?_
  (try simp only [Act.put, List.setIfInBounds_toArray, List.set_cons_zero, List.set_cons_succ])
  refine tkH (i := 11) (oi := { dst := some 24, op := Op.nilCheck (Operand.tmp 23), type := 0, pos := _, after := _, guard := some (9, false) }) rfl (by assumption) ?_
  (try simp only [Act.put, List.setIfInBounds_toArray, List.set_cons_zero, List.set_cons_succ])
  refine tkH (i := 12) (oi := { dst := some 25, op := Op.fieldAddr 150 (Operand.tmp 24) 4, type := 0, pos := _, after := _, guard := some (9, false) }) rfl (by assumption) ?_
  (try simp only [Act.put, List.setIfInBounds_toArray, List.set_cons_zero, List.set_cons_succ])
  refine tkH (i := 13) (oi := { dst := some 26, op := Op.load 3 (Operand.tmp 25), type := 3, pos := _, after := _, guard := some (9, false) }) rfl (by assumption) ?_
  (try simp only [Act.put, List.setIfInBounds_toArray, List.set_cons_zero, List.set_cons_succ])
  refine tkH (i := 14) (oi := { dst := some 27, op := Op.move (Operand.tmp 0), type := 79, pos := _, after := _, guard := some (9, false) }) rfl (by assumption) ?_
  (try simp only [Act.put, List.setIfInBounds_toArray, List.set_cons_zero, List.set_cons_succ])
  refine tkH (i := 15) (oi := { dst := some 28, op := Op.nilCheck (Operand.tmp 27), type := 0, pos := _, after := _, guard := some (9, false) }) rfl (by assumption) ?_
  (try simp only [Act.put, List.setIfInBounds_toArray, List.set_cons_zero, List.set_cons_succ])
  refine tkH (i := 16) (oi := { dst := some 29, op := Op.fieldAddr 150 (Operand.tmp 28) 16, type := 0, pos := _, after := _, guard := some (9, false) }) rfl (by assumption) ?_
  (try simp only [Act.put, List.setIfInBounds_toArray, List.set_cons_zero, List.set_cons_succ])
  refine tkH (i := 17) (oi := { dst := some 30, op := Op.load 3 (Operand.tmp 29), type := 3, pos := _, after := _, guard := some (9, false) }) rfl (by assumption) ?_
  (try simp only [Act.put, List.setIfInBounds_toArray, List.set_cons_zero, List.set_cons_succ])
  refine tkH (i := 18) (oi := { dst := some 31, op := Op.move (Operand.tmp 0), type := 79, pos := _, after := _, guard := some (9, false) }) rfl (by assumption) ?_
  (try simp only [Act.put, List.setIfInBounds_toArray, List.set_cons_zero, List.set_cons_succ])
  refine tkH (i := 19) (oi := { dst := some 32, op := Op.nilCheck (Operand.tmp 31), type := 0, pos := _, after := _, guard := some (9, false) }) rfl (by assumption) ?_
  (try simp only [Act.put, List.setIfInBounds_toArray, List.set_cons_zero, List.set_cons_succ])
  refine tkH (i := 20) (oi := { dst := some 33, op := Op.fieldAddr 150 (Operand.tmp 32) 3, type := 0, pos := _, after := _, guard := some (9, false) }) rfl (by assumption) ?_
  (try simp only [Act.put, List.setIfInBounds_toArray, List.set_cons_zero, List.set_cons_succ])
  refine tkH (i := 21) (oi := { dst := some 34, op := Op.fieldAddr 73 (Operand.tmp 33) 1, type := 0, pos := _, after := _, guard := some (9, false) }) rfl (by assumption) ?_
  (try simp only [Act.put, List.setIfInBounds_toArray, List.set_cons_zero, List.set_cons_succ])
  refine tkH (i := 22) (oi := { dst := some 35, op := Op.load 3 (Operand.tmp 34), type := 3, pos := _, after := _, guard := some (9, false) }) rfl (by assumption) ?_
  (try simp only [Act.put, List.setIfInBounds_toArray, List.set_cons_zero, List.set_cons_succ])
  refine tkH (i := 23) (oi := { dst := some 36, op := Op.binOp BinOp.add 3 (Operand.tmp 30) (Operand.tmp 35) 3, type := 3, pos := _, after := _, guard := some (9, false) }) rfl (by assumption) ?_
  (try simp only [Act.put, List.setIfInBounds_toArray, List.set_cons_zero, List.set_cons_succ])
  refine tkH (i := 24) (oi := { dst := some 37, op := Op.binOp BinOp.lss 3 (Operand.tmp 26) (Operand.tmp 36) 3, type := 4, pos := _, after := _, guard := some (9, false) }) rfl (by assumption) ?_
  (try simp only [Act.put, List.setIfInBounds_toArray, List.set_cons_zero, List.set_cons_succ])
  refine tkH (i := 25) (oi := { dst := some 38, op := Op.pick (Operand.tmp 22) (Operand.const (Value.bool true)) (Operand.tmp 37), type := 4, pos := _, after := _, guard := none }) rfl (by assumption) ?_
  (try simp only [Act.put, List.setIfInBounds_toArray, List.set_cons_zero, List.set_cons_succ])
  refine wpAnyH_done (by kernel_rfl) ?_ _
  go_upto_region 6 with fail
  go_quiet (fail)
  go_wp2_with fail
  have BP1 : Hid (Blk (((W.drewN (1 + nq)).setCell ⟨p, 20, none⟩ (.int .i64 ((K.tr : Int) + 1))).setCell ⟨p, 19, none⟩ (.int .i64 K.now)) p TK (kcs F c l { K with tm := K.now, tr := K.tr + 1 })) := Lib.hid (((BP.out.drewN _).set_ 20 _).set_ 19 _)
  have KA1 : Hid (Keep w.heap.size [p] w (((W.drewN (1 + nq)).setCell ⟨p, 20, none⟩ (.int .i64 ((K.tr : Int) + 1))).setCell ⟨p, 19, none⟩ (.int .i64 K.now))) := Lib.hid ((((KA.out.mono (S' := [p]) (Nat.le_refl _) (by simp)).drewN _).set1).set1)
  have BQ1 : Hid (Blk (((W.drewN (1 + nq)).setCell ⟨p, 20, none⟩ (.int .i64 ((K.tr : Int) + 1))).setCell ⟨p, 19, none⟩ (.int .i64 K.now)) q TP zcs) := Lib.hid (((BQ.out.drewN _).far hqp _).far hqp _)
  refine (kreport_w _ p F c l { K with tm := K.now, tr := K.tr + 1 } BP1.out).mono ?_
  rintro e W2 ⟨rfl, hk2⟩
  have BP2 := Lib.hid (BP1.out.keepS hk2 (by simp))
  have BQ2 := Lib.hid (BQ1.out.keepS hk2 (by simp))
  have K2 : Hid (Keep w.heap.size [p] w W2) := Lib.hid (KA1.out.trans (hk2.mono KA1.out.size (by simp)))
  clear hk2
  go_wp2_with (refine wpList_store_mid rfl TP (.tmp 2) (.tmp 69) rfl q 0 (pcs (upd F .fi) zL) rfl rfl (by refine thereQ ?_; repeat (first | with_reducible exact BQ2.out | refine Blk.far ?_ hqp _)) infoPd (by exact upd_cells _ _) ?_)
  refine bodyPost_ret (kres_repeat _ _ q (upd F .fi) (zL) true rfl rfl (by refine Blk.setAll (cs := zcs) (vs := pcs (upd F .fi) (zL)) ?_ rfl; repeat (first | with_reducible exact BQ2.out | refine Blk.far ?_ hqp _))) rfl ?_
  exact ⟨rfl, Blk.setCellsFar hpq _ _ _ BP2.out, Keep.setCells (.inl (by rw [HQ.out]; exact Nat.le_refl _)) _ _ _  K2.out⟩
set_option maxRecDepth 100000 in
set_option maxHeartbeats 4000000 in
theorem kstate_w (w : World) (p : Nat) (F : List Int) (c : Nat) (l : Ly) (K : Sk) (hp : K.ph = 2) (he : K.ended = true) (hb : Blk w p TK (kcs F c l K)) : Calls Try.prog 38 #[ptr p] w fun e w' => e = .returned (.int .i64 4) ∧ w' = w := by
  have hpI : (K.ph : Int) = 2 := by omega
  have c8 : w.cell? ⟨p, 8, none⟩ = some (.int .i64 K.ph) := hb.cell 8
  have c9 : w.cell? ⟨p, 9, none⟩ = some (.bool K.ended) := hb.cell 9
  have c10 : w.cell? ⟨p, 10, none⟩ = some (.bool false) := hb.cell 10
  have HB := Lib.hid hb
  rw [hpI] at c8
  rw [he] at c9
  clear hb
  go_enter Try.func38, Try.ntmps38
  go_wp2_with fail
  refine (kok_w _ p F c l K HB.out).mono ?_
  rintro e w1 ⟨rfl, rfl⟩
  go_wp2_with fail
  go_ret
  exact ⟨rfl, rfl⟩
set_option maxRecDepth 100000 in
set_option maxHeartbeats 4000000 in
theorem kfile_0 (w : World) (p : Nat) (F : List Int) (c : Nat) (l : Ly) (K : Sk) (hp : K.ph = 0) (hb : Blk w p TK (kcs F c l K)) : Calls Try.prog 32 #[ptr p] w fun e w' => e = .returned (.tuple #[.string ⟨#[]⟩, .slice none 0 0, .bool false]) ∧ w' = w := by
  have hpI : (K.ph : Int) = 0 := by omega
  have c8 : w.cell? ⟨p, 8, none⟩ = some (.int .i64 K.ph) := hb.cell 8
  have HB := Lib.hid hb
  rw [hpI] at c8
  clear hb
  go_enter Try.func32, Try.ntmps32
  go_wp2_with fail
  refine (kok_w _ p F c l K HB.out).mono ?_
  rintro e w1 ⟨rfl, rfl⟩
  go_wp2_with fail
  go_ret3
  exact ⟨rfl, rfl⟩
def FlPost (w : World) (K : Sk) (e : Ending) (w' : World) : Prop :=
  ∃ X xc, e = .returned (.tuple #[.string (strOfNums plan), .slice X K.dat.length xc, .bool true]) ∧ Sl w' 5 1 X K.dat.length xc (octs K.dat) ∧ Keep w.heap.size [] w w' ∧ ∀ y, y ∈ blks X → w.heap.size ≤ y
set_option maxRecDepth 100000 in
set_option maxHeartbeats 4000000 in
theorem kfile_1 (w : World) (p : Nat) (F : List Int) (c : Nat) (l : Ly) (K : Sk) (hp : K.ph = 1 ∨ K.ph = 2) (hn : K.named = true) (hl : K.dat.length ≤ 1000) (hd : Vw w l.D K.dat.length 1 (octs K.dat)) (hb : Blk w p TK (kcs F c l K)) : Calls Try.prog 32 #[ptr p] w fun e w' => FlPost w K e w' := by
  have hpI : (K.ph : Int) = 1 ∨ (K.ph : Int) = 2 := by omega
  have c12 : w.cell? ⟨p, 12, none⟩ = some (.string (strOfNums plan)) := by have h := hb.cell 12; rw [h]; show some (Value.string (nmV K.named)) = _; rw [hn]; rfl
  have c8 : w.cell? ⟨p, 8, none⟩ = some (.int .i64 K.ph) := hb.cell 8
  have c17 : w.cell? ⟨p, 17, none⟩ = some (.slice l.D K.dat.length l.dc) := hb.cell 17
  have HB := Lib.hid hb
  have HD := Lib.hid hd
  clear hb hd
  have CN : Hid (Value.string (nmV K.named) = .string (strOfNums plan)) := Lib.hid (by rw [hn]; rfl)
  rcases hpI with hpI | hpI
  · rw [hpI] at c8
    go_enter Try.func32, Try.ntmps32
    go_wp2_with fail
    refine (kok_w _ p F c l K HB.out).mono ?_
    rintro e w1 ⟨rfl, rfl⟩
    go_upto_region 3 with fail
    refine wp_region_held_drew (S := (fun w' => w'.cell? ⟨p, 12, none⟩ = some (.string (strOfNums plan)) ∧ w'.cell? ⟨p, 17, none⟩ = some (.slice l.D K.dat.length l.dc))) (by kernel_rfl) (by exact ⟨c12, c17⟩) (fun hHeld => ?_)
    refine tkH (i := 0) (oi := { dst := some 22, op := Op.move (Operand.tmp 0), type := 79, pos := _, after := _, guard := none }) rfl (by assumption) ?_
    (try simp only [Act.put, List.setIfInBounds_toArray, List.set_cons_zero, List.set_cons_succ])
    refine tkH (i := 1) (oi := { dst := some 23, op := Op.nilCheck (Operand.tmp 22), type := 0, pos := _, after := _, guard := none }) rfl (by assumption) ?_
    (try simp only [Act.put, List.setIfInBounds_toArray, List.set_cons_zero, List.set_cons_succ])
    refine tkH (i := 2) (oi := { dst := some 24, op := Op.fieldAddr 150 (Operand.tmp 23) 9, type := 0, pos := _, after := _, guard := none }) rfl (by assumption) ?_
    (try simp only [Act.put, List.setIfInBounds_toArray, List.set_cons_zero, List.set_cons_succ])
    refine tkH (i := 3) (oi := { dst := some 25, op := Op.load 9 (Operand.tmp 24), type := 9, pos := _, after := _, guard := none }) rfl (by assumption) ?_
    (try simp only [Act.put, List.setIfInBounds_toArray, List.set_cons_zero, List.set_cons_succ])
    refine tkH (i := 4) (oi := { dst := some 26, op := Op.move (Operand.tmp 0), type := 79, pos := _, after := _, guard := none }) rfl (by assumption) ?_
    (try simp only [Act.put, List.setIfInBounds_toArray, List.set_cons_zero, List.set_cons_succ])
    refine tkH (i := 5) (oi := { dst := some 27, op := Op.nilCheck (Operand.tmp 26), type := 0, pos := _, after := _, guard := none }) rfl (by assumption) ?_
    (try simp only [Act.put, List.setIfInBounds_toArray, List.set_cons_zero, List.set_cons_succ])
    refine tkH (i := 6) (oi := { dst := some 28, op := Op.fieldAddr 150 (Operand.tmp 27) 14, type := 0, pos := _, after := _, guard := none }) rfl (by assumption) ?_
    (try simp only [Act.put, List.setIfInBounds_toArray, List.set_cons_zero, List.set_cons_succ])
    refine tkH (i := 7) (oi := { dst := some 29, op := Op.load 35 (Operand.tmp 28), type := 35, pos := _, after := _, guard := none }) rfl (by assumption) ?_
    (try simp only [Act.put, List.setIfInBounds_toArray, List.set_cons_zero, List.set_cons_succ])
    refine wpAnyH_ready (rs := [8]) (by kernel_rfl) (by simp) ?_
    refine (AllReadyH.cons (o := { dst := some 30, op := Op.call { callee := Callee.value (Operand.func 77), args := #[Operand.tmp 29], argTypes := #[35] }, type := 35, pos := _, after := _, guard := none }) rfl (fun KQ hK => ?_) AllReadyH.nil)
    go_simp
    refine (bclone_any _ l.D _ l.dc _ (by omega) (by exact HD.out.drew)).mono ?_
    rintro e W4 ⟨D, dc, rfl, hs4, hk4, hf4⟩
    have b1 := HB.out.drew.keepS hk4 (by simp)
    have S4 := Lib.hid hs4
    have K4 := Lib.hid (((Keep.refl w1.heap.size [] w1).drew).trans hk4)
    have F4 := Lib.hid hf4
    have y1 : (fun w' => w'.cell? ⟨p, 12, none⟩ = some (.string (strOfNums plan)) ∧ w'.cell? ⟨p, 17, none⟩ = some (.slice l.D K.dat.length l.dc)) W4 := ⟨by rw [← CN.out]; exact b1.cell 12, b1.cell 17⟩
    clear hs4 hk4 hf4 b1
    refine hK.out _ _ (by exact y1) (fun hHeld => ?_)
    clear hK KQ
    (try simp only [Act.put, List.setIfInBounds_toArray, List.set_cons_zero, List.set_cons_succ])
    refine tkH (i := 9) (oi := { dst := some 2, op := Op.assign (Operand.tmp 25), type := 9, pos := _, after := _, guard := none }) rfl (by assumption) ?_
    (try simp only [Act.put, List.setIfInBounds_toArray, List.set_cons_zero, List.set_cons_succ])
    refine tkH (i := 10) (oi := { dst := some 3, op := Op.assign (Operand.tmp 30), type := 35, pos := _, after := _, guard := none }) rfl (by assumption) ?_
    (try simp only [Act.put, List.setIfInBounds_toArray, List.set_cons_zero, List.set_cons_succ])
    refine tkH (i := 11) (oi := { dst := some 4, op := Op.assign (Operand.const (Value.bool true)), type := 4, pos := _, after := _, guard := none }) rfl (by assumption) ?_
    (try simp only [Act.put, List.setIfInBounds_toArray, List.set_cons_zero, List.set_cons_succ])
    refine wpAnyH_done (by kernel_rfl) ?_ _
    go_wp2_with fail
    go_ret3
    exact ⟨D, dc, rfl, S4.out, K4.out, F4.out⟩
  · rw [hpI] at c8
    go_enter Try.func32, Try.ntmps32
    go_wp2_with fail
    refine (kok_w _ p F c l K HB.out).mono ?_
    rintro e w1 ⟨rfl, rfl⟩
    go_upto_region 3 with fail
    refine wp_region_held_drew (S := (fun w' => w'.cell? ⟨p, 12, none⟩ = some (.string (strOfNums plan)) ∧ w'.cell? ⟨p, 17, none⟩ = some (.slice l.D K.dat.length l.dc))) (by kernel_rfl) (by exact ⟨c12, c17⟩) (fun hHeld => ?_)
    refine tkH (i := 0) (oi := { dst := some 22, op := Op.move (Operand.tmp 0), type := 79, pos := _, after := _, guard := none }) rfl (by assumption) ?_
    (try simp only [Act.put, List.setIfInBounds_toArray, List.set_cons_zero, List.set_cons_succ])
    refine tkH (i := 1) (oi := { dst := some 23, op := Op.nilCheck (Operand.tmp 22), type := 0, pos := _, after := _, guard := none }) rfl (by assumption) ?_
    (try simp only [Act.put, List.setIfInBounds_toArray, List.set_cons_zero, List.set_cons_succ])
    refine tkH (i := 2) (oi := { dst := some 24, op := Op.fieldAddr 150 (Operand.tmp 23) 9, type := 0, pos := _, after := _, guard := none }) rfl (by assumption) ?_
    (try simp only [Act.put, List.setIfInBounds_toArray, List.set_cons_zero, List.set_cons_succ])
    refine tkH (i := 3) (oi := { dst := some 25, op := Op.load 9 (Operand.tmp 24), type := 9, pos := _, after := _, guard := none }) rfl (by assumption) ?_
    (try simp only [Act.put, List.setIfInBounds_toArray, List.set_cons_zero, List.set_cons_succ])
    refine tkH (i := 4) (oi := { dst := some 26, op := Op.move (Operand.tmp 0), type := 79, pos := _, after := _, guard := none }) rfl (by assumption) ?_
    (try simp only [Act.put, List.setIfInBounds_toArray, List.set_cons_zero, List.set_cons_succ])
    refine tkH (i := 5) (oi := { dst := some 27, op := Op.nilCheck (Operand.tmp 26), type := 0, pos := _, after := _, guard := none }) rfl (by assumption) ?_
    (try simp only [Act.put, List.setIfInBounds_toArray, List.set_cons_zero, List.set_cons_succ])
    refine tkH (i := 6) (oi := { dst := some 28, op := Op.fieldAddr 150 (Operand.tmp 27) 14, type := 0, pos := _, after := _, guard := none }) rfl (by assumption) ?_
    (try simp only [Act.put, List.setIfInBounds_toArray, List.set_cons_zero, List.set_cons_succ])
    refine tkH (i := 7) (oi := { dst := some 29, op := Op.load 35 (Operand.tmp 28), type := 35, pos := _, after := _, guard := none }) rfl (by assumption) ?_
    (try simp only [Act.put, List.setIfInBounds_toArray, List.set_cons_zero, List.set_cons_succ])
    refine wpAnyH_ready (rs := [8]) (by kernel_rfl) (by simp) ?_
    refine (AllReadyH.cons (o := { dst := some 30, op := Op.call { callee := Callee.value (Operand.func 77), args := #[Operand.tmp 29], argTypes := #[35] }, type := 35, pos := _, after := _, guard := none }) rfl (fun KQ hK => ?_) AllReadyH.nil)
    go_simp
    refine (bclone_any _ l.D _ l.dc _ (by omega) (by exact HD.out.drew)).mono ?_
    rintro e W4 ⟨D, dc, rfl, hs4, hk4, hf4⟩
    have b1 := HB.out.drew.keepS hk4 (by simp)
    have S4 := Lib.hid hs4
    have K4 := Lib.hid (((Keep.refl w1.heap.size [] w1).drew).trans hk4)
    have F4 := Lib.hid hf4
    have y1 : (fun w' => w'.cell? ⟨p, 12, none⟩ = some (.string (strOfNums plan)) ∧ w'.cell? ⟨p, 17, none⟩ = some (.slice l.D K.dat.length l.dc)) W4 := ⟨by rw [← CN.out]; exact b1.cell 12, b1.cell 17⟩
    clear hs4 hk4 hf4 b1
    refine hK.out _ _ (by exact y1) (fun hHeld => ?_)
    clear hK KQ
    (try simp only [Act.put, List.setIfInBounds_toArray, List.set_cons_zero, List.set_cons_succ])
    refine tkH (i := 9) (oi := { dst := some 2, op := Op.assign (Operand.tmp 25), type := 9, pos := _, after := _, guard := none }) rfl (by assumption) ?_
    (try simp only [Act.put, List.setIfInBounds_toArray, List.set_cons_zero, List.set_cons_succ])
    refine tkH (i := 10) (oi := { dst := some 3, op := Op.assign (Operand.tmp 30), type := 35, pos := _, after := _, guard := none }) rfl (by assumption) ?_
    (try simp only [Act.put, List.setIfInBounds_toArray, List.set_cons_zero, List.set_cons_succ])
    refine tkH (i := 11) (oi := { dst := some 4, op := Op.assign (Operand.const (Value.bool true)), type := 4, pos := _, after := _, guard := none }) rfl (by assumption) ?_
    (try simp only [Act.put, List.setIfInBounds_toArray, List.set_cons_zero, List.set_cons_succ])
    refine wpAnyH_done (by kernel_rfl) ?_ _
    go_wp2_with fail
    go_ret3
    exact ⟨D, dc, rfl, S4.out, K4.out, F4.out⟩
set_option maxRecDepth 100000 in
set_option maxHeartbeats 4000000 in
theorem kclose_w (w : World) (p : Nat) (F : List Int) (c : Nat) (l : Ly) (K : Sk) (t : Nat) (hs : K.now ≤ t) (ht : t ≤ 1000) (hp : K.ph = 1) (hb : Blk w p TK (kcs F c l K)) : Calls Try.prog 33 #[ptr p, .int .i64 0, .int .i64 t] w fun e w' => e = .returned (.int .i64 0) ∧ Blk w' p TK (kcs F c l { K with now := t, ph := 2, dd := true, tm := t, tr := 0 }) ∧ Keep w.heap.size [p] w w' := by
  have hpI : (K.ph : Int) = 1 := by omega
  have HB := Lib.hid hb
  clear hb
  go_enter Try.func33, Try.ntmps33
  go_wp2_with fail
  refine (kok_w _ p F c l K HB.out).mono ?_
  rintro e w1 ⟨rfl, rfl⟩
  go_wp2_with fail
  refine (kadv_w _ p F c l K t hs ht HB.out).mono ?_
  rintro e W2 ⟨rfl, bp, hk2⟩
  have c8 : W2.cell? ⟨p, 8, none⟩ = some (.int .i64 K.ph) := bp.cell 8
  have c23 : W2.cell? ⟨p, 23, none⟩ = some (.bool K.dd) := bp.cell 23
  have c24 : W2.cell? ⟨p, 24, none⟩ = some (.int .i64 0) := bp.cell 24
  have fc8 := bp.frozen 8
  have fc23 := bp.frozen 23
  have fc24 := bp.frozen 24
  rw [hpI] at c8
  have B2 := Lib.hid bp
  have K2 : Hid (Keep w1.heap.size [p] w1 W2) := Lib.hid hk2
  clear bp hk2
  go_wp2_with fail
  refine (kwithin_b _ 0 0 17 true (by rfl)).mono ?_
  rintro e W3 ⟨rfl, rfl⟩
  go_wp2_with fail
  have B3 : Hid (Blk ((W2.setCell ⟨p, 8, none⟩ (.int .i64 2)).setCell ⟨p, 24, none⟩ (.int .i64 0)) p TK (kcs F c l { K with now := t, ph := 2 })) := Lib.hid ((B2.out.set_ 8 _).set_ 24 _)
  refine (kack_w _ p F c l { K with now := t, ph := 2 } B3.out).mono ?_
  rintro e W3 ⟨rfl, rfl⟩
  go_wp2_with fail
  have B4 : Hid (Blk (((W2.setCell ⟨p, 8, none⟩ (.int .i64 2)).setCell ⟨p, 24, none⟩ (.int .i64 0)).setCell ⟨p, 23, none⟩ (.bool true)) p TK (kcs F c l { K with now := t, ph := 2, dd := true })) := Lib.hid (B3.out.set_ 23 _)
  have K4 : Hid (Keep w1.heap.size [p] w1 (((W2.setCell ⟨p, 8, none⟩ (.int .i64 2)).setCell ⟨p, 24, none⟩ (.int .i64 0)).setCell ⟨p, 23, none⟩ (.bool true))) := Lib.hid (((K2.out.set1).set1).set1)
  refine (kprog_w _ p F c l { K with now := t, ph := 2, dd := true } B4.out).mono ?_
  rintro e W5 ⟨rfl, hb5, hk5⟩
  have B5 := Lib.hid hb5
  have K5 : Hid (Keep w1.heap.size [p] w1 W5) := Lib.hid (K4.out.trans (hk5.mono K4.out.size (by simp)))
  clear hb5 hk5
  go_wp2_with fail
  go_ret
  exact ⟨rfl, B5.out, K5.out⟩
def KnPost (w : World) (F : List Int) (c : Nat) (e : Ending) (w' : World) : Prop :=
  ∃ p l, e = .returned (.tuple #[ptr p, .int .i64 0]) ∧ SkAt w' p F c l sk0 ∧ Keep w.heap.size [] w w' ∧ ∀ y, y ∈ sbl p l → w.heap.size ≤ y
set_option maxRecDepth 100000 in
set_option maxHeartbeats 4000000 in
theorem knew_w (w : World) (F : List Int) (c : Nat) (hc : 8 ≤ c) (hc2 : c ≤ 512) : Calls Try.prog 29 #[.agg #[.int .i64 1, .int .i64 7], .int .i64 2, .agg #[.int .i64 c, .int .i64 10, .int .i64 50]] w (KnPost w F c) := by
  go_enter Try.func29, Try.ntmps29
  go_wp2_with fail
  refine (kwithin_b _ 1 0 15 true (by rfl)).mono ?_
  rintro e W3 ⟨rfl, rfl⟩
  go_wp2_with fail
  refine (kwithin_b _ 7 0 65535 true (by rfl)).mono ?_
  rintro e W3 ⟨rfl, rfl⟩
  go_wp2_with fail
  refine (kwithin_b _ 2 1 2 true (by rfl)).mono ?_
  rintro e W3 ⟨rfl, rfl⟩
  go_wp2_with fail
  refine (kwithin_b _ c 1 512 true (inB_iff.2 (by omega))).mono ?_
  rintro e W3 ⟨rfl, rfl⟩
  go_wp2_with fail
  refine (kwithin_b _ 10 1 1048576 true (by rfl)).mono ?_
  rintro e W3 ⟨rfl, rfl⟩
  go_wp2_with fail
  refine (kwithin_b _ 50 0 255 true (by rfl)).mono ?_
  rintro e W3 ⟨rfl, rfl⟩
  go_wp2_with fail
  go_ret2
  obtain ⟨W, hW⟩ : ∃ W, W = (w.alloc (.cells #[.int .i64 1, .int .i64 7] 75)).alloc (.cells #[.int .i64 c, .int .i64 10, .int .i64 50] 73) := ⟨_, rfl⟩
  have ka : Keep w.heap.size [] w W := by rw [hW]; exact ((Keep.refl _ _ w).alloc (Nat.le_refl _) _).alloc (by simp) _
  have hsz : W.heap.size = w.heap.size + 1 + 1 := by rw [hW]; simp
  refine ⟨w.heap.size + 1 + 1, ⟨none, 0, none, 0⟩, rfl, ⟨?_, Sl.nil _ _ _, (by intro x hx; cases hx), by simp [blks], Sl.nil _ _ _, by simp [blks], by simp [blks]⟩, ?_, fun y hy => ?_⟩
  · have h := Blk.new W TK (kcs F c ⟨none, 0, none, 0⟩ sk0)
    rw [hsz, hW] at h
    exact h
  · have h := ka.alloc (o := .cells (kcs F c ⟨none, 0, none, 0⟩ sk0) TK) ka.size
    rw [hW] at h
    exact h
  · simp only [sbl, blks, List.append_nil, List.mem_singleton] at hy
    omega
end Go.Proofs.Ytfkbcflgbjncdaa
