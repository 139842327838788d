/- The sending end: its block, its small methods. -/
import Derived.Test.YtfkbcflgbjncdaaTxR
import Derived.Test.YtfkbcflgbjncdaaTxJ
import Derived.Test.YtfkbcflgbjncdaaTxT
import Derived.Test.YtfkbcflgbjncdaaBig
namespace Go.Proofs.Ytfkbcflgbjncdaa
set_option linter.unusedVariables false
set_option linter.unusedSimpArgs false
open Go.RowKit
abbrev TS : TypeId := 148
abbrev ptr (p : Nat) : Value := .pointer (some ⟨p, 0, none⟩)
def plan : List Int := [112, 108, 97, 110]
/-- where the parts of an end lie -/
structure Ly where
  D : Option Addr
  dc : Nat
  W : Option Addr
  wc : Nat
def scs (F : List Int) (c : Nat) (l : Ly) (S : Sr) : Array Value := #[.bool true, .int .i64 1, .int .i64 7, .int .i64 2, .string (strOfNums plan), .slice l.D F.length l.dc, .int .i64 c, .int .i64 10, .int .i64 50, .int .i64 S.now, .int .i64 S.ph, .bool false, .bool S.st, .int .i64 S.pos, .bool S.me, .slice l.W S.wd.length l.wc, .bool S.ack, .int .i64 S.tm, .int .i64 S.tr, .bool S.due, .int .i64 0]
/-- a unit as the program has it -/
def upd (F : List Int) : Ut → Pd
  | .md => ⟨1, 1, 7, 2, plan, F.length, 0, [], 0, 0, []⟩
  | .pc a b => ⟨2, 1, 7, 0, [], 0, a, (F.drop a).take (b - a), 0, 0, []⟩
  | .ef => ⟨3, 1, 7, 2, [], F.length, 0, [], sumO F, 0, []⟩
  | .nk m L => ⟨4, 1, 7, 0, [], 0, 0, [], 0, 0, (if m then [⟨0, 0⟩] else []) ++ L⟩
  | .fi => ⟨5, 1, 7, 0, [], 0, 0, [], 0, 0, []⟩
  | .ae => ⟨6, 1, 7, 0, [], 0, 0, [], 0, 0, []⟩
  | .ad => ⟨7, 1, 7, 0, [], 0, 0, [], 0, 0, []⟩
def zcs : Array Value := #[.int .i64 0, .int .i64 0, .int .i64 0, .int .i64 0, .string ⟨#[]⟩, .int .i64 0, .int .i64 0, .slice none 0 0, .int .u32 0, .int .i64 0, .slice none 0 0]
theorem newPd (w : World) : ∃ (W : World) (q : Nat), W = w.alloc (.cells zcs TP) ∧ q = w.heap.size ∧ Blk W q TP zcs ∧ Keep w.heap.size [] w W := ⟨_, _, rfl, rfl, Blk.new _ _ _, (Keep.refl _ _ _).alloc (Nat.le_refl _) _⟩
theorem Blk.setCellsFar {g q : Nat} {t : TypeId} {cs : Array Value} (h : g ≠ q) : ∀ (vs : List Value) (o : Nat) (w : World), Blk w g t cs → Blk (w.setCells q o vs) g t cs
  | [], o, w, hb => hb
  | v :: vs, o, w, hb => Blk.setCellsFar h vs (o + 1) _ (hb.far (p := ⟨q, o, none⟩) h v)
theorem infoPd : (Try.prog.info? 85).map (·.size) = some 11 := by kernel_rfl
theorem step_store_mid {P : Program} {ops : Array Oper} {o : Oper} {a : Act} {w : World} {K : Act → World → Prop} {Q : Exit → Act → World → Prop} {E : Prop} (hgd : o.guard = none) (ty : TypeId) (x y : Operand) (ho : o.op = .store ty x y)
    (b k : Nat) (cells : Array Value) (hx : a.eval x = .pointer (some ⟨b, k, none⟩)) (hy : a.eval y = .agg cells)
    (ht : w.there b k cells.size) (hi : (P.info? ty).map (·.size) = some cells.size) (h1 : cells.all (·.oneCell') = true)
    (h : K (a.put o.dst undef) (w.setCells b k cells.toList)) :
    if Region.wanted o (yielded ops a.tmps) = true then Oper.wp P o a w K Q else E := by
  have hw : Region.wanted o (yielded ops a.tmps) = true := by simp [Region.wanted, hgd]
  rw [if_pos hw]
  exact wp_store_mid ty x y ho b k cells hx hy ht hi h1 h
theorem res_finish (w : World) (tmps : Array Value) (g : Nat) (p : Pd) (l : Lc) (h2 : tmps.getD 2 undef = ptr g) (hb : Blk w g TP (pcs p l)) : (results Try.f81 tmps).run Try.prog w = .ok (.agg (pcs p l)) w := by
  have hl := run_loadVar_mid (P := Try.prog) w g 0 85 (pcs p l).toList _ hb.range Try.underlying85 rfl (by rw [infoPd]; rfl)
  simp only [Array.getD_eq_getD_getElem?] at h2
  simp [results, Try.results81, h2, asAddr, hl]
theorem res_eof (w : World) (tmps : Array Value) (g : Nat) (p : Pd) (l : Lc) (h2 : tmps.getD 4 undef = ptr g) (hb : Blk w g TP (pcs p l)) : (results Try.f82 tmps).run Try.prog w = .ok (.agg (pcs p l)) w := by
  have hl := run_loadVar_mid (P := Try.prog) w g 0 85 (pcs p l).toList _ hb.range Try.underlying85 rfl (by rw [infoPd]; rfl)
  simp only [Array.getD_eq_getD_getElem?] at h2
  simp [results, Try.results82, h2, asAddr, hl]
theorem res_metadata (w : World) (tmps : Array Value) (g : Nat) (p : Pd) (l : Lc) (h2 : tmps.getD 2 undef = ptr g) (hb : Blk w g TP (pcs p l)) : (results Try.f83 tmps).run Try.prog w = .ok (.agg (pcs p l)) w := by
  have hl := run_loadVar_mid (P := Try.prog) w g 0 85 (pcs p l).toList _ hb.range Try.underlying85 rfl (by rw [infoPd]; rfl)
  simp only [Array.getD_eq_getD_getElem?] at h2
  simp [results, Try.results83, h2, asAddr, hl]
theorem res_piece (w : World) (tmps : Array Value) (g : Nat) (p : Pd) (l : Lc) (h2 : tmps.getD 6 undef = ptr g) (hb : Blk w g TP (pcs p l)) : (results Try.f130 tmps).run Try.prog w = .ok (.agg (pcs p l)) w := by
  have hl := run_loadVar_mid (P := Try.prog) w g 0 85 (pcs p l).toList _ hb.range Try.underlying85 rfl (by rw [infoPd]; rfl)
  simp only [Array.getD_eq_getD_getElem?] at h2
  simp [results, Try.results130, h2, asAddr, hl]
theorem res_again (w : World) (tmps : Array Value) (g : Nat) (p : Pd) (l : Lc) (h2 : tmps.getD 2 undef = ptr g) (hb : Blk w g TP (pcs p l)) : (results Try.f84 tmps).run Try.prog w = .ok (.agg (pcs p l)) w := by
  have hl := run_loadVar_mid (P := Try.prog) w g 0 85 (pcs p l).toList _ hb.range Try.underlying85 rfl (by rw [infoPd]; rfl)
  simp only [Array.getD_eq_getD_getElem?] at h2
  simp [results, Try.results84, h2, asAddr, hl]
theorem res_forward (w : World) (tmps : Array Value) (g : Nat) (p : Pd) (l : Lc) (h2 : tmps.getD 2 undef = ptr g) (hb : Blk w g TP (pcs p l)) : (results Try.f85 tmps).run Try.prog w = .ok (.agg (pcs p l)) w := by
  have hl := run_loadVar_mid (P := Try.prog) w g 0 85 (pcs p l).toList _ hb.range Try.underlying85 rfl (by rw [infoPd]; rfl)
  simp only [Array.getD_eq_getD_getElem?] at h2
  simp [results, Try.results85, h2, asAddr, hl]
theorem res_repeat (w : World) (tmps : Array Value) (g : Nat) (p : Pd) (l : Lc) (b : Bool) (h2 : tmps.getD 2 undef = ptr g) (h3 : tmps.getD 3 undef = .bool b) (hb : Blk w g TP (pcs p l)) : (results Try.f86 tmps).run Try.prog w = .ok (.tuple #[.agg (pcs p l), .bool b]) w := by
  have hl := run_loadVar_mid (P := Try.prog) w g 0 85 (pcs p l).toList _ hb.range Try.underlying85 rfl (by rw [infoPd]; rfl)
  simp only [Array.getD_eq_getD_getElem?] at h2 h3
  simp [results, Try.results86, h2, h3, asAddr, hl]
theorem res_Next (w : World) (tmps : Array Value) (g : Nat) (p : Pd) (l : Lc) (b : Bool) (h2 : tmps.getD 4 undef = ptr g) (h3 : tmps.getD 5 undef = .bool b) (hb : Blk w g TP (pcs p l)) : (results Try.f30 tmps).run Try.prog w = .ok (.tuple #[.agg (pcs p l), .bool b]) w := by
  have hl := run_loadVar_mid (P := Try.prog) w g 0 85 (pcs p l).toList _ hb.range Try.underlying85 rfl (by rw [infoPd]; rfl)
  simp only [Array.getD_eq_getD_getElem?] at h2 h3
  simp [results, Try.results30, h2, h3, asAddr, hl]
theorem thereQ {w : World} {q : Nat} (h : Blk w q TP zcs) : w.there q 0 11 := h.there 0 11 (by decide)
theorem upd_cells (p : Pd) (l : Lc) : (pcs p l).all (·.oneCell') = true := by simp [pcs, Value.oneCell']
set_option maxHeartbeats 1000000 in
/-- slices.Clone of bytes -/
theorem bclone_any (w : World) (X : Option Addr) (m c : Nat) (L : List Int) (hm : m ≤ 1000000) (hv : Vw w X m 1 (octs L)) : Calls Try.prog 77 #[.slice X m c] w fun e w' => ∃ A c', e = .returned (.slice A m c') ∧ Sl w' 5 1 A m c' (octs L) ∧ Keep w.heap.size [] w w' ∧ ∀ x, x ∈ blks A → w.heap.size ≤ x := by
  have HV := Lib.hid hv
  have hlen : L.length = m := by have := hv.1; simpa using this
  clear hv
  obtain ⟨i0, hi0, hz0, hz1, hz2⟩ := info_parts infoU8
  have h1 : ∀ u ∈ octs L, u.oneCell' = true := by
    intro u hu
    obtain ⟨x, _, rfl⟩ := List.mem_map.1 hu
    rfl
  have H1 := Lib.hid h1
  clear h1
  have hq := fun W : World => Lib.run_eql_slice_nil (P := Try.prog) W 35 5 X m c 0 0 Try.underlying35
  cases X with
  | none =>
    have h0 : m = 0 := by
      rcases Nat.eq_zero_or_pos m with h | h
      · exact h
      · obtain ⟨_, _, h, _⟩ := HV.out.2 h; cases h
    subst h0
    have hl : L = [] := List.eq_nil_of_length_eq_zero hlen
    subst hl
    clear hlen
    go_enter Try.func77, Try.ntmps77
    go_wp2_with fail
    go_ret
    exact ⟨none, 0, rfl, Sl.nil _ _ _, Keep.refl _ _ _, by simp [blks]⟩
  | some a =>
    clear hlen
    go_enter Try.func77, Try.ntmps77
    go_wp2_with (at_builtin
                 refine wpList_appV _ rfl (.tmp 5) (.tmp 6) 35 rfl 5 i0 _ 1 1 Try.underlying35 hi0 hz0 hz1 hz2 rfl (by omega) (some ⟨w.heap.size, 0, none⟩) 0 0 [] rfl (World.ownsRow_made w #[] 0 (Nat.zero_le _) (by unfold maxLen; omega) rfl) (some a) m c (octs L) rfl (HV.out.alloc _) H1.out (by omega) (by omega) ?_
                 intro A2 c2 w3 hs3 hk3 hb3
                 have HS3 := Lib.hid hs3
                 have HK3 := Lib.hid hk3
                 have HB3 := Lib.hid hb3
                 clear hs3 hk3 hb3)
    go_ret
    refine ⟨A2, c2, ?_, by simpa using HS3.out, ((Keep.refl _ _ w).alloc (Nat.le_refl _) _).chain (Nat.le_refl _) HK3.out (fun x hx => by simp [blks] at hx; omega), fun x hx => ?_⟩
    · first | rfl | (rw [Nat.zero_add])
    · rcases HB3.out x hx with h | h
      · simp [blks] at h; omega
      · simp at h; omega
theorem sok_w (w : World) (p : Nat) (F : List Int) (c : Nat) (l : Ly) (S : Sr) (hb : Blk w p TS (scs F c l S)) : Calls Try.prog 79 #[ptr p] w fun e w' => e = .returned (.bool true) ∧ w' = w := by
  have e0 : w.cell? ⟨p, 0, none⟩ = some (.bool true) := hb.cell 0
  clear hb
  go_enter Try.func79, Try.ntmps79
  go_wp2_with fail
  go_ret
  exact ⟨rfl, rfl⟩
theorem pass_w (w : World) (p : Nat) (F : List Int) (c : Nat) (l : Ly) (S : Sr) (t : Nat) (hs : S.now ≤ t) (ht : t ≤ 1000) (hb : Blk w p TS (scs F c l S)) : Calls Try.prog 80 #[ptr p, .int .i64 t] w fun e w' => e = .returned (.tuple #[]) ∧ Blk w' p TS (scs F c l { S with now := t }) ∧ Keep w.heap.size [p] w w' := by
  have e0 : w.cell? ⟨p, 9, none⟩ = some (.int .i64 S.now) := hb.cell 9
  have f0 := hb.frozen 9
  have HB := Lib.hid hb
  clear hb
  rcases Nat.lt_or_ge S.now t with h | h
  · have h1 : (S.now : Int) < (t : Int) := by omega
    go_enter Try.func80, Try.ntmps80
    go_wp2_with fail
    go_end0
    exact ⟨rfl, HB.out.set_ 9 _, (Keep.refl _ _ _).set1⟩
  · have h2 : S.now = t := by omega
    subst h2
    go_enter Try.func80, Try.ntmps80
    go_wp2_with fail
    go_end0
    exact ⟨rfl, HB.out, Keep.refl _ _ _⟩
set_option maxRecDepth 100000 in
set_option maxHeartbeats 2000000 in
theorem finish_w (w : World) (p : Nat) (F : List Int) (c : Nat) (l : Ly) (S : Sr) (hp : S.ph = 2 ∨ S.ph = 4) (hb : Blk w p TS (scs F c l S)) : Calls Try.prog 81 #[ptr p] w fun e w' => e = .returned (.agg (pcs (upd F .ad) zL)) ∧ Blk w' p TS (scs F c l { S with due := false, ph := 4 }) ∧ Keep w.heap.size [p] w w' := by
  have HB := Lib.hid hb
  clear hb
  go_enter Try.func81, Try.ntmps81
  go_upto_region 1 with fail
  obtain ⟨W, q, hW, hq, bq, ka⟩ := newPd w
  have bp := HB.out.keepS ka (by simp)
  have hpq : p ≠ q := by have := HB.out.lt; omega
  have hqp : q ≠ p := hpq.symm
  change Code.wp _ _ _ _ (w.alloc (.cells zcs TP))
  rw [← hW, ← hq]
  have HQ := Lib.hid hq
  clear hW hq
  have c1 : W.cell? ⟨p, 1, none⟩ = some (.int .i64 1) := bp.cell 1
  have c2 : W.cell? ⟨p, 2, none⟩ = some (.int .i64 7) := bp.cell 2
  have c10 : W.cell? ⟨p, 10, none⟩ = some (.int .i64 S.ph) := bp.cell 10
  have c19 : W.cell? ⟨p, 19, none⟩ = some (.bool S.due) := bp.cell 19
  have c20 : W.cell? ⟨p, 20, none⟩ = some (.int .i64 0) := bp.cell 20
  have fc10 := bp.frozen 10
  have fc19 := bp.frozen 19
  have BP := Lib.hid bp
  have BQ := Lib.hid bq
  have KA := Lib.hid ka
  clear bp bq ka
  rcases hp with hp | hp
  · have h1 : (S.ph : Int) = 2 := by omega
    rw [h1] at c10
    go_wp2_with (refine wpList_store_mid rfl TP (.tmp 2) (.tmp 26) rfl q 0 (pcs (upd F .ad) zL) rfl rfl (by refine thereQ ?_; repeat (first | with_reducible exact BQ.out | refine Blk.far ?_ hqp _)) infoPd (by exact upd_cells _ _) ?_)
    refine bodyPost_ret (res_finish _ _ q (upd F .ad) (zL) rfl (by refine Blk.setAll (cs := zcs) (vs := pcs (upd F .ad) (zL)) ?_ rfl; repeat (first | with_reducible exact BQ.out | refine Blk.far ?_ hqp _))) rfl ?_
    exact ⟨rfl, Blk.setCellsFar hpq _ _ _ (((BP.out.set_ 19 _).set_ 10 _).set_ 10 _), Keep.setCells (.inl (by rw [HQ.out]; exact Nat.le_refl _)) _ _ _ (((KA.out.mono (S' := [p]) (Nat.le_refl _) (by simp)).set1).set1).set1⟩
  · have h1 : (S.ph : Int) = 4 := by omega
    rw [h1] at c10
    have BP4 : Hid (Blk W p TS (scs F c l { S with ph := 4 })) := Lib.hid (by have := BP.out; rw [show S = { S with ph := 4 } by rw [← hp]] at this; exact this)
    go_wp2_with (refine wpList_store_mid rfl TP (.tmp 2) (.tmp 26) rfl q 0 (pcs (upd F .ad) zL) rfl rfl (by refine thereQ ?_; repeat (first | with_reducible exact BQ.out | refine Blk.far ?_ hqp _)) infoPd (by exact upd_cells _ _) ?_)
    refine bodyPost_ret (res_finish _ _ q (upd F .ad) (zL) rfl (by refine Blk.setAll (cs := zcs) (vs := pcs (upd F .ad) (zL)) ?_ rfl; repeat (first | with_reducible exact BQ.out | refine Blk.far ?_ hqp _))) rfl ?_
    exact ⟨rfl, Blk.setCellsFar hpq _ _ _ (BP4.out.set_ 19 _), Keep.setCells (.inl (by rw [HQ.out]; exact Nat.le_refl _)) _ _ _ (KA.out.mono (S' := [p]) (Nat.le_refl _) (by simp)).set1⟩
set_option maxRecDepth 100000 in
set_option maxHeartbeats 2000000 in
theorem metadata_w (w : World) (p : Nat) (F : List Int) (c : Nat) (l : Ly) (S : Sr) (hb : Blk w p TS (scs F c l S)) : Calls Try.prog 83 #[ptr p] w fun e w' => e = .returned (.agg (pcs (upd F .md) zL)) ∧ Keep w.heap.size [] w w' := by
  have HB := Lib.hid hb
  clear hb
  go_enter Try.func83, Try.ntmps83
  go_upto_region 1 with fail
  obtain ⟨W, q, hW, hq, bq, ka⟩ := newPd w
  have bp := HB.out.keepS ka (by simp)
  have hpq : p ≠ q := by have := HB.out.lt; omega
  have hqp : q ≠ p := hpq.symm
  change Code.wp _ _ _ _ (w.alloc (.cells zcs TP))
  rw [← hW, ← hq]
  have HQ := Lib.hid hq
  clear hW hq
  have c1 : W.cell? ⟨p, 1, none⟩ = some (.int .i64 1) := bp.cell 1
  have c2 : W.cell? ⟨p, 2, none⟩ = some (.int .i64 7) := bp.cell 2
  have c3 : W.cell? ⟨p, 3, none⟩ = some (.int .i64 2) := bp.cell 3
  have c5 : W.cell? ⟨p, 5, none⟩ = some (.slice l.D F.length l.dc) := bp.cell 5
  have c4 : W.cell? ⟨p, 4, none⟩ = some (.string (strOfNums plan)) := bp.cell 4
  have BP := Lib.hid bp
  have BQ := Lib.hid bq
  have KA := Lib.hid ka
  clear bp bq ka
  have y0 : W.drew.cell? ⟨p, 1, none⟩ = some (.int .i64 1) ∧ W.drew.cell? ⟨p, 2, none⟩ = some (.int .i64 7) ∧ W.drew.cell? ⟨p, 3, none⟩ = some (.int .i64 2) ∧ W.drew.cell? ⟨p, 5, none⟩ = some (.slice l.D F.length l.dc) ∧ W.drew.cell? ⟨p, 4, none⟩ = some (.string (strOfNums plan)) := ⟨c1, c2, c3, c5, c4⟩
  refine region_anyZ 18 (S := (fun w' => w'.cell? ⟨p, 1, none⟩ = some (.int .i64 1) ∧ w'.cell? ⟨p, 2, none⟩ = some (.int .i64 7) ∧ w'.cell? ⟨p, 3, none⟩ = some (.int .i64 2) ∧ w'.cell? ⟨p, 5, none⟩ = some (.slice l.D F.length l.dc) ∧ w'.cell? ⟨p, 4, none⟩ = some (.string (strOfNums plan)))) (by kernel_rfl) (by exact y0) (fun hHeld => ?_)
  refine tkZ (i := 0) (oi := { dst := some 3, op := Op.move (Operand.tmp 0), type := 76, pos := _, after := _, guard := none }) rfl hHeld ?_
  (try simp only [Act.put, List.setIfInBounds_toArray, List.set_cons_zero, List.set_cons_succ])
  refine tkZ (i := 1) (oi := { dst := some 4, op := Op.nilCheck (Operand.tmp 3), type := 0, pos := _, after := _, guard := none }) rfl hHeld ?_
  (try simp only [Act.put, List.setIfInBounds_toArray, List.set_cons_zero, List.set_cons_succ])
  refine tkZ (i := 2) (oi := { dst := some 5, op := Op.fieldAddr 148 (Operand.tmp 4) 1, type := 0, pos := _, after := _, guard := none }) rfl hHeld ?_
  (try simp only [Act.put, List.setIfInBounds_toArray, List.set_cons_zero, List.set_cons_succ])
  refine tkZ (i := 3) (oi := { dst := some 6, op := Op.load 75 (Operand.tmp 5), type := 75, pos := _, after := _, guard := none }) rfl hHeld ?_
  (try simp only [Act.put, List.setIfInBounds_toArray, List.set_cons_zero, List.set_cons_succ])
  refine tkZ (i := 4) (oi := { dst := some 7, op := Op.move (Operand.tmp 0), type := 76, pos := _, after := _, guard := none }) rfl hHeld ?_
  (try simp only [Act.put, List.setIfInBounds_toArray, List.set_cons_zero, List.set_cons_succ])
  refine tkZ (i := 5) (oi := { dst := some 8, op := Op.nilCheck (Operand.tmp 7), type := 0, pos := _, after := _, guard := none }) rfl hHeld ?_
  (try simp only [Act.put, List.setIfInBounds_toArray, List.set_cons_zero, List.set_cons_succ])
  refine tkZ (i := 6) (oi := { dst := some 9, op := Op.fieldAddr 148 (Operand.tmp 8) 2, type := 0, pos := _, after := _, guard := none }) rfl hHeld ?_
  (try simp only [Act.put, List.setIfInBounds_toArray, List.set_cons_zero, List.set_cons_succ])
  refine tkZ (i := 7) (oi := { dst := some 10, op := Op.load 3 (Operand.tmp 9), type := 3, pos := _, after := _, guard := none }) rfl hHeld ?_
  (try simp only [Act.put, List.setIfInBounds_toArray, List.set_cons_zero, List.set_cons_succ])
  refine tkZ (i := 8) (oi := { dst := some 11, op := Op.move (Operand.tmp 0), type := 76, pos := _, after := _, guard := none }) rfl hHeld ?_
  (try simp only [Act.put, List.setIfInBounds_toArray, List.set_cons_zero, List.set_cons_succ])
  refine tkZ (i := 9) (oi := { dst := some 12, op := Op.nilCheck (Operand.tmp 11), type := 0, pos := _, after := _, guard := none }) rfl hHeld ?_
  (try simp only [Act.put, List.setIfInBounds_toArray, List.set_cons_zero, List.set_cons_succ])
  refine tkZ (i := 10) (oi := { dst := some 13, op := Op.fieldAddr 148 (Operand.tmp 12) 4, type := 0, pos := _, after := _, guard := none }) rfl hHeld ?_
  (try simp only [Act.put, List.setIfInBounds_toArray, List.set_cons_zero, List.set_cons_succ])
  refine tkZ (i := 11) (oi := { dst := some 14, op := Op.load 35 (Operand.tmp 13), type := 35, pos := _, after := _, guard := none }) rfl hHeld ?_
  (try simp only [Act.put, List.setIfInBounds_toArray, List.set_cons_zero, List.set_cons_succ])
  refine tkZ (i := 12) (oi := { dst := some 15, op := Op.call { callee := Callee.builtin Builtin.len, args := #[Operand.tmp 14], argTypes := #[35] }, type := 3, pos := _, after := _, guard := none }) rfl hHeld ?_
  (try simp only [Act.put, List.setIfInBounds_toArray, List.set_cons_zero, List.set_cons_succ])
  refine tkZ (i := 13) (oi := { dst := some 16, op := Op.move (Operand.tmp 0), type := 76, pos := _, after := _, guard := none }) rfl hHeld ?_
  (try simp only [Act.put, List.setIfInBounds_toArray, List.set_cons_zero, List.set_cons_succ])
  refine tkZ (i := 14) (oi := { dst := some 17, op := Op.nilCheck (Operand.tmp 16), type := 0, pos := _, after := _, guard := none }) rfl hHeld ?_
  (try simp only [Act.put, List.setIfInBounds_toArray, List.set_cons_zero, List.set_cons_succ])
  refine tkZ (i := 15) (oi := { dst := some 18, op := Op.fieldAddr 148 (Operand.tmp 17) 3, type := 0, pos := _, after := _, guard := none }) rfl hHeld ?_
  (try simp only [Act.put, List.setIfInBounds_toArray, List.set_cons_zero, List.set_cons_succ])
  refine tkZ (i := 16) (oi := { dst := some 19, op := Op.load 9 (Operand.tmp 18), type := 9, pos := _, after := _, guard := none }) rfl hHeld ?_
  (try simp only [Act.put, List.setIfInBounds_toArray, List.set_cons_zero, List.set_cons_succ])
  refine tkZ (i := 17) (oi := { dst := some 20, op := Op.build 85 #[(0, Operand.const (Value.int IntKind.i64 1)), (1, Operand.tmp 6), (2, Operand.tmp 10), (4, Operand.tmp 15), (3, Operand.tmp 19)], type := 85, pos := _, after := _, guard := none }) rfl hHeld ?_
  (try simp only [Act.put, List.setIfInBounds_toArray, List.set_cons_zero, List.set_cons_succ])
  refine anyZ.ready (rs := [18]) (by kernel_rfl) (by simp) ?_
  refine (AllZ.cons (o := { dst := none, op := Op.store 85 (Operand.tmp 2) (Operand.tmp 20), type := 0, pos := _, after := _, guard := none }) rfl (fun K hK => ?_) AllZ.nil)
  refine step_store_mid rfl TP (.tmp 2) (.tmp 20) rfl q 0 (pcs (upd F .md) zL) rfl rfl (by refine thereQ ?_; repeat (first | with_reducible exact BQ.out.drew | refine Blk.far ?_ hqp _)) infoPd (by exact upd_cells _ _) ?_
  refine hK.out _ _ (fun h => absurd h (by decide)) (fun hHeld => ?_)
  clear hK K
  (try simp only [Act.put, List.setIfInBounds_toArray, List.set_cons_zero, List.set_cons_succ])
  refine anyZ.done (by kernel_rfl) ?_ _
  clear hHeld
  go_wp2_with fail
  refine bodyPost_ret (res_metadata _ _ q (upd F .md) (zL) rfl (by refine Blk.setAll (cs := zcs) (vs := pcs (upd F .md) (zL)) ?_ rfl; repeat (first | with_reducible exact BQ.out.drew | refine Blk.far ?_ hqp _))) rfl ?_
  exact ⟨rfl, Keep.setCells (.inl (by rw [HQ.out]; exact Nat.le_refl _)) _ _ _ KA.out.drew⟩
set_option maxRecDepth 100000 in
set_option maxHeartbeats 2000000 in
theorem eof_w (w : World) (p : Nat) (F : List Int) (c : Nat) (l : Ly) (S : Sr) (hn : F.length ≤ 300) (hd : Vw w l.D F.length 1 (octs F)) (hdc : F.length ≤ l.dc) (ho : Oct F) (hb : Blk w p TS (scs F c l S)) : Calls Try.prog 82 #[ptr p, .int .i64 0] w fun e w' => e = .returned (.agg (pcs (upd F .ef) zL)) ∧ Keep w.heap.size [] w w' := by
  have HB := Lib.hid hb
  have HD := Lib.hid hd
  have HO := Lib.hid ho
  clear hb hd ho
  go_enter Try.func82, Try.ntmps82
  go_upto_region 1 with fail
  obtain ⟨W, q, hW, hq, bq, ka⟩ := newPd w
  have bp := HB.out.keepS ka (by simp)
  have hpq : p ≠ q := by have := HB.out.lt; omega
  have hqp : q ≠ p := hpq.symm
  change Code.wp _ _ _ _ (w.alloc (.cells zcs TP))
  rw [← hW, ← hq]
  have HQ := Lib.hid hq
  clear hW hq
  have c1 : W.cell? ⟨p, 1, none⟩ = some (.int .i64 1) := bp.cell 1
  have c2 : W.cell? ⟨p, 2, none⟩ = some (.int .i64 7) := bp.cell 2
  have c3 : W.cell? ⟨p, 3, none⟩ = some (.int .i64 2) := bp.cell 3
  have c5 : W.cell? ⟨p, 5, none⟩ = some (.slice l.D F.length l.dc) := bp.cell 5
  have c4 : W.cell? ⟨p, 4, none⟩ = some (.string (strOfNums plan)) := bp.cell 4
  have VD := Lib.hid (HD.out.keep0 ka)
  have BP := Lib.hid bp
  have BQ := Lib.hid bq
  have KA := Lib.hid ka
  clear bp bq ka
  have y0 : W.drew.cell? ⟨p, 1, none⟩ = some (.int .i64 1) ∧ W.drew.cell? ⟨p, 2, none⟩ = some (.int .i64 7) ∧ W.drew.cell? ⟨p, 3, none⟩ = some (.int .i64 2) ∧ W.drew.cell? ⟨p, 5, none⟩ = some (.slice l.D F.length l.dc) ∧ W.drew.cell? ⟨p, 4, none⟩ = some (.string (strOfNums plan)) := ⟨c1, c2, c3, c5, c4⟩
  refine region_anyZ 20 (S := (fun w' => w'.cell? ⟨p, 1, none⟩ = some (.int .i64 1) ∧ w'.cell? ⟨p, 2, none⟩ = some (.int .i64 7) ∧ w'.cell? ⟨p, 3, none⟩ = some (.int .i64 2) ∧ w'.cell? ⟨p, 5, none⟩ = some (.slice l.D F.length l.dc) ∧ w'.cell? ⟨p, 4, none⟩ = some (.string (strOfNums plan)))) (by kernel_rfl) (by exact y0) (fun hHeld => ?_)
  refine tkZ (i := 0) (oi := { dst := some 5, op := Op.move (Operand.tmp 0), type := 76, pos := _, after := _, guard := none }) rfl hHeld ?_
  (try simp only [Act.put, List.setIfInBounds_toArray, List.set_cons_zero, List.set_cons_succ])
  refine tkZ (i := 1) (oi := { dst := some 6, op := Op.nilCheck (Operand.tmp 5), type := 0, pos := _, after := _, guard := none }) rfl hHeld ?_
  (try simp only [Act.put, List.setIfInBounds_toArray, List.set_cons_zero, List.set_cons_succ])
  refine tkZ (i := 2) (oi := { dst := some 7, op := Op.fieldAddr 148 (Operand.tmp 6) 1, type := 0, pos := _, after := _, guard := none }) rfl hHeld ?_
  (try simp only [Act.put, List.setIfInBounds_toArray, List.set_cons_zero, List.set_cons_succ])
  refine tkZ (i := 3) (oi := { dst := some 8, op := Op.load 75 (Operand.tmp 7), type := 75, pos := _, after := _, guard := none }) rfl hHeld ?_
  (try simp only [Act.put, List.setIfInBounds_toArray, List.set_cons_zero, List.set_cons_succ])
  refine tkZ (i := 4) (oi := { dst := some 9, op := Op.move (Operand.tmp 0), type := 76, pos := _, after := _, guard := none }) rfl hHeld ?_
  (try simp only [Act.put, List.setIfInBounds_toArray, List.set_cons_zero, List.set_cons_succ])
  refine tkZ (i := 5) (oi := { dst := some 10, op := Op.nilCheck (Operand.tmp 9), type := 0, pos := _, after := _, guard := none }) rfl hHeld ?_
  (try simp only [Act.put, List.setIfInBounds_toArray, List.set_cons_zero, List.set_cons_succ])
  refine tkZ (i := 6) (oi := { dst := some 11, op := Op.fieldAddr 148 (Operand.tmp 10) 2, type := 0, pos := _, after := _, guard := none }) rfl hHeld ?_
  (try simp only [Act.put, List.setIfInBounds_toArray, List.set_cons_zero, List.set_cons_succ])
  refine tkZ (i := 7) (oi := { dst := some 12, op := Op.load 3 (Operand.tmp 11), type := 3, pos := _, after := _, guard := none }) rfl hHeld ?_
  (try simp only [Act.put, List.setIfInBounds_toArray, List.set_cons_zero, List.set_cons_succ])
  refine tkZ (i := 8) (oi := { dst := some 13, op := Op.move (Operand.tmp 0), type := 76, pos := _, after := _, guard := none }) rfl hHeld ?_
  (try simp only [Act.put, List.setIfInBounds_toArray, List.set_cons_zero, List.set_cons_succ])
  refine tkZ (i := 9) (oi := { dst := some 14, op := Op.nilCheck (Operand.tmp 13), type := 0, pos := _, after := _, guard := none }) rfl hHeld ?_
  (try simp only [Act.put, List.setIfInBounds_toArray, List.set_cons_zero, List.set_cons_succ])
  refine tkZ (i := 10) (oi := { dst := some 15, op := Op.fieldAddr 148 (Operand.tmp 14) 4, type := 0, pos := _, after := _, guard := none }) rfl hHeld ?_
  (try simp only [Act.put, List.setIfInBounds_toArray, List.set_cons_zero, List.set_cons_succ])
  refine tkZ (i := 11) (oi := { dst := some 16, op := Op.load 35 (Operand.tmp 15), type := 35, pos := _, after := _, guard := none }) rfl hHeld ?_
  (try simp only [Act.put, List.setIfInBounds_toArray, List.set_cons_zero, List.set_cons_succ])
  refine tkZ (i := 12) (oi := { dst := some 17, op := Op.call { callee := Callee.builtin Builtin.len, args := #[Operand.tmp 16], argTypes := #[35] }, type := 3, pos := _, after := _, guard := none }) rfl hHeld ?_
  (try simp only [Act.put, List.setIfInBounds_toArray, List.set_cons_zero, List.set_cons_succ])
  refine tkZ (i := 13) (oi := { dst := some 18, op := Op.move (Operand.tmp 0), type := 76, pos := _, after := _, guard := none }) rfl hHeld ?_
  (try simp only [Act.put, List.setIfInBounds_toArray, List.set_cons_zero, List.set_cons_succ])
  refine tkZ (i := 14) (oi := { dst := some 19, op := Op.nilCheck (Operand.tmp 18), type := 0, pos := _, after := _, guard := none }) rfl hHeld ?_
  (try simp only [Act.put, List.setIfInBounds_toArray, List.set_cons_zero, List.set_cons_succ])
  refine tkZ (i := 15) (oi := { dst := some 20, op := Op.fieldAddr 148 (Operand.tmp 19) 4, type := 0, pos := _, after := _, guard := none }) rfl hHeld ?_
  (try simp only [Act.put, List.setIfInBounds_toArray, List.set_cons_zero, List.set_cons_succ])
  refine tkZ (i := 16) (oi := { dst := some 21, op := Op.load 35 (Operand.tmp 20), type := 35, pos := _, after := _, guard := none }) rfl hHeld ?_
  (try simp only [Act.put, List.setIfInBounds_toArray, List.set_cons_zero, List.set_cons_succ])
  refine tkZ (i := 18) (oi := { dst := some 23, op := Op.move (Operand.tmp 1), type := 27, pos := _, after := _, guard := none }) rfl hHeld ?_
  (try simp only [Act.put, List.setIfInBounds_toArray, List.set_cons_zero, List.set_cons_succ])
  refine anyZ.ready (rs := [17]) (by kernel_rfl) (by simp) ?_
  refine (AllZ.cons (o := { dst := some 22, op := Op.call { callee := Callee.value (Operand.func 128), args := #[Operand.tmp 21], argTypes := #[35] }, type := 82, pos := _, after := _, guard := none }) rfl (fun K hK => ?_) AllZ.nil)
  go_simp
  refine (sum_w _ l.D F.length l.dc F (by omega) hdc (by exact VD.out.drew) HO.out).mono ?_
  rintro e W1 ⟨rfl, rfl⟩
  refine hK.out _ _ (fun _ => (by exact y0)) (fun hHeld => ?_)
  clear hK K
  replace hHeld := hHeld (by kernel_rfl)
  (try simp only [Act.put, List.setIfInBounds_toArray, List.set_cons_zero, List.set_cons_succ])
  refine tkZ (i := 19) (oi := { dst := some 24, op := Op.build 85 #[(0, Operand.const (Value.int IntKind.i64 3)), (1, Operand.tmp 8), (2, Operand.tmp 12), (4, Operand.tmp 17), (7, Operand.tmp 22), (8, Operand.tmp 23)], type := 85, pos := _, after := _, guard := none }) rfl hHeld ?_
  (try simp only [Act.put, List.setIfInBounds_toArray, List.set_cons_zero, List.set_cons_succ])
  refine anyZ.ready (rs := [20]) (by kernel_rfl) (by simp) ?_
  refine (AllZ.cons (o := { dst := none, op := Op.store 85 (Operand.tmp 4) (Operand.tmp 24), type := 0, pos := _, after := _, guard := none }) rfl (fun K hK => ?_) AllZ.nil)
  refine step_store_mid rfl TP (.tmp 4) (.tmp 24) rfl q 0 (pcs (upd F .ef) zL) rfl rfl (by refine thereQ ?_; repeat (first | with_reducible exact BQ.out.drew | refine Blk.far ?_ hqp _)) infoPd (by exact upd_cells _ _) ?_
  refine hK.out _ _ (fun h => absurd h (by decide)) (fun hHeld => ?_)
  clear hK K
  (try simp only [Act.put, List.setIfInBounds_toArray, List.set_cons_zero, List.set_cons_succ])
  refine anyZ.done (by kernel_rfl) ?_ _
  clear hHeld
  go_wp2_with fail
  refine bodyPost_ret (res_eof _ _ q (upd F .ef) (zL) rfl (by refine Blk.setAll (cs := zcs) (vs := pcs (upd F .ef) (zL)) ?_ rfl; repeat (first | with_reducible exact BQ.out.drew | refine Blk.far ?_ hqp _))) rfl ?_
  exact ⟨rfl, Keep.setCells (.inl (by rw [HQ.out]; exact Nat.le_refl _)) _ _ _ KA.out.drew⟩
end Go.Proofs.Ytfkbcflgbjncdaa
