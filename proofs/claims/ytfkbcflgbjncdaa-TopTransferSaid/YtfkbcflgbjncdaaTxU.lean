/- The sending end: Next. -/
import Derived.Test.YtfkbcflgbjncdaaTxL
namespace Go.Proofs.Ytfkbcflgbjncdaa
set_option linter.unusedVariables false
set_option linter.unusedSimpArgs false
open Go.RowKit
/-- the sending end in a world -/
structure SrAt (w : World) (p : Nat) (F : List Int) (c : Nat) (l : Ly) (S : Sr) : Prop where
  blk : Blk w p TS (scs F c l S)
  data : Vw w l.D F.length 1 (octs F)
  dc : F.length ≤ l.dc ∧ l.dc ≤ maxLen
  nD : p ∉ blks l.D
  want : Vw w l.W S.wd.length 2 (gcs S.wd)
  wc : S.wd.length ≤ l.wc ∧ l.wc ≤ maxLen
  nW : p ∉ blks l.W
/-- its blocks -/
def sbl (p : Nat) (l : Ly) : List Nat := p :: (blks l.D ++ blks l.W)
/-- the data stay where they are; requests lie where they lay, or in a new block -/
def LyOk (w : World) (l l' : Ly) (S S' : Sr) : Prop := l'.D = l.D ∧ (S'.wd ≠ [] → ∀ y, y ∈ blks l'.W → (S.wd ≠ [] ∧ y ∈ blks l.W) ∨ w.heap.size ≤ y)
theorem LyOk.same {w : World} {l : Ly} {S S' : Sr} (h : S'.wd = S.wd) : LyOk w l l S S' := ⟨rfl, fun hn y hy => .inl ⟨h ▸ hn, hy⟩⟩
theorem SrAt.same {w w' : World} {p : Nat} {F : List Int} {c : Nat} {l : Ly} {S S' : Sr} (h : SrAt w p F c l S) (hw : S'.wd = S.wd) (hb : Blk w' p TS (scs F c l S')) (k : Keep w.heap.size [p] w w') : SrAt w' p F c l S' :=
  ⟨hb, h.data.keepS k (fun g hg hm => h.nD (by rw [← List.mem_singleton.1 hm]; exact hg)), h.dc, h.nD, by rw [hw]; exact h.want.keepS k (fun g hg hm => h.nW (by rw [← List.mem_singleton.1 hm]; exact hg)), by rw [hw]; exact h.wc, h.nW⟩
theorem SrAt.keepS {w w' : World} {p : Nat} {F : List Int} {c : Nat} {l : Ly} {S : Sr} {X : List Nat} (h : SrAt w p F c l S) (k : Keep w.heap.size X w w') (hx : ∀ y, y ∈ sbl p l → y ∉ X) : SrAt w' p F c l S :=
  ⟨h.blk.keepS k (hx p (by simp [sbl])), h.data.keepS k (fun g hg => hx g (by simp [sbl, hg])), h.dc, h.nD, h.want.keepS k (fun g hg => hx g (by simp [sbl, hg])), h.wc, h.nW⟩
theorem plan_oct : Oct plan := by unfold plan Oct; simp
theorem sumF_rng : ∀ (L : List Int) (k : Nat) (s : Int), 0 ≤ s → s < 4294967296 → 0 ≤ sumF k s L ∧ sumF k s L < 4294967296
  | [], _, _, h0, h1 => ⟨h0, h1⟩
  | x :: L, k, s, _, _ => sumF_rng L _ _ (by omega) (by omega)
theorem sumO_rng (L : List Int) : 0 ≤ sumO L ∧ sumO L < 4294967296 := sumF_rng L 0 0 (by omega) (by omega)
/-- a unit without parts -/
theorem pin_z (w : World) (F : List Int) (u : Ut) (hu : (upd F u).data = [] ∧ (upd F u).gaps = []) : PIn w (upd F u) zL := by
  obtain ⟨h1, h2⟩ := hu
  refine ⟨?_, (by rw [h1]; intro x hx; cases hx), (by rw [h1]; exact Vw.nil _ _), (by rw [h2]; exact Vw.nil _ _), ⟨Nat.le_refl _, Nat.zero_le _⟩, ⟨Nat.le_refl _, Nat.zero_le _⟩, ?_, Nat.zero_le _, Nat.zero_le _, ?_⟩
  · cases u <;> first | exact plan_oct | (intro x hx; cases hx)
  · cases u <;> simp [upd, plan]
  · have := sumO_rng F
    cases u <;> simp [upd]
    omega
theorem pin_pc {w : World} {F : List Int} {a b xc : Nat} {X : Option Addr} (hF : Oct F) (hn : F.length ≤ 300) (hb : b ≤ F.length) (hs : Sl w 5 1 X (b - a) xc (octs ((F.drop a).take (b - a)))) : PIn w (upd F (.pc a b)) (pcl X (b - a) xc) :=
  ⟨(by intro x hx; cases hx), (by intro x hx; exact hF x (List.mem_of_mem_drop (List.mem_of_mem_take hx))), hs.vw (by omega), Vw.nil _ _, hs.cap, ⟨Nat.le_refl _, Nat.zero_le _⟩, by simp [upd], by simp only [pcl]; omega, Nat.zero_le _, by simp [upd]⟩
/-- what Next gives -/
def NxRes (w w' : World) (F : List Int) (e : Ending) : Option Ut → Prop
  | none => e = .returned (.tuple #[.agg (pcs zP zL), .bool false])
  | some u => ∃ lu, e = .returned (.tuple #[.agg (pcs (upd F u) lu), .bool true]) ∧ PIn w' (upd F u) lu ∧ ∀ y, y ∈ blks lu.D ++ blks lu.G → w.heap.size ≤ y
def NxPost (w : World) (p : Nat) (F : List Int) (c t : Nat) (l : Ly) (S : Sr) (e : Ending) (w' : World) : Prop :=
  ∃ l' S' o, NextS F.length c t S S' o ∧ SrAt w' p F c l' S' ∧ Keep w.heap.size [p] w w' ∧ NxRes w w' F e o ∧ LyOk w l l' S S'
set_option maxRecDepth 100000 in
set_option maxHeartbeats 2000000 in
theorem next_fi (w : World) (p : Nat) (F : List Int) (c : Nat) (l : Ly) (S : Sr) (t T : Nat) (hT : T ≤ t) (ht : t ≤ 1000) (hi : IS c F.length T S) (hc : 8 ≤ c) (hc2 : c ≤ 512) (hn : F.length ≤ 300) (ho : Oct F) (h : SrAt w p F c l S) (hd : S.due = true) : Calls Try.prog 30 #[ptr p, .int .i64 t] w (NxPost w p F c t l S) := by
  have hnow : S.now ≤ t := Nat.le_trans hi.now hT
  have hph := hi.ph
  have hpp : S.ph = 2 ∨ S.ph = 4 := by have := hi.due hd; omega
  have HI := Lib.hid hi
  have HO := Lib.hid ho
  have HS := Lib.hid h
  have HB := Lib.hid h.blk
  clear h ho hi
  go_enter Try.func30, Try.ntmps30
  go_upto_region 1 with fail
  obtain ⟨W, q, hW, hq, bq, ka⟩ := newPd w
  have bp := HB.out.keepS ka (by simp)
  have hpq : p ≠ q := by have := HB.out.lt; omega
  have hqp : q ≠ p := hpq.symm
  change Code.wp _ _ _ _ (w.alloc (.cells zcs TP))
  rw [← hW, ← hq]
  have HQ := Lib.hid hq
  clear hW hq
  have BP := Lib.hid bp
  have BQ := Lib.hid bq
  have KA := Lib.hid ka
  clear bp bq ka
  go_wp2_with fail
  refine (sok_w _ p F c l S BP.out).mono ?_
  rintro e w1 ⟨rfl, rfl⟩
  go_wp2_with fail
  refine (pass_w _ p F c l S t hnow ht BP.out).mono ?_
  rintro e W2 ⟨rfl, bp, hk2⟩
  have c10 : W2.cell? ⟨p, 10, none⟩ = some (.int .i64 S.ph) := bp.cell 10
  have c11 : W2.cell? ⟨p, 11, none⟩ = some (.bool false) := bp.cell 11
  have c14 : W2.cell? ⟨p, 14, none⟩ = some (.bool S.me) := bp.cell 14
  have c15 : W2.cell? ⟨p, 15, none⟩ = some (.slice l.W S.wd.length l.wc) := bp.cell 15
  have c19 : W2.cell? ⟨p, 19, none⟩ = some (.bool S.due) := bp.cell 19
  have fc14 := bp.frozen 14
  have BQ2 := Lib.hid (BQ.out.keepS hk2 (by simpa using hqp))
  have KA2 : Hid (Keep w.heap.size [p] w W2) := Lib.hid ((KA.out.mono (S' := [p]) (Nat.le_refl _) (by simp)).trans (hk2.mono KA.out.size (by simp)))
  have BP2 := Lib.hid bp
  clear hk2 bp
  rw [hd] at c19
  go_wp2_with fail
  refine (finish_w _ p F c l { S with now := t } hpp BP2.out).mono ?_
  rintro e W3 ⟨rfl, hb3, hk3⟩
  have BQ3 := Lib.hid (BQ2.out.keepS hk3 (by simpa using hqp))
  have K3 : Hid (Keep w.heap.size [p] w W3) := Lib.hid (KA2.out.trans (hk3.mono KA2.out.size (by simp)))
  have BP3 := Lib.hid hb3
  clear hk3 hb3
  go_wp2_with (refine wpList_store_mid rfl TP (.tmp 4) (.tmp 25) rfl q 0 (pcs (upd F .ad) (zL)) rfl rfl (by refine thereQ ?_; repeat (first | with_reducible exact BQ3.out | refine Blk.far ?_ hqp _)) infoPd (by exact upd_cells _ _) ?_)
  refine bodyPost_ret (res_Next _ _ q (upd F .ad) (zL) true rfl rfl (by refine Blk.setAll (cs := zcs) (vs := pcs (upd F .ad) (zL)) ?_ rfl; repeat (first | with_reducible exact BQ3.out | refine Blk.far ?_ hqp _))) rfl ?_
  have KF : Keep w.heap.size [p] w (W3.setCells q 0 (pcs (upd F .ad) (zL)).toList) := Keep.setCells (.inl (by rw [HQ.out]; exact Nat.le_refl _)) _ _ _  K3.out
  refine ⟨l, _, some .ad, .fi hd, HS.out.same rfl (Blk.setCellsFar hpq _ _ _ BP3.out) KF, KF, ⟨_, rfl, pin_z _ F .ad ⟨rfl, rfl⟩, by simp [zL, blks]⟩, LyOk.same rfl⟩
set_option maxRecDepth 100000 in
set_option maxHeartbeats 2000000 in
theorem next_over (w : World) (p : Nat) (F : List Int) (c : Nat) (l : Ly) (S : Sr) (t T : Nat) (hT : T ≤ t) (ht : t ≤ 1000) (hi : IS c F.length T S) (hc : 8 ≤ c) (hc2 : c ≤ 512) (hn : F.length ≤ 300) (ho : Oct F) (h : SrAt w p F c l S) (hd : S.due = false) (hp : S.ph = 4) : Calls Try.prog 30 #[ptr p, .int .i64 t] w (NxPost w p F c t l S) := by
  have hnow : S.now ≤ t := Nat.le_trans hi.now hT
  have hph := hi.ph
  have hpI : (S.ph : Int) = 4 := by omega
  have HI := Lib.hid hi
  have HO := Lib.hid ho
  have HS := Lib.hid h
  have HB := Lib.hid h.blk
  clear h ho hi
  go_enter Try.func30, Try.ntmps30
  go_upto_region 1 with fail
  obtain ⟨W, q, hW, hq, bq, ka⟩ := newPd w
  have bp := HB.out.keepS ka (by simp)
  have hpq : p ≠ q := by have := HB.out.lt; omega
  have hqp : q ≠ p := hpq.symm
  change Code.wp _ _ _ _ (w.alloc (.cells zcs TP))
  rw [← hW, ← hq]
  have HQ := Lib.hid hq
  clear hW hq
  have BP := Lib.hid bp
  have BQ := Lib.hid bq
  have KA := Lib.hid ka
  clear bp bq ka
  go_wp2_with fail
  refine (sok_w _ p F c l S BP.out).mono ?_
  rintro e w1 ⟨rfl, rfl⟩
  go_wp2_with fail
  refine (pass_w _ p F c l S t hnow ht BP.out).mono ?_
  rintro e W2 ⟨rfl, bp, hk2⟩
  have c10 : W2.cell? ⟨p, 10, none⟩ = some (.int .i64 S.ph) := bp.cell 10
  have c11 : W2.cell? ⟨p, 11, none⟩ = some (.bool false) := bp.cell 11
  have c14 : W2.cell? ⟨p, 14, none⟩ = some (.bool S.me) := bp.cell 14
  have c15 : W2.cell? ⟨p, 15, none⟩ = some (.slice l.W S.wd.length l.wc) := bp.cell 15
  have c19 : W2.cell? ⟨p, 19, none⟩ = some (.bool S.due) := bp.cell 19
  have fc14 := bp.frozen 14
  have BQ2 := Lib.hid (BQ.out.keepS hk2 (by simpa using hqp))
  have KA2 : Hid (Keep w.heap.size [p] w W2) := Lib.hid ((KA.out.mono (S' := [p]) (Nat.le_refl _) (by simp)).trans (hk2.mono KA.out.size (by simp)))
  have BP2 := Lib.hid bp
  clear hk2 bp
  rw [hd] at c19
  rw [hpI] at c10
  go_wp2_with (refine wpList_store_mid rfl TP (.tmp 4) (.tmp 43) rfl q 0 (pcs zP zL) rfl rfl (by refine thereQ ?_; repeat (first | with_reducible exact BQ2.out | refine Blk.far ?_ hqp _)) infoPd (by exact upd_cells _ _) ?_)
  refine bodyPost_ret (res_Next _ _ q (zP) (zL) false rfl rfl (by refine Blk.setAll (cs := zcs) (vs := pcs (zP) (zL)) ?_ rfl; repeat (first | with_reducible exact BQ2.out | refine Blk.far ?_ hqp _))) rfl ?_
  have KF : Keep w.heap.size [p] w (W2.setCells q 0 (pcs zP zL).toList) := Keep.setCells (.inl (by rw [HQ.out]; exact Nat.le_refl _)) _ _ _  KA2.out
  exact ⟨l, _, none, .over hd hp, HS.out.same rfl (Blk.setCellsFar hpq _ _ _ BP2.out) KF, KF, rfl, LyOk.same rfl⟩
set_option maxRecDepth 100000 in
set_option maxHeartbeats 2000000 in
theorem next_md (w : World) (p : Nat) (F : List Int) (c : Nat) (l : Ly) (S : Sr) (t T : Nat) (hT : T ≤ t) (ht : t ≤ 1000) (hi : IS c F.length T S) (hc : 8 ≤ c) (hc2 : c ≤ 512) (hn : F.length ≤ 300) (ho : Oct F) (h : SrAt w p F c l S) (hd : S.due = false) (hp : S.ph ≠ 4) (hm : S.me = true) : Calls Try.prog 30 #[ptr p, .int .i64 t] w (NxPost w p F c t l S) := by
  have hnow : S.now ≤ t := Nat.le_trans hi.now hT
  have hph := hi.ph
  have hp3 : (S.ph : Int) ≠ 3 := by omega
  have hp4 : (S.ph : Int) < 4 := by omega
  have HI := Lib.hid hi
  have HO := Lib.hid ho
  have HS := Lib.hid h
  have HB := Lib.hid h.blk
  clear h ho hi
  go_enter Try.func30, Try.ntmps30
  go_upto_region 1 with fail
  obtain ⟨W, q, hW, hq, bq, ka⟩ := newPd w
  have bp := HB.out.keepS ka (by simp)
  have hpq : p ≠ q := by have := HB.out.lt; omega
  have hqp : q ≠ p := hpq.symm
  change Code.wp _ _ _ _ (w.alloc (.cells zcs TP))
  rw [← hW, ← hq]
  have HQ := Lib.hid hq
  clear hW hq
  have BP := Lib.hid bp
  have BQ := Lib.hid bq
  have KA := Lib.hid ka
  clear bp bq ka
  go_wp2_with fail
  refine (sok_w _ p F c l S BP.out).mono ?_
  rintro e w1 ⟨rfl, rfl⟩
  go_wp2_with fail
  refine (pass_w _ p F c l S t hnow ht BP.out).mono ?_
  rintro e W2 ⟨rfl, bp, hk2⟩
  have c10 : W2.cell? ⟨p, 10, none⟩ = some (.int .i64 S.ph) := bp.cell 10
  have c11 : W2.cell? ⟨p, 11, none⟩ = some (.bool false) := bp.cell 11
  have c14 : W2.cell? ⟨p, 14, none⟩ = some (.bool S.me) := bp.cell 14
  have c15 : W2.cell? ⟨p, 15, none⟩ = some (.slice l.W S.wd.length l.wc) := bp.cell 15
  have c19 : W2.cell? ⟨p, 19, none⟩ = some (.bool S.due) := bp.cell 19
  have fc14 := bp.frozen 14
  have BQ2 := Lib.hid (BQ.out.keepS hk2 (by simpa using hqp))
  have KA2 : Hid (Keep w.heap.size [p] w W2) := Lib.hid ((KA.out.mono (S' := [p]) (Nat.le_refl _) (by simp)).trans (hk2.mono KA.out.size (by simp)))
  have BP2 := Lib.hid bp
  clear hk2 bp
  rw [hd] at c19
  rw [hm] at c14
  go_wp2_with fail
  have BP4 : Hid (Blk (W2.setCell ⟨p, 14, none⟩ (.bool false)) p TS (scs F c l { S with now := t, me := false })) := Lib.hid (BP2.out.set_ 14 _)
  have KA4 : Hid (Keep w.heap.size [p] w (W2.setCell ⟨p, 14, none⟩ (.bool false))) := Lib.hid (KA2.out.set1)
  have BQ4 : Hid (Blk (W2.setCell ⟨p, 14, none⟩ (.bool false)) q TP zcs) := Lib.hid (BQ2.out.far hqp _)
  refine (metadata_w _ p F c l { S with now := t, me := false } BP4.out).mono ?_
  rintro e W3 ⟨rfl, hk3⟩
  have BQ3 := Lib.hid (BQ4.out.keepS hk3 (by simp))
  have BP3 := Lib.hid (BP4.out.keepS hk3 (by simp))
  have K3 : Hid (Keep w.heap.size [p] w W3) := Lib.hid (KA4.out.trans (hk3.mono KA4.out.size (by simp)))
  clear hk3
  go_wp2_with (refine wpList_store_mid rfl TP (.tmp 4) (.tmp 53) rfl q 0 (pcs (upd F .md) (zL)) rfl rfl (by refine thereQ ?_; repeat (first | with_reducible exact BQ3.out | refine Blk.far ?_ hqp _)) infoPd (by exact upd_cells _ _) ?_)
  refine bodyPost_ret (res_Next _ _ q (upd F .md) (zL) true rfl rfl (by refine Blk.setAll (cs := zcs) (vs := pcs (upd F .md) (zL)) ?_ rfl; repeat (first | with_reducible exact BQ3.out | refine Blk.far ?_ hqp _))) rfl ?_
  have KF : Keep w.heap.size [p] w (W3.setCells q 0 (pcs (upd F .md) (zL)).toList) := Keep.setCells (.inl (by rw [HQ.out]; exact Nat.le_refl _)) _ _ _  K3.out
  refine ⟨l, _, some .md, .md hd hp hm, HS.out.same rfl (Blk.setCellsFar hpq _ _ _ BP3.out) KF, KF, ⟨_, rfl, pin_z _ F .md ⟨rfl, rfl⟩, by simp [zL, blks]⟩, LyOk.same rfl⟩
set_option maxRecDepth 100000 in
set_option maxHeartbeats 2000000 in
theorem next_again (w : World) (p : Nat) (F : List Int) (c : Nat) (l : Ly) (S : Sr) (t T : Nat) (hT : T ≤ t) (ht : t ≤ 1000) (hi : IS c F.length T S) (hc : 8 ≤ c) (hc2 : c ≤ 512) (hn : F.length ≤ 300) (ho : Oct F) (h : SrAt w p F c l S) (r : Gp) (lw : List Gp) (hd : S.due = false) (hp : S.ph ≠ 4) (hm : S.me = false) (hwd : S.wd = r :: lw) : Calls Try.prog 30 #[ptr p, .int .i64 t] w (NxPost w p F c t l S) := by
  have hnow : S.now ≤ t := Nat.le_trans hi.now hT
  have hph := hi.ph
  have hp3 : (S.ph : Int) ≠ 3 := by omega
  have hp4 : (S.ph : Int) < 4 := by omega
  have hr1 : r.f < r.t := hi.nrm.full r (by rw [hwd]; simp)
  have hr0 := (hi.al.inn (z := r.f) ⟨r, by rw [hwd]; simp, Int.le_refl _, hr1⟩).1
  have hr2 : r.t ≤ (F.length : Int) := by have := (hi.al.inn (z := r.t - 1) ⟨r, by rw [hwd]; simp, by omega, by omega⟩).2; omega
  have hwl : S.wd.length ≤ 300 := by have := nrm_len (a := 0) (N := F.length) hi.nrm (fun z hz => hi.al.inn hz) (by omega); omega
  have hwl0 : (0 : Int) < (S.wd.length : Int) := by rw [hwd]; simp
  have HWD := Lib.hid hwd
  clear hwd
  have HI := Lib.hid hi
  have HO := Lib.hid ho
  have HS := Lib.hid h
  have HB := Lib.hid h.blk
  clear h ho hi
  go_enter Try.func30, Try.ntmps30
  go_upto_region 1 with fail
  obtain ⟨W, q, hW, hq, bq, ka⟩ := newPd w
  have bp := HB.out.keepS ka (by simp)
  have hpq : p ≠ q := by have := HB.out.lt; omega
  have hqp : q ≠ p := hpq.symm
  change Code.wp _ _ _ _ (w.alloc (.cells zcs TP))
  rw [← hW, ← hq]
  have HQ := Lib.hid hq
  clear hW hq
  have BP := Lib.hid bp
  have BQ := Lib.hid bq
  have KA := Lib.hid ka
  clear bp bq ka
  go_wp2_with fail
  refine (sok_w _ p F c l S BP.out).mono ?_
  rintro e w1 ⟨rfl, rfl⟩
  go_wp2_with fail
  refine (pass_w _ p F c l S t hnow ht BP.out).mono ?_
  rintro e W2 ⟨rfl, bp, hk2⟩
  have c10 : W2.cell? ⟨p, 10, none⟩ = some (.int .i64 S.ph) := bp.cell 10
  have c11 : W2.cell? ⟨p, 11, none⟩ = some (.bool false) := bp.cell 11
  have c14 : W2.cell? ⟨p, 14, none⟩ = some (.bool S.me) := bp.cell 14
  have c15 : W2.cell? ⟨p, 15, none⟩ = some (.slice l.W S.wd.length l.wc) := bp.cell 15
  have c19 : W2.cell? ⟨p, 19, none⟩ = some (.bool S.due) := bp.cell 19
  have fc14 := bp.frozen 14
  have BQ2 := Lib.hid (BQ.out.keepS hk2 (by simpa using hqp))
  have KA2 : Hid (Keep w.heap.size [p] w W2) := Lib.hid ((KA.out.mono (S' := [p]) (Nat.le_refl _) (by simp)).trans (hk2.mono KA.out.size (by simp)))
  have BP2 := Lib.hid bp
  clear hk2 bp
  rw [hd] at c19
  rw [hm] at c14
  have AT2 := Lib.hid (HS.out.same (S' := { S with now := t }) rfl BP2.out KA2.out)
  go_wp2_with fail
  refine (sagain_w _ p F c l { S with now := t } r lw HWD.out hr0 hr1 hr2 (by omega) hc2 hn (by simp only; omega) AT2.out.wc AT2.out.data AT2.out.dc AT2.out.nD AT2.out.want BP2.out).mono ?_
  rintro e W3 ⟨X, xc, N, Y, yc, rfl, hsX, hN, hM, hb3, hsY, hk3, hfX, hfY⟩
  have SX := Lib.hid hsX
  have SY := Lib.hid hsY
  have NH := Lib.hid hN
  have MH := Lib.hid hM
  have FX := Lib.hid hfX
  have FY := Lib.hid hfY
  have DA := Lib.hid (AT2.out.data.keepS hk3 (fun g hg hm => AT2.out.nD (by rw [← List.mem_singleton.1 hm]; exact hg)))
  clear hsX hsY hN hM hfX hfY
  have BQ3 := Lib.hid (BQ2.out.keepS hk3 (by simpa using hqp))
  have K3 : Hid (Keep w.heap.size [p] w W3) := Lib.hid (KA2.out.trans (hk3.mono KA2.out.size (by simp)))
  have BP3 := Lib.hid hb3
  clear hk3 hb3
  go_wp2_with (refine wpList_store_mid rfl TP (.tmp 4) (.tmp 62) rfl q 0 (pcs (upd F (.pc r.f.toNat (min r.t (r.f + c)).toNat)) (pcl X ((min r.t (r.f + c)).toNat - r.f.toNat) xc)) rfl rfl (by refine thereQ ?_; repeat (first | with_reducible exact BQ3.out | refine Blk.far ?_ hqp _)) infoPd (by exact upd_cells _ _) ?_)
  refine bodyPost_ret (res_Next _ _ q (upd F (.pc r.f.toNat (min r.t (r.f + c)).toNat)) (pcl X ((min r.t (r.f + c)).toNat - r.f.toNat) xc) true rfl rfl (by refine Blk.setAll (cs := zcs) (vs := pcs (upd F (.pc r.f.toNat (min r.t (r.f + c)).toNat)) (pcl X ((min r.t (r.f + c)).toNat - r.f.toNat) xc)) ?_ rfl; repeat (first | with_reducible exact BQ3.out | refine Blk.far ?_ hqp _))) rfl ?_
  have kq : Keep W3.heap.size [q] W3 (W3.setCells q 0 (pcs (upd F (.pc r.f.toNat (min r.t (r.f + c)).toNat)) (pcl X ((min r.t (r.f + c)).toNat - r.f.toNat) xc)).toList) := Keep.setCells (.inr (by simp)) _ _ _ (Keep.refl _ _ _)
  have KF : Keep w.heap.size [p] w (W3.setCells q 0 (pcs (upd F (.pc r.f.toNat (min r.t (r.f + c)).toNat)) (pcl X ((min r.t (r.f + c)).toNat - r.f.toNat) xc)).toList) := Keep.setCells (.inl (by rw [HQ.out]; exact Nat.le_refl _)) _ _ _  K3.out
  have hq2 := BQ2.out.lt
  have hp2 := BP2.out.lt
  have hw2 := KA2.out.size
  have hx : ∀ y, y ∈ blks X → y ∉ [q] := fun y hy => by have := FX.out y hy; simp; omega
  have hy : ∀ y, y ∈ blks Y → y ∉ [q] := fun y hy => by have := FY.out y hy; simp; omega
  have DA2 := HS.out.data.keepS KF (fun g hg hm => HS.out.nD (by rw [← List.mem_singleton.1 hm]; exact hg))
  refine ⟨⟨l.D, l.dc, Y, yc⟩, _, some (.pc r.f.toNat (min r.t (r.f + c)).toNat), .again r lw N hd hp hm HWD.out NH.out MH.out, ⟨Blk.setCellsFar hpq _ _ _ BP3.out, DA2, HS.out.dc, HS.out.nD, (SY.out.keepS kq hy).vw (by omega), SY.out.cap, fun hm => by have := FY.out p hm; omega⟩, KF, ⟨_, rfl, pin_pc HO.out hn (by omega) (SX.out.keepS kq hx), fun y hy => ?_⟩, rfl, fun _ y hy => .inr (by have := FY.out y hy; omega)⟩
  simp only [pcl, blks, List.append_nil] at hy
  have := FX.out y hy
  omega
set_option maxRecDepth 100000 in
set_option maxHeartbeats 2000000 in
theorem next_first (w : World) (p : Nat) (F : List Int) (c : Nat) (l : Ly) (S : Sr) (t T : Nat) (hT : T ≤ t) (ht : t ≤ 1000) (hi : IS c F.length T S) (hc : 8 ≤ c) (hc2 : c ≤ 512) (hn : F.length ≤ 300) (ho : Oct F) (h : SrAt w p F c l S) (hd : S.due = false) (hm : S.me = false) (hwd : S.wd = []) (hp : S.ph = 0) (hst : S.st = false) : Calls Try.prog 30 #[ptr p, .int .i64 t] w (NxPost w p F c t l S) := by
  have hnow : S.now ≤ t := Nat.le_trans hi.now hT
  have hph := hi.ph
  have hp3 : (S.ph : Int) ≠ 3 := by omega
  have hp4 : (S.ph : Int) < 4 := by omega
  have hpI : (S.ph : Int) = 0 := by omega
  have hw0 : S.wd.length = 0 := by rw [hwd]; rfl
  have HWD := Lib.hid hwd
  clear hwd
  have HI := Lib.hid hi
  have HO := Lib.hid ho
  have HS := Lib.hid h
  have HB := Lib.hid h.blk
  clear h ho hi
  go_enter Try.func30, Try.ntmps30
  go_upto_region 1 with fail
  obtain ⟨W, q, hW, hq, bq, ka⟩ := newPd w
  have bp := HB.out.keepS ka (by simp)
  have hpq : p ≠ q := by have := HB.out.lt; omega
  have hqp : q ≠ p := hpq.symm
  change Code.wp _ _ _ _ (w.alloc (.cells zcs TP))
  rw [← hW, ← hq]
  have HQ := Lib.hid hq
  clear hW hq
  have BP := Lib.hid bp
  have BQ := Lib.hid bq
  have KA := Lib.hid ka
  clear bp bq ka
  go_wp2_with fail
  refine (sok_w _ p F c l S BP.out).mono ?_
  rintro e w1 ⟨rfl, rfl⟩
  go_wp2_with fail
  refine (pass_w _ p F c l S t hnow ht BP.out).mono ?_
  rintro e W2 ⟨rfl, bp, hk2⟩
  have c10 : W2.cell? ⟨p, 10, none⟩ = some (.int .i64 S.ph) := bp.cell 10
  have c11 : W2.cell? ⟨p, 11, none⟩ = some (.bool false) := bp.cell 11
  have c14 : W2.cell? ⟨p, 14, none⟩ = some (.bool S.me) := bp.cell 14
  have c15 : W2.cell? ⟨p, 15, none⟩ = some (.slice l.W S.wd.length l.wc) := bp.cell 15
  have c19 : W2.cell? ⟨p, 19, none⟩ = some (.bool S.due) := bp.cell 19
  have fc14 := bp.frozen 14
  have BQ2 := Lib.hid (BQ.out.keepS hk2 (by simpa using hqp))
  have KA2 : Hid (Keep w.heap.size [p] w W2) := Lib.hid ((KA.out.mono (S' := [p]) (Nat.le_refl _) (by simp)).trans (hk2.mono KA.out.size (by simp)))
  have BP2 := Lib.hid bp
  clear hk2 bp
  rw [hd] at c19
  rw [hm] at c14
  rw [hw0] at c15
  rw [hpI] at c10
  have AT2 := Lib.hid (HS.out.same (S' := { S with now := t }) rfl BP2.out KA2.out)
  go_wp2_with fail
  refine (sforward_md _ p F c l { S with now := t } hst BP2.out).mono ?_
  rintro e W3 ⟨rfl, hb3, hk3⟩
  have BQ3 := Lib.hid (BQ2.out.keepS hk3 (by simpa using hqp))
  have K3 : Hid (Keep w.heap.size [p] w W3) := Lib.hid (KA2.out.trans (hk3.mono KA2.out.size (by simp)))
  have BP3 := Lib.hid hb3
  clear hk3 hb3
  go_wp2_with (refine wpList_store_mid rfl TP (.tmp 4) (.tmp 70) rfl q 0 (pcs (upd F .md) (zL)) rfl rfl (by refine thereQ ?_; repeat (first | with_reducible exact BQ3.out | refine Blk.far ?_ hqp _)) infoPd (by exact upd_cells _ _) ?_)
  refine bodyPost_ret (res_Next _ _ q (upd F .md) (zL) true rfl rfl (by refine Blk.setAll (cs := zcs) (vs := pcs (upd F .md) (zL)) ?_ rfl; repeat (first | with_reducible exact BQ3.out | refine Blk.far ?_ hqp _))) rfl ?_
  have KF : Keep w.heap.size [p] w (W3.setCells q 0 (pcs (upd F .md) (zL)).toList) := Keep.setCells (.inl (by rw [HQ.out]; exact Nat.le_refl _)) _ _ _  K3.out
  refine ⟨l, _, some .md, .first hd hm HWD.out hp hst, HS.out.same rfl (Blk.setCellsFar hpq _ _ _ BP3.out) KF, KF, ⟨_, rfl, pin_z _ F .md ⟨rfl, rfl⟩, by simp [zL, blks]⟩, LyOk.same rfl⟩
set_option maxRecDepth 100000 in
set_option maxHeartbeats 2000000 in
theorem next_data (w : World) (p : Nat) (F : List Int) (c : Nat) (l : Ly) (S : Sr) (t T : Nat) (hT : T ≤ t) (ht : t ≤ 1000) (hi : IS c F.length T S) (hc : 8 ≤ c) (hc2 : c ≤ 512) (hn : F.length ≤ 300) (ho : Oct F) (h : SrAt w p F c l S) (hd : S.due = false) (hm : S.me = false) (hwd : S.wd = []) (hp : S.ph = 0) (hst : S.st = true) (hpos : S.pos < F.length) : Calls Try.prog 30 #[ptr p, .int .i64 t] w (NxPost w p F c t l S) := by
  have hnow : S.now ≤ t := Nat.le_trans hi.now hT
  have hph := hi.ph
  have hp3 : (S.ph : Int) ≠ 3 := by omega
  have hp4 : (S.ph : Int) < 4 := by omega
  have hpI : (S.ph : Int) = 0 := by omega
  have hw0 : S.wd.length = 0 := by rw [hwd]; rfl
  have HWD := Lib.hid hwd
  clear hwd
  have HI := Lib.hid hi
  have HO := Lib.hid ho
  have HS := Lib.hid h
  have HB := Lib.hid h.blk
  clear h ho hi
  go_enter Try.func30, Try.ntmps30
  go_upto_region 1 with fail
  obtain ⟨W, q, hW, hq, bq, ka⟩ := newPd w
  have bp := HB.out.keepS ka (by simp)
  have hpq : p ≠ q := by have := HB.out.lt; omega
  have hqp : q ≠ p := hpq.symm
  change Code.wp _ _ _ _ (w.alloc (.cells zcs TP))
  rw [← hW, ← hq]
  have HQ := Lib.hid hq
  clear hW hq
  have BP := Lib.hid bp
  have BQ := Lib.hid bq
  have KA := Lib.hid ka
  clear bp bq ka
  go_wp2_with fail
  refine (sok_w _ p F c l S BP.out).mono ?_
  rintro e w1 ⟨rfl, rfl⟩
  go_wp2_with fail
  refine (pass_w _ p F c l S t hnow ht BP.out).mono ?_
  rintro e W2 ⟨rfl, bp, hk2⟩
  have c10 : W2.cell? ⟨p, 10, none⟩ = some (.int .i64 S.ph) := bp.cell 10
  have c11 : W2.cell? ⟨p, 11, none⟩ = some (.bool false) := bp.cell 11
  have c14 : W2.cell? ⟨p, 14, none⟩ = some (.bool S.me) := bp.cell 14
  have c15 : W2.cell? ⟨p, 15, none⟩ = some (.slice l.W S.wd.length l.wc) := bp.cell 15
  have c19 : W2.cell? ⟨p, 19, none⟩ = some (.bool S.due) := bp.cell 19
  have fc14 := bp.frozen 14
  have BQ2 := Lib.hid (BQ.out.keepS hk2 (by simpa using hqp))
  have KA2 : Hid (Keep w.heap.size [p] w W2) := Lib.hid ((KA.out.mono (S' := [p]) (Nat.le_refl _) (by simp)).trans (hk2.mono KA.out.size (by simp)))
  have BP2 := Lib.hid bp
  clear hk2 bp
  rw [hd] at c19
  rw [hm] at c14
  rw [hw0] at c15
  rw [hpI] at c10
  have AT2 := Lib.hid (HS.out.same (S' := { S with now := t }) rfl BP2.out KA2.out)
  go_wp2_with fail
  refine (sforward_pc _ p F c l { S with now := t } hst hpos (by omega) hc2 hn AT2.out.data AT2.out.dc AT2.out.nD BP2.out).mono ?_
  rintro e W3 ⟨X, xc, rfl, hsX, hb3, hk3, hfX⟩
  have SX := Lib.hid hsX
  have FX := Lib.hid hfX
  clear hsX hfX
  have BQ3 := Lib.hid (BQ2.out.keepS hk3 (by simpa using hqp))
  have K3 : Hid (Keep w.heap.size [p] w W3) := Lib.hid (KA2.out.trans (hk3.mono KA2.out.size (by simp)))
  have BP3 := Lib.hid hb3
  clear hk3 hb3
  go_wp2_with (refine wpList_store_mid rfl TP (.tmp 4) (.tmp 70) rfl q 0 (pcs (upd F (.pc S.pos (min (S.pos + c) F.length))) (pcl X (min (S.pos + c) F.length - S.pos) xc)) rfl rfl (by refine thereQ ?_; repeat (first | with_reducible exact BQ3.out | refine Blk.far ?_ hqp _)) infoPd (by exact upd_cells _ _) ?_)
  refine bodyPost_ret (res_Next _ _ q (upd F (.pc S.pos (min (S.pos + c) F.length))) (pcl X (min (S.pos + c) F.length - S.pos) xc) true rfl rfl (by refine Blk.setAll (cs := zcs) (vs := pcs (upd F (.pc S.pos (min (S.pos + c) F.length))) (pcl X (min (S.pos + c) F.length - S.pos) xc)) ?_ rfl; repeat (first | with_reducible exact BQ3.out | refine Blk.far ?_ hqp _))) rfl ?_
  have kq : Keep W3.heap.size [q] W3 (W3.setCells q 0 (pcs (upd F (.pc S.pos (min (S.pos + c) F.length))) (pcl X (min (S.pos + c) F.length - S.pos) xc)).toList) := Keep.setCells (.inr (by simp)) _ _ _ (Keep.refl _ _ _)
  have KF : Keep w.heap.size [p] w (W3.setCells q 0 (pcs (upd F (.pc S.pos (min (S.pos + c) F.length))) (pcl X (min (S.pos + c) F.length - S.pos) xc)).toList) := Keep.setCells (.inl (by rw [HQ.out]; exact Nat.le_refl _)) _ _ _  K3.out
  have hq2 := BQ2.out.lt
  have hw2 := KA2.out.size
  have hx : ∀ y, y ∈ blks X → y ∉ [q] := fun y hy => by have := FX.out y hy; simp; omega
  refine ⟨l, _, some (.pc S.pos (min (S.pos + c) F.length)), .data hd hm HWD.out hp hst hpos, HS.out.same rfl (Blk.setCellsFar hpq _ _ _ BP3.out) KF, KF, ⟨_, rfl, pin_pc HO.out hn (by omega) (SX.out.keepS kq hx), fun y hy => ?_⟩, LyOk.same rfl⟩
  simp only [pcl, blks, List.append_nil] at hy
  have := FX.out y hy
  omega
set_option maxRecDepth 100000 in
set_option maxHeartbeats 2000000 in
theorem next_eof (w : World) (p : Nat) (F : List Int) (c : Nat) (l : Ly) (S : Sr) (t T : Nat) (hT : T ≤ t) (ht : t ≤ 1000) (hi : IS c F.length T S) (hc : 8 ≤ c) (hc2 : c ≤ 512) (hn : F.length ≤ 300) (ho : Oct F) (h : SrAt w p F c l S) (hd : S.due = false) (hm : S.me = false) (hwd : S.wd = []) (hp : S.ph = 0) (hst : S.st = true) (hpos : F.length ≤ S.pos) : Calls Try.prog 30 #[ptr p, .int .i64 t] w (NxPost w p F c t l S) := by
  have hnow : S.now ≤ t := Nat.le_trans hi.now hT
  have hph := hi.ph
  have hp3 : (S.ph : Int) ≠ 3 := by omega
  have hp4 : (S.ph : Int) < 4 := by omega
  have hpI : (S.ph : Int) = 0 := by omega
  have hw0 : S.wd.length = 0 := by rw [hwd]; rfl
  have HWD := Lib.hid hwd
  clear hwd
  have HI := Lib.hid hi
  have HO := Lib.hid ho
  have HS := Lib.hid h
  have HB := Lib.hid h.blk
  clear h ho hi
  go_enter Try.func30, Try.ntmps30
  go_upto_region 1 with fail
  obtain ⟨W, q, hW, hq, bq, ka⟩ := newPd w
  have bp := HB.out.keepS ka (by simp)
  have hpq : p ≠ q := by have := HB.out.lt; omega
  have hqp : q ≠ p := hpq.symm
  change Code.wp _ _ _ _ (w.alloc (.cells zcs TP))
  rw [← hW, ← hq]
  have HQ := Lib.hid hq
  clear hW hq
  have BP := Lib.hid bp
  have BQ := Lib.hid bq
  have KA := Lib.hid ka
  clear bp bq ka
  go_wp2_with fail
  refine (sok_w _ p F c l S BP.out).mono ?_
  rintro e w1 ⟨rfl, rfl⟩
  go_wp2_with fail
  refine (pass_w _ p F c l S t hnow ht BP.out).mono ?_
  rintro e W2 ⟨rfl, bp, hk2⟩
  have c10 : W2.cell? ⟨p, 10, none⟩ = some (.int .i64 S.ph) := bp.cell 10
  have c11 : W2.cell? ⟨p, 11, none⟩ = some (.bool false) := bp.cell 11
  have c14 : W2.cell? ⟨p, 14, none⟩ = some (.bool S.me) := bp.cell 14
  have c15 : W2.cell? ⟨p, 15, none⟩ = some (.slice l.W S.wd.length l.wc) := bp.cell 15
  have c19 : W2.cell? ⟨p, 19, none⟩ = some (.bool S.due) := bp.cell 19
  have fc14 := bp.frozen 14
  have BQ2 := Lib.hid (BQ.out.keepS hk2 (by simpa using hqp))
  have KA2 : Hid (Keep w.heap.size [p] w W2) := Lib.hid ((KA.out.mono (S' := [p]) (Nat.le_refl _) (by simp)).trans (hk2.mono KA.out.size (by simp)))
  have BP2 := Lib.hid bp
  clear hk2 bp
  rw [hd] at c19
  rw [hm] at c14
  rw [hw0] at c15
  rw [hpI] at c10
  have AT2 := Lib.hid (HS.out.same (S' := { S with now := t }) rfl BP2.out KA2.out)
  go_wp2_with fail
  refine (sforward_ef _ p F c l { S with now := t } hst hpos hn AT2.out.data AT2.out.dc.1 HO.out AT2.out.nD BP2.out).mono ?_
  rintro e W3 ⟨rfl, hb3, hk3⟩
  have BQ3 := Lib.hid (BQ2.out.keepS hk3 (by simpa using hqp))
  have K3 : Hid (Keep w.heap.size [p] w W3) := Lib.hid (KA2.out.trans (hk3.mono KA2.out.size (by simp)))
  have BP3 := Lib.hid hb3
  clear hk3 hb3
  go_wp2_with (refine wpList_store_mid rfl TP (.tmp 4) (.tmp 70) rfl q 0 (pcs (upd F .ef) (zL)) rfl rfl (by refine thereQ ?_; repeat (first | with_reducible exact BQ3.out | refine Blk.far ?_ hqp _)) infoPd (by exact upd_cells _ _) ?_)
  refine bodyPost_ret (res_Next _ _ q (upd F .ef) (zL) true rfl rfl (by refine Blk.setAll (cs := zcs) (vs := pcs (upd F .ef) (zL)) ?_ rfl; repeat (first | with_reducible exact BQ3.out | refine Blk.far ?_ hqp _))) rfl ?_
  have KF : Keep w.heap.size [p] w (W3.setCells q 0 (pcs (upd F .ef) (zL)).toList) := Keep.setCells (.inl (by rw [HQ.out]; exact Nat.le_refl _)) _ _ _  K3.out
  refine ⟨l, _, some .ef, .eof hd hm HWD.out hp hst hpos, HS.out.same rfl (Blk.setCellsFar hpq _ _ _ BP3.out) KF, KF, ⟨_, rfl, pin_z _ F .ef ⟨rfl, rfl⟩, by simp [zL, blks]⟩, LyOk.same rfl⟩
set_option maxRecDepth 100000 in
set_option maxHeartbeats 2000000 in
theorem next_rep (w : World) (p : Nat) (F : List Int) (c : Nat) (l : Ly) (S : Sr) (t T : Nat) (hT : T ≤ t) (ht : t ≤ 1000) (hi : IS c F.length T S) (hc : 8 ≤ c) (hc2 : c ≤ 512) (hn : F.length ≤ 300) (ho : Oct F) (h : SrAt w p F c l S) (hd : S.due = false) (hm : S.me = false) (hwd : S.wd = []) (hp : S.ph = 1) (ha : S.ack = false) (htt : S.tm + 10 ≤ t) (ht4 : t ≤ 400) : Calls Try.prog 30 #[ptr p, .int .i64 t] w (NxPost w p F c t l S) := by
  have hnow : S.now ≤ t := Nat.le_trans hi.now hT
  have hph := hi.ph
  have hp3 : (S.ph : Int) ≠ 3 := by omega
  have hp4 : (S.ph : Int) < 4 := by omega
  have hpI : (S.ph : Int) = 1 := by omega
  have hw0 : S.wd.length = 0 := by rw [hwd]; rfl
  have HWD := Lib.hid hwd
  clear hwd
  have htr : S.tr < 50 := by have := hi.tmr; omega
  have HI := Lib.hid hi
  have HO := Lib.hid ho
  have HS := Lib.hid h
  have HB := Lib.hid h.blk
  clear h ho hi
  go_enter Try.func30, Try.ntmps30
  go_upto_region 1 with fail
  obtain ⟨W, q, hW, hq, bq, ka⟩ := newPd w
  have bp := HB.out.keepS ka (by simp)
  have hpq : p ≠ q := by have := HB.out.lt; omega
  have hqp : q ≠ p := hpq.symm
  change Code.wp _ _ _ _ (w.alloc (.cells zcs TP))
  rw [← hW, ← hq]
  have HQ := Lib.hid hq
  clear hW hq
  have BP := Lib.hid bp
  have BQ := Lib.hid bq
  have KA := Lib.hid ka
  clear bp bq ka
  go_wp2_with fail
  refine (sok_w _ p F c l S BP.out).mono ?_
  rintro e w1 ⟨rfl, rfl⟩
  go_wp2_with fail
  refine (pass_w _ p F c l S t hnow ht BP.out).mono ?_
  rintro e W2 ⟨rfl, bp, hk2⟩
  have c10 : W2.cell? ⟨p, 10, none⟩ = some (.int .i64 S.ph) := bp.cell 10
  have c11 : W2.cell? ⟨p, 11, none⟩ = some (.bool false) := bp.cell 11
  have c14 : W2.cell? ⟨p, 14, none⟩ = some (.bool S.me) := bp.cell 14
  have c15 : W2.cell? ⟨p, 15, none⟩ = some (.slice l.W S.wd.length l.wc) := bp.cell 15
  have c19 : W2.cell? ⟨p, 19, none⟩ = some (.bool S.due) := bp.cell 19
  have fc14 := bp.frozen 14
  have BQ2 := Lib.hid (BQ.out.keepS hk2 (by simpa using hqp))
  have KA2 : Hid (Keep w.heap.size [p] w W2) := Lib.hid ((KA.out.mono (S' := [p]) (Nat.le_refl _) (by simp)).trans (hk2.mono KA.out.size (by simp)))
  have BP2 := Lib.hid bp
  clear hk2 bp
  rw [hd] at c19
  rw [hm] at c14
  rw [hw0] at c15
  rw [hpI] at c10
  have AT2 := Lib.hid (HS.out.same (S' := { S with now := t }) rfl BP2.out KA2.out)
  go_wp2_with fail
  refine (srepeat_yes _ p F c l { S with now := t } hp ha htt ht htr hn AT2.out.data AT2.out.dc.1 HO.out AT2.out.nD BP2.out).mono ?_
  rintro e W3 ⟨rfl, hb3, hk3⟩
  have BQ3 := Lib.hid (BQ2.out.keepS hk3 (by simpa using hqp))
  have K3 : Hid (Keep w.heap.size [p] w W3) := Lib.hid (KA2.out.trans (hk3.mono KA2.out.size (by simp)))
  have BP3 := Lib.hid hb3
  clear hk3 hb3
  go_wp2_with (refine wpList_store_mid rfl TP (.tmp 4) (.tmp 73) rfl q 0 (pcs (upd F .ef) (zL)) rfl rfl (by refine thereQ ?_; repeat (first | with_reducible exact BQ3.out | refine Blk.far ?_ hqp _)) infoPd (by exact upd_cells _ _) ?_)
  refine bodyPost_ret (res_Next _ _ q (upd F .ef) (zL) true rfl rfl (by refine Blk.setAll (cs := zcs) (vs := pcs (upd F .ef) (zL)) ?_ rfl; repeat (first | with_reducible exact BQ3.out | refine Blk.far ?_ hqp _))) rfl ?_
  have KF : Keep w.heap.size [p] w (W3.setCells q 0 (pcs (upd F .ef) (zL)).toList) := Keep.setCells (.inl (by rw [HQ.out]; exact Nat.le_refl _)) _ _ _  K3.out
  refine ⟨l, _, some .ef, .rep hd hm HWD.out hp ha htt, HS.out.same rfl (Blk.setCellsFar hpq _ _ _ BP3.out) KF, KF, ⟨_, rfl, pin_z _ F .ef ⟨rfl, rfl⟩, by simp [zL, blks]⟩, LyOk.same rfl⟩
set_option maxRecDepth 100000 in
set_option maxHeartbeats 2000000 in
theorem next_acked (w : World) (p : Nat) (F : List Int) (c : Nat) (l : Ly) (S : Sr) (t T : Nat) (hT : T ≤ t) (ht : t ≤ 1000) (hi : IS c F.length T S) (hc : 8 ≤ c) (hc2 : c ≤ 512) (hn : F.length ≤ 300) (ho : Oct F) (h : SrAt w p F c l S) (hd : S.due = false) (hm : S.me = false) (hwd : S.wd = []) (hp : S.ph = 1) (ha : S.ack = true) : Calls Try.prog 30 #[ptr p, .int .i64 t] w (NxPost w p F c t l S) := by
  have hnow : S.now ≤ t := Nat.le_trans hi.now hT
  have hph := hi.ph
  have hp3 : (S.ph : Int) ≠ 3 := by omega
  have hp4 : (S.ph : Int) < 4 := by omega
  have hpI : (S.ph : Int) = 1 := by omega
  have hw0 : S.wd.length = 0 := by rw [hwd]; rfl
  have HWD := Lib.hid hwd
  clear hwd
  have htm : S.tm ≤ 1000 := by have := hi.tmr; have := hi.now; omega
  have HI := Lib.hid hi
  have HO := Lib.hid ho
  have HS := Lib.hid h
  have HB := Lib.hid h.blk
  clear h ho hi
  go_enter Try.func30, Try.ntmps30
  go_upto_region 1 with fail
  obtain ⟨W, q, hW, hq, bq, ka⟩ := newPd w
  have bp := HB.out.keepS ka (by simp)
  have hpq : p ≠ q := by have := HB.out.lt; omega
  have hqp : q ≠ p := hpq.symm
  change Code.wp _ _ _ _ (w.alloc (.cells zcs TP))
  rw [← hW, ← hq]
  have HQ := Lib.hid hq
  clear hW hq
  have BP := Lib.hid bp
  have BQ := Lib.hid bq
  have KA := Lib.hid ka
  clear bp bq ka
  go_wp2_with fail
  refine (sok_w _ p F c l S BP.out).mono ?_
  rintro e w1 ⟨rfl, rfl⟩
  go_wp2_with fail
  refine (pass_w _ p F c l S t hnow ht BP.out).mono ?_
  rintro e W2 ⟨rfl, bp, hk2⟩
  have c10 : W2.cell? ⟨p, 10, none⟩ = some (.int .i64 S.ph) := bp.cell 10
  have c11 : W2.cell? ⟨p, 11, none⟩ = some (.bool false) := bp.cell 11
  have c14 : W2.cell? ⟨p, 14, none⟩ = some (.bool S.me) := bp.cell 14
  have c15 : W2.cell? ⟨p, 15, none⟩ = some (.slice l.W S.wd.length l.wc) := bp.cell 15
  have c19 : W2.cell? ⟨p, 19, none⟩ = some (.bool S.due) := bp.cell 19
  have fc14 := bp.frozen 14
  have BQ2 := Lib.hid (BQ.out.keepS hk2 (by simpa using hqp))
  have KA2 : Hid (Keep w.heap.size [p] w W2) := Lib.hid ((KA.out.mono (S' := [p]) (Nat.le_refl _) (by simp)).trans (hk2.mono KA.out.size (by simp)))
  have BP2 := Lib.hid bp
  clear hk2 bp
  rw [hd] at c19
  rw [hm] at c14
  rw [hw0] at c15
  rw [hpI] at c10
  have AT2 := Lib.hid (HS.out.same (S' := { S with now := t }) rfl BP2.out KA2.out)
  go_wp2_with fail
  refine (srepeat_acked _ p F c l { S with now := t } hp ha BP2.out).mono ?_
  rintro e W3 ⟨rfl, hk3⟩
  have hb3 := BP2.out.keepS hk3 (by simp)
  have BQ3 := Lib.hid (BQ2.out.keepS hk3 (by simp))
  have K3 : Hid (Keep w.heap.size [p] w W3) := Lib.hid (KA2.out.trans (hk3.mono KA2.out.size (by simp)))
  have BP3 := Lib.hid hb3
  clear hk3 hb3
  go_wp2_with (refine wpList_store_mid rfl TP (.tmp 4) (.tmp 73) rfl q 0 (pcs zP zL) rfl rfl (by refine thereQ ?_; repeat (first | with_reducible exact BQ3.out | refine Blk.far ?_ hqp _)) infoPd (by exact upd_cells _ _) ?_)
  refine bodyPost_ret (res_Next _ _ q (zP) (zL) false rfl rfl (by refine Blk.setAll (cs := zcs) (vs := pcs (zP) (zL)) ?_ rfl; repeat (first | with_reducible exact BQ3.out | refine Blk.far ?_ hqp _))) rfl ?_
  have KF : Keep w.heap.size [p] w (W3.setCells q 0 (pcs zP zL).toList) := Keep.setCells (.inl (by rw [HQ.out]; exact Nat.le_refl _)) _ _ _  K3.out
  exact ⟨l, _, none, .idle hd hm HWD.out (by omega) (by omega) (.inr (.inl ha)), HS.out.same rfl (Blk.setCellsFar hpq _ _ _ BP3.out) KF, KF, rfl, LyOk.same rfl⟩
set_option maxRecDepth 100000 in
set_option maxHeartbeats 2000000 in
theorem next_early (w : World) (p : Nat) (F : List Int) (c : Nat) (l : Ly) (S : Sr) (t T : Nat) (hT : T ≤ t) (ht : t ≤ 1000) (hi : IS c F.length T S) (hc : 8 ≤ c) (hc2 : c ≤ 512) (hn : F.length ≤ 300) (ho : Oct F) (h : SrAt w p F c l S) (hd : S.due = false) (hm : S.me = false) (hwd : S.wd = []) (hp : S.ph = 1) (ha : S.ack = false) (htt : t < S.tm + 10) : Calls Try.prog 30 #[ptr p, .int .i64 t] w (NxPost w p F c t l S) := by
  have hnow : S.now ≤ t := Nat.le_trans hi.now hT
  have hph := hi.ph
  have hp3 : (S.ph : Int) ≠ 3 := by omega
  have hp4 : (S.ph : Int) < 4 := by omega
  have hpI : (S.ph : Int) = 1 := by omega
  have hw0 : S.wd.length = 0 := by rw [hwd]; rfl
  have HWD := Lib.hid hwd
  clear hwd
  have htm : S.tm ≤ 1000 := by have := hi.tmr; have := hi.now; omega
  have HI := Lib.hid hi
  have HO := Lib.hid ho
  have HS := Lib.hid h
  have HB := Lib.hid h.blk
  clear h ho hi
  go_enter Try.func30, Try.ntmps30
  go_upto_region 1 with fail
  obtain ⟨W, q, hW, hq, bq, ka⟩ := newPd w
  have bp := HB.out.keepS ka (by simp)
  have hpq : p ≠ q := by have := HB.out.lt; omega
  have hqp : q ≠ p := hpq.symm
  change Code.wp _ _ _ _ (w.alloc (.cells zcs TP))
  rw [← hW, ← hq]
  have HQ := Lib.hid hq
  clear hW hq
  have BP := Lib.hid bp
  have BQ := Lib.hid bq
  have KA := Lib.hid ka
  clear bp bq ka
  go_wp2_with fail
  refine (sok_w _ p F c l S BP.out).mono ?_
  rintro e w1 ⟨rfl, rfl⟩
  go_wp2_with fail
  refine (pass_w _ p F c l S t hnow ht BP.out).mono ?_
  rintro e W2 ⟨rfl, bp, hk2⟩
  have c10 : W2.cell? ⟨p, 10, none⟩ = some (.int .i64 S.ph) := bp.cell 10
  have c11 : W2.cell? ⟨p, 11, none⟩ = some (.bool false) := bp.cell 11
  have c14 : W2.cell? ⟨p, 14, none⟩ = some (.bool S.me) := bp.cell 14
  have c15 : W2.cell? ⟨p, 15, none⟩ = some (.slice l.W S.wd.length l.wc) := bp.cell 15
  have c19 : W2.cell? ⟨p, 19, none⟩ = some (.bool S.due) := bp.cell 19
  have fc14 := bp.frozen 14
  have BQ2 := Lib.hid (BQ.out.keepS hk2 (by simpa using hqp))
  have KA2 : Hid (Keep w.heap.size [p] w W2) := Lib.hid ((KA.out.mono (S' := [p]) (Nat.le_refl _) (by simp)).trans (hk2.mono KA.out.size (by simp)))
  have BP2 := Lib.hid bp
  clear hk2 bp
  rw [hd] at c19
  rw [hm] at c14
  rw [hw0] at c15
  rw [hpI] at c10
  have AT2 := Lib.hid (HS.out.same (S' := { S with now := t }) rfl BP2.out KA2.out)
  go_wp2_with fail
  refine (srepeat_early _ p F c l { S with now := t } hp ha htt htm BP2.out).mono ?_
  rintro e W3 ⟨rfl, hk3⟩
  have hb3 := BP2.out.keepS hk3 (by simp)
  have BQ3 := Lib.hid (BQ2.out.keepS hk3 (by simp))
  have K3 : Hid (Keep w.heap.size [p] w W3) := Lib.hid (KA2.out.trans (hk3.mono KA2.out.size (by simp)))
  have BP3 := Lib.hid hb3
  clear hk3 hb3
  go_wp2_with (refine wpList_store_mid rfl TP (.tmp 4) (.tmp 73) rfl q 0 (pcs zP zL) rfl rfl (by refine thereQ ?_; repeat (first | with_reducible exact BQ3.out | refine Blk.far ?_ hqp _)) infoPd (by exact upd_cells _ _) ?_)
  refine bodyPost_ret (res_Next _ _ q (zP) (zL) false rfl rfl (by refine Blk.setAll (cs := zcs) (vs := pcs (zP) (zL)) ?_ rfl; repeat (first | with_reducible exact BQ3.out | refine Blk.far ?_ hqp _))) rfl ?_
  have KF : Keep w.heap.size [p] w (W3.setCells q 0 (pcs zP zL).toList) := Keep.setCells (.inl (by rw [HQ.out]; exact Nat.le_refl _)) _ _ _  K3.out
  exact ⟨l, _, none, .idle hd hm HWD.out (by omega) (by omega) (.inr (.inr htt)), HS.out.same rfl (Blk.setCellsFar hpq _ _ _ BP3.out) KF, KF, rfl, LyOk.same rfl⟩
/-- the contract of Next -/
theorem snext_w (w : World) (p : Nat) (F : List Int) (c : Nat) (l : Ly) (S : Sr) (t T : Nat) (hT : T ≤ t) (ht : t ≤ 400) (hi : IS c F.length T S) (hc : 8 ≤ c) (hc2 : c ≤ 512) (hn : F.length ≤ 300) (ho : Oct F) (h : SrAt w p F c l S) : Calls Try.prog 30 #[ptr p, .int .i64 t] w (NxPost w p F c t l S) := by
  have ht2 : t ≤ 1000 := by omega
  cases hd : S.due with
  | true => exact next_fi w p F c l S t T hT ht2 hi hc hc2 hn ho h hd
  | false =>
  have hp := hi.ph
  by_cases h4 : S.ph = 4
  · exact next_over w p F c l S t T hT ht2 hi hc hc2 hn ho h hd h4
  have h2 : S.ph ≠ 2 := fun h2 => by have := hi.clo h2; rw [hd] at this; cases this
  cases hm : S.me with
  | true => exact next_md w p F c l S t T hT ht2 hi hc hc2 hn ho h hd h4 hm
  | false =>
  cases hwd : S.wd with
  | cons r lw => exact next_again w p F c l S t T hT ht2 hi hc hc2 hn ho h r lw hd h4 hm hwd
  | nil =>
  by_cases h0 : S.ph = 0
  · cases hst : S.st with
    | false => exact next_first w p F c l S t T hT ht2 hi hc hc2 hn ho h hd hm hwd h0 hst
    | true =>
      rcases Nat.lt_or_ge S.pos F.length with hpos | hpos
      · exact next_data w p F c l S t T hT ht2 hi hc hc2 hn ho h hd hm hwd h0 hst hpos
      · exact next_eof w p F c l S t T hT ht2 hi hc hc2 hn ho h hd hm hwd h0 hst hpos
  · have h1 : S.ph = 1 := by omega
    cases ha : S.ack with
    | true => exact next_acked w p F c l S t T hT ht2 hi hc hc2 hn ho h hd hm hwd h1 ha
    | false =>
      rcases Nat.lt_or_ge t (S.tm + 10) with htt | htt
      · exact next_early w p F c l S t T hT ht2 hi hc hc2 hn ho h hd hm hwd h1 ha htt
      · exact next_rep w p F c l S t T hT ht2 hi hc hc2 hn ho h hd hm hwd h1 ha htt ht
end Go.Proofs.Ytfkbcflgbjncdaa
