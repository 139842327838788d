/- The receiving end: receive, Take. -/
import Derived.Test.YtfkbcflgbjncdaaTxAe
import Derived.Test.YtfkbcflgbjncdaaTxAf
import Derived.Test.YtfkbcflgbjncdaaTxAg
namespace Go.Proofs.Ytfkbcflgbjncdaa
set_option linter.unusedVariables false
set_option linter.unusedSimpArgs false
open Go.RowKit
def mdK (K : Sk) : Sk := if K.named then K else { K with named := true, tm := K.now, tr := 0 }
def efK (K : Sk) : Sk := if K.fin then K else { K with fin := true, nd := true, tm := K.now, tr := 0 }
theorem kmd_w (w : World) (p : Nat) (F : List Int) (c : Nat) (l : Ly) (K : Sk) (lu : Lc) (hgl : K.got.length ≤ 1000) (hlast : lastT K.got ≤ F.length) (h : SkAt w p F c l K) : Calls Try.prog 131 #[ptr p, .agg (pcs (upd F .md) lu)] w fun e w' => e = .returned (.int .i64 0) ∧ SkAt w' p F c l (mdK K) ∧ Keep w.heap.size [p] w w' := by
  have hv := h.got.vw (by omega)
  have hc := h.got.cap.1
  rcases Bool.eq_false_or_eq_true K.named with hn | hn <;> rcases Bool.eq_false_or_eq_true K.fin with hf | hf
  · rw [show mdK K = K from if_pos hn]
    exact (kmd_tt w p F c l K lu hgl hv hc hlast hn hf h.blk).mono fun _ _ hh => ⟨hh.1, h.same rfl rfl hh.2.1 hh.2.2, hh.2.2⟩
  · rw [show mdK K = K from if_pos hn]
    exact (kmd_tf w p F c l K lu hgl hv hc hlast hn hf h.blk).mono fun _ _ hh => ⟨hh.1, h.same rfl rfl hh.2.1 hh.2.2, hh.2.2⟩
  · rw [show mdK K = { K with named := true, tm := K.now, tr := 0 } from if_neg (by rw [hn]; simp)]
    exact (kmd_ft w p F c l K lu hgl hv hc hlast hn hf h.blk).mono fun _ _ hh => ⟨hh.1, SkAt.same h rfl rfl hh.2.1 hh.2.2, hh.2.2⟩
  · rw [show mdK K = { K with named := true, tm := K.now, tr := 0 } from if_neg (by rw [hn]; simp)]
    exact (kmd_ff w p F c l K lu hgl hv hc hlast hn hf h.blk).mono fun _ _ hh => ⟨hh.1, SkAt.same h rfl rfl hh.2.1 hh.2.2, hh.2.2⟩
theorem kef_w (w : World) (p : Nat) (F : List Int) (c : Nat) (l : Ly) (K : Sk) (lu : Lc) (hgl : K.got.length ≤ 1000) (hlast : lastT K.got ≤ F.length) (h : SkAt w p F c l K) : Calls Try.prog 133 #[ptr p, .agg (pcs (upd F .ef) lu)] w fun e w' => e = .returned (.int .i64 0) ∧ SkAt w' p F c l (efK K) ∧ Keep w.heap.size [p] w w' := by
  have hv := h.got.vw (by omega)
  have hc := h.got.cap.1
  rcases Bool.eq_false_or_eq_true K.named with hn | hn <;> rcases Bool.eq_false_or_eq_true K.fin with hf | hf
  · rw [show efK K = K from if_pos hf]
    exact (kef_tt w p F c l K lu hgl hv hc hlast hn hf h.blk).mono fun _ _ hh => ⟨hh.1, h.same rfl rfl hh.2.1 hh.2.2, hh.2.2⟩
  · rw [show efK K = { K with fin := true, nd := true, tm := K.now, tr := 0 } from if_neg (by rw [hf]; simp)]
    exact (kef_tf w p F c l K lu hgl hv hc hlast hn hf h.blk).mono fun _ _ hh => ⟨hh.1, SkAt.same h rfl rfl hh.2.1 hh.2.2, hh.2.2⟩
  · rw [show efK K = K from if_pos hf]
    exact (kef_ft w p F c l K lu hgl hv hc hlast hn hf h.blk).mono fun _ _ hh => ⟨hh.1, h.same rfl rfl hh.2.1 hh.2.2, hh.2.2⟩
  · rw [show efK K = { K with fin := true, nd := true, tm := K.now, tr := 0 } from if_neg (by rw [hf]; simp)]
    exact (kef_ff w p F c l K lu hgl hv hc hlast hn hf h.blk).mono fun _ _ hh => ⟨hh.1, SkAt.same h rfl rfl hh.2.1 hh.2.2, hh.2.2⟩
theorem mdK_got (K : Sk) : (mdK K).dat = K.dat ∧ (mdK K).got = K.got := by unfold mdK; split <;> exact ⟨rfl, rfl⟩
theorem efK_got (K : Sk) : (efK K).dat = K.dat ∧ (efK K).got = K.got ∧ (efK K).dd = K.dd ∧ (efK K).ad = K.ad := by unfold efK; split <;> exact ⟨rfl, rfl, rfl, rfl⟩
/-- what receive gives -/
def RcPost (w : World) (p : Nat) (F : List Int) (c : Nat) (l : Ly) (K : Sk) (u : Ut) (e : Ending) (w' : World) : Prop :=
  ∃ l' K', e = .returned (.int .i64 0) ∧ RecK F K.now K u K' ∧ SkAt w' p F c l' K' ∧ Keep w.heap.size (p :: blks l.D) w w' ∧ ∀ y, y ∈ sbl p l' → y ∈ sbl p l ∨ w.heap.size ≤ y
/-- what is asked of the end and the unit -/
structure RcPre (w : World) (F : List Int) (l : Ly) (p : Nat) (K : Sk) (u : Ut) (lu : Lc) : Prop where
  gn : Nrm K.got
  gi : ∀ z, mem K.got z → 0 ≤ z ∧ z < (F.length : Int)
  gd : ∀ z : Nat, mem K.got z → z < K.dat.length
  dl : K.dat.length ≤ F.length
  n : F.length ≤ 300
  oct : Oct F
  pin : PIn w (upd F u) lu
  ud : ∀ y, y ∈ blks lu.D ++ blks lu.G → y ∉ sbl p l
set_option maxRecDepth 100000 in
set_option maxHeartbeats 4000000 in
theorem krec_md_p1 (w : World) (p : Nat) (F : List Int) (c : Nat) (l : Ly) (K : Sk) (lu : Lc) (hp : K.ph = 1) (h : SkAt w p F c l K) (hr : RcPre w F l p K .md lu) : Calls Try.prog 90 #[ptr p, .agg (pcs (upd F .md) lu)] w (RcPost w p F c l K .md) := by
  have hgl : K.got.length ≤ 1000 := by have := nrm_len (a := 0) (N := (F.length : Int)) hr.gn hr.gi (by omega); have := hr.n; omega
  have hlast : lastT K.got ≤ F.length := lastT_le hr.gn (fun z hz => (hr.gi z hz).2) (by omega)
  have HR := Lib.hid hr
  have HS := Lib.hid h
  have HB := Lib.hid h.blk
  clear h hr
  go_enter Try.func90, Try.ntmps90
  go_upto_region 2 with fail
  obtain ⟨W, hW⟩ : ∃ W, W = w.alloc (.cells (pcs (upd F .md) lu) TP) := ⟨_, rfl⟩
  obtain ⟨q, hq⟩ : ∃ q, q = w.heap.size := ⟨_, rfl⟩
  have bq : Blk W q TP (pcs (upd F .md) lu) := by rw [hW, hq]; exact Blk.new _ _ _
  have ka : Keep w.heap.size [] w W := by rw [hW]; exact (Keep.refl _ _ _).alloc (Nat.le_refl _) _
  have hpq : p ≠ q := by have := HB.out.lt; omega
  have hqp : q ≠ p := hpq.symm
  change Code.wp _ _ _ _ (w.alloc (.cells (pcs (upd F .md) lu) TP))
  rw [← hW, ← hq]
  have bp := HB.out.keepS ka (by simp)
  clear hW hq
  have z0 : W.cell? ⟨q, 0, none⟩ = some (.int .i64 1) := bq.cell 0
  have z9 : W.cell? ⟨q, 9, none⟩ = some (.int .i64 0) := bq.cell 9
  have c8 : W.cell? ⟨p, 8, none⟩ = some (.int .i64 K.ph) := bp.cell 8
  have BP := Lib.hid bp
  have BQ := Lib.hid bq
  have KA := Lib.hid ka
  clear bp bq ka
  have SA := Lib.hid (HS.out.keepS KA.out (by simp))
  have UA := Lib.hid (HR.out.pin.keep0 KA.out)
  rw [show (.int .i64 (K.ph : Int) : Value) = .int .i64 1 by rw [hp]; rfl] at c8
  go_wp2_with fail
  go_ret
  exact ⟨l, K, rfl, .md0 (by omega), SA.out, KA.out.mono (Nat.le_refl _) (by simp), fun y hy => .inl hy⟩
set_option maxRecDepth 100000 in
set_option maxHeartbeats 4000000 in
theorem krec_md_p2 (w : World) (p : Nat) (F : List Int) (c : Nat) (l : Ly) (K : Sk) (lu : Lc) (hp : K.ph = 2) (h : SkAt w p F c l K) (hr : RcPre w F l p K .md lu) : Calls Try.prog 90 #[ptr p, .agg (pcs (upd F .md) lu)] w (RcPost w p F c l K .md) := by
  have hgl : K.got.length ≤ 1000 := by have := nrm_len (a := 0) (N := (F.length : Int)) hr.gn hr.gi (by omega); have := hr.n; omega
  have hlast : lastT K.got ≤ F.length := lastT_le hr.gn (fun z hz => (hr.gi z hz).2) (by omega)
  have HR := Lib.hid hr
  have HS := Lib.hid h
  have HB := Lib.hid h.blk
  clear h hr
  go_enter Try.func90, Try.ntmps90
  go_upto_region 2 with fail
  obtain ⟨W, hW⟩ : ∃ W, W = w.alloc (.cells (pcs (upd F .md) lu) TP) := ⟨_, rfl⟩
  obtain ⟨q, hq⟩ : ∃ q, q = w.heap.size := ⟨_, rfl⟩
  have bq : Blk W q TP (pcs (upd F .md) lu) := by rw [hW, hq]; exact Blk.new _ _ _
  have ka : Keep w.heap.size [] w W := by rw [hW]; exact (Keep.refl _ _ _).alloc (Nat.le_refl _) _
  have hpq : p ≠ q := by have := HB.out.lt; omega
  have hqp : q ≠ p := hpq.symm
  change Code.wp _ _ _ _ (w.alloc (.cells (pcs (upd F .md) lu) TP))
  rw [← hW, ← hq]
  have bp := HB.out.keepS ka (by simp)
  clear hW hq
  have z0 : W.cell? ⟨q, 0, none⟩ = some (.int .i64 1) := bq.cell 0
  have z9 : W.cell? ⟨q, 9, none⟩ = some (.int .i64 0) := bq.cell 9
  have c8 : W.cell? ⟨p, 8, none⟩ = some (.int .i64 K.ph) := bp.cell 8
  have BP := Lib.hid bp
  have BQ := Lib.hid bq
  have KA := Lib.hid ka
  clear bp bq ka
  have SA := Lib.hid (HS.out.keepS KA.out (by simp))
  have UA := Lib.hid (HR.out.pin.keep0 KA.out)
  rw [show (.int .i64 (K.ph : Int) : Value) = .int .i64 2 by rw [hp]; rfl] at c8
  go_wp2_with fail
  go_ret
  exact ⟨l, K, rfl, .md0 (by omega), SA.out, KA.out.mono (Nat.le_refl _) (by simp), fun y hy => .inl hy⟩
set_option maxRecDepth 100000 in
set_option maxHeartbeats 4000000 in
theorem krec_pc_p1 (w : World) (p : Nat) (F : List Int) (c : Nat) (l : Ly) (K : Sk) (lu : Lc) (a b : Nat) (hp : K.ph = 1) (h : SkAt w p F c l K) (hr : RcPre w F l p K (.pc a b) lu) : Calls Try.prog 90 #[ptr p, .agg (pcs (upd F (.pc a b)) lu)] w (RcPost w p F c l K (.pc a b)) := by
  have hgl : K.got.length ≤ 1000 := by have := nrm_len (a := 0) (N := (F.length : Int)) hr.gn hr.gi (by omega); have := hr.n; omega
  have hlast : lastT K.got ≤ F.length := lastT_le hr.gn (fun z hz => (hr.gi z hz).2) (by omega)
  have HR := Lib.hid hr
  have HS := Lib.hid h
  have HB := Lib.hid h.blk
  clear h hr
  go_enter Try.func90, Try.ntmps90
  go_upto_region 2 with fail
  obtain ⟨W, hW⟩ : ∃ W, W = w.alloc (.cells (pcs (upd F (.pc a b)) lu) TP) := ⟨_, rfl⟩
  obtain ⟨q, hq⟩ : ∃ q, q = w.heap.size := ⟨_, rfl⟩
  have bq : Blk W q TP (pcs (upd F (.pc a b)) lu) := by rw [hW, hq]; exact Blk.new _ _ _
  have ka : Keep w.heap.size [] w W := by rw [hW]; exact (Keep.refl _ _ _).alloc (Nat.le_refl _) _
  have hpq : p ≠ q := by have := HB.out.lt; omega
  have hqp : q ≠ p := hpq.symm
  change Code.wp _ _ _ _ (w.alloc (.cells (pcs (upd F (.pc a b)) lu) TP))
  rw [← hW, ← hq]
  have bp := HB.out.keepS ka (by simp)
  clear hW hq
  have z0 : W.cell? ⟨q, 0, none⟩ = some (.int .i64 2) := bq.cell 0
  have z9 : W.cell? ⟨q, 9, none⟩ = some (.int .i64 0) := bq.cell 9
  have c8 : W.cell? ⟨p, 8, none⟩ = some (.int .i64 K.ph) := bp.cell 8
  have BP := Lib.hid bp
  have BQ := Lib.hid bq
  have KA := Lib.hid ka
  clear bp bq ka
  have SA := Lib.hid (HS.out.keepS KA.out (by simp))
  have UA := Lib.hid (HR.out.pin.keep0 KA.out)
  rw [show (.int .i64 (K.ph : Int) : Value) = .int .i64 1 by rw [hp]; rfl] at c8
  go_wp2_with fail
  go_ret
  exact ⟨l, K, rfl, .pc0 a b (by omega), SA.out, KA.out.mono (Nat.le_refl _) (by simp), fun y hy => .inl hy⟩
set_option maxRecDepth 100000 in
set_option maxHeartbeats 4000000 in
theorem krec_pc_p2 (w : World) (p : Nat) (F : List Int) (c : Nat) (l : Ly) (K : Sk) (lu : Lc) (a b : Nat) (hp : K.ph = 2) (h : SkAt w p F c l K) (hr : RcPre w F l p K (.pc a b) lu) : Calls Try.prog 90 #[ptr p, .agg (pcs (upd F (.pc a b)) lu)] w (RcPost w p F c l K (.pc a b)) := by
  have hgl : K.got.length ≤ 1000 := by have := nrm_len (a := 0) (N := (F.length : Int)) hr.gn hr.gi (by omega); have := hr.n; omega
  have hlast : lastT K.got ≤ F.length := lastT_le hr.gn (fun z hz => (hr.gi z hz).2) (by omega)
  have HR := Lib.hid hr
  have HS := Lib.hid h
  have HB := Lib.hid h.blk
  clear h hr
  go_enter Try.func90, Try.ntmps90
  go_upto_region 2 with fail
  obtain ⟨W, hW⟩ : ∃ W, W = w.alloc (.cells (pcs (upd F (.pc a b)) lu) TP) := ⟨_, rfl⟩
  obtain ⟨q, hq⟩ : ∃ q, q = w.heap.size := ⟨_, rfl⟩
  have bq : Blk W q TP (pcs (upd F (.pc a b)) lu) := by rw [hW, hq]; exact Blk.new _ _ _
  have ka : Keep w.heap.size [] w W := by rw [hW]; exact (Keep.refl _ _ _).alloc (Nat.le_refl _) _
  have hpq : p ≠ q := by have := HB.out.lt; omega
  have hqp : q ≠ p := hpq.symm
  change Code.wp _ _ _ _ (w.alloc (.cells (pcs (upd F (.pc a b)) lu) TP))
  rw [← hW, ← hq]
  have bp := HB.out.keepS ka (by simp)
  clear hW hq
  have z0 : W.cell? ⟨q, 0, none⟩ = some (.int .i64 2) := bq.cell 0
  have z9 : W.cell? ⟨q, 9, none⟩ = some (.int .i64 0) := bq.cell 9
  have c8 : W.cell? ⟨p, 8, none⟩ = some (.int .i64 K.ph) := bp.cell 8
  have BP := Lib.hid bp
  have BQ := Lib.hid bq
  have KA := Lib.hid ka
  clear bp bq ka
  have SA := Lib.hid (HS.out.keepS KA.out (by simp))
  have UA := Lib.hid (HR.out.pin.keep0 KA.out)
  rw [show (.int .i64 (K.ph : Int) : Value) = .int .i64 2 by rw [hp]; rfl] at c8
  go_wp2_with fail
  go_ret
  exact ⟨l, K, rfl, .pc0 a b (by omega), SA.out, KA.out.mono (Nat.le_refl _) (by simp), fun y hy => .inl hy⟩
set_option maxRecDepth 100000 in
set_option maxHeartbeats 4000000 in
theorem krec_md_p0 (w : World) (p : Nat) (F : List Int) (c : Nat) (l : Ly) (K : Sk) (lu : Lc) (hp : K.ph = 0) (h : SkAt w p F c l K) (hr : RcPre w F l p K .md lu) : Calls Try.prog 90 #[ptr p, .agg (pcs (upd F .md) lu)] w (RcPost w p F c l K .md) := by
  have hgl : K.got.length ≤ 1000 := by have := nrm_len (a := 0) (N := (F.length : Int)) hr.gn hr.gi (by omega); have := hr.n; omega
  have hlast : lastT K.got ≤ F.length := lastT_le hr.gn (fun z hz => (hr.gi z hz).2) (by omega)
  have HR := Lib.hid hr
  have HS := Lib.hid h
  have HB := Lib.hid h.blk
  clear h hr
  go_enter Try.func90, Try.ntmps90
  go_upto_region 2 with fail
  obtain ⟨W, hW⟩ : ∃ W, W = w.alloc (.cells (pcs (upd F .md) lu) TP) := ⟨_, rfl⟩
  obtain ⟨q, hq⟩ : ∃ q, q = w.heap.size := ⟨_, rfl⟩
  have bq : Blk W q TP (pcs (upd F .md) lu) := by rw [hW, hq]; exact Blk.new _ _ _
  have ka : Keep w.heap.size [] w W := by rw [hW]; exact (Keep.refl _ _ _).alloc (Nat.le_refl _) _
  have hpq : p ≠ q := by have := HB.out.lt; omega
  have hqp : q ≠ p := hpq.symm
  change Code.wp _ _ _ _ (w.alloc (.cells (pcs (upd F .md) lu) TP))
  rw [← hW, ← hq]
  have bp := HB.out.keepS ka (by simp)
  clear hW hq
  have z0 : W.cell? ⟨q, 0, none⟩ = some (.int .i64 1) := bq.cell 0
  have z9 : W.cell? ⟨q, 9, none⟩ = some (.int .i64 0) := bq.cell 9
  have c8 : W.cell? ⟨p, 8, none⟩ = some (.int .i64 K.ph) := bp.cell 8
  have BP := Lib.hid bp
  have BQ := Lib.hid bq
  have KA := Lib.hid ka
  clear bp bq ka
  have SA := Lib.hid (HS.out.keepS KA.out (by simp))
  have UA := Lib.hid (HR.out.pin.keep0 KA.out)
  rw [show (.int .i64 (K.ph : Int) : Value) = .int .i64 0 by rw [hp]; rfl] at c8
  go_wp2_with (refine wpList_load_mid rfl TP (.tmp 3) rfl q 0 rfl (pcs (upd F .md) lu).toList _ BQ.out.range Try.underlying85 rfl (by rw [infoPd]; rfl) ?_)
  refine (kmd_w _ p F c l K lu hgl hlast SA.out).mono ?_
  rintro e W2 ⟨rfl, hs2, hk2⟩
  have S2 := Lib.hid hs2
  have K2 : Hid (Keep w.heap.size (p :: blks l.D) w W2) := Lib.hid ((KA.out.mono (S' := p :: blks l.D) (Nat.le_refl _) (by simp)).trans (hk2.mono KA.out.size (fun y _ hy => by simp only [List.mem_singleton] at hy; simp [hy])))
  clear hs2 hk2
  go_wp2_with fail
  go_ret
  have hrc : RecK F K.now K .md (mdK K) := by
    unfold mdK
    cases hn : K.named with
    | true => exact .md1 hp hn
    | false => exact .md2 hp hn
  exact ⟨l, _, rfl, hrc, S2.out, K2.out, fun y hy => .inl hy⟩
set_option maxRecDepth 100000 in
set_option maxHeartbeats 4000000 in
theorem krec_pc_p0 (w : World) (p : Nat) (F : List Int) (c : Nat) (l : Ly) (K : Sk) (lu : Lc) (a b : Nat) (hab : a < b) (hbn : b ≤ F.length) (hp : K.ph = 0) (h : SkAt w p F c l K) (hr : RcPre w F l p K (.pc a b) lu) : Calls Try.prog 90 #[ptr p, .agg (pcs (upd F (.pc a b)) lu)] w (RcPost w p F c l K (.pc a b)) := by
  have hgl : K.got.length ≤ 1000 := by have := nrm_len (a := 0) (N := (F.length : Int)) hr.gn hr.gi (by omega); have := hr.n; omega
  have hlast : lastT K.got ≤ F.length := lastT_le hr.gn (fun z hz => (hr.gi z hz).2) (by omega)
  have HR := Lib.hid hr
  have HS := Lib.hid h
  have HB := Lib.hid h.blk
  clear h hr
  go_enter Try.func90, Try.ntmps90
  go_upto_region 2 with fail
  obtain ⟨W, hW⟩ : ∃ W, W = w.alloc (.cells (pcs (upd F (.pc a b)) lu) TP) := ⟨_, rfl⟩
  obtain ⟨q, hq⟩ : ∃ q, q = w.heap.size := ⟨_, rfl⟩
  have bq : Blk W q TP (pcs (upd F (.pc a b)) lu) := by rw [hW, hq]; exact Blk.new _ _ _
  have ka : Keep w.heap.size [] w W := by rw [hW]; exact (Keep.refl _ _ _).alloc (Nat.le_refl _) _
  have hpq : p ≠ q := by have := HB.out.lt; omega
  have hqp : q ≠ p := hpq.symm
  change Code.wp _ _ _ _ (w.alloc (.cells (pcs (upd F (.pc a b)) lu) TP))
  rw [← hW, ← hq]
  have bp := HB.out.keepS ka (by simp)
  clear hW hq
  have z0 : W.cell? ⟨q, 0, none⟩ = some (.int .i64 2) := bq.cell 0
  have z9 : W.cell? ⟨q, 9, none⟩ = some (.int .i64 0) := bq.cell 9
  have c8 : W.cell? ⟨p, 8, none⟩ = some (.int .i64 K.ph) := bp.cell 8
  have BP := Lib.hid bp
  have BQ := Lib.hid bq
  have KA := Lib.hid ka
  clear bp bq ka
  have SA := Lib.hid (HS.out.keepS KA.out (by simp))
  have UA := Lib.hid (HR.out.pin.keep0 KA.out)
  rw [show (.int .i64 (K.ph : Int) : Value) = .int .i64 0 by rw [hp]; rfl] at c8
  go_wp2_with (refine wpList_load_mid rfl TP (.tmp 3) rfl q 0 rfl (pcs (upd F (.pc a b)) lu).toList _ BQ.out.range Try.underlying85 rfl (by rw [infoPd]; rfl) ?_)
  refine (kpc_w _ p F c l K a b lu hab hbn HR.out.n HR.out.oct UA.out (fun y hy => HR.out.ud y (by simp [hy])) SA.out HR.out.gn HR.out.gi HR.out.gd HR.out.dl).mono ?_
  rintro e W2 ⟨l2, N, D, rfl, h1, h2, h3, h4, h5, h6, h7, h8⟩
  have K2 : Hid (Keep w.heap.size (p :: blks l.D) w W2) := Lib.hid ((KA.out.mono (S' := p :: blks l.D) (Nat.le_refl _) (by simp)).trans (h7.mono KA.out.size (fun y _ hy => hy)))
  have H1 := Lib.hid h1
  have H2 := Lib.hid h2
  have H3 := Lib.hid h3
  have H4 := Lib.hid h4
  have H5 := Lib.hid h5
  have H6 := Lib.hid h6
  have H8 := Lib.hid h8
  clear h1 h2 h3 h4 h5 h6 h7 h8
  go_wp2_with fail
  go_ret
  refine ⟨l2, _, rfl, ?_, H6.out, K2.out, fun y hy => by have := KA.out.size; rcases H8.out y hy with h | h; exact .inl h; right; omega⟩
  by_cases hw : width K.got < width N
  · rw [if_pos hw]; exact .pc1 a b N D hp H1.out H2.out H3.out H4.out H5.out hw
  · rw [if_neg hw]; exact .pc2 a b N D hp H1.out H2.out H3.out H4.out H5.out hw
set_option maxRecDepth 100000 in
set_option maxHeartbeats 4000000 in
theorem krec_ef_p1 (w : World) (p : Nat) (F : List Int) (c : Nat) (l : Ly) (K : Sk) (lu : Lc) (hp : K.ph = 1) (h : SkAt w p F c l K) (hr : RcPre w F l p K .ef lu) : Calls Try.prog 90 #[ptr p, .agg (pcs (upd F .ef) lu)] w (RcPost w p F c l K .ef) := by
  have hgl : K.got.length ≤ 1000 := by have := nrm_len (a := 0) (N := (F.length : Int)) hr.gn hr.gi (by omega); have := hr.n; omega
  have hlast : lastT K.got ≤ F.length := lastT_le hr.gn (fun z hz => (hr.gi z hz).2) (by omega)
  have HR := Lib.hid hr
  have HS := Lib.hid h
  have HB := Lib.hid h.blk
  clear h hr
  go_enter Try.func90, Try.ntmps90
  go_upto_region 2 with fail
  obtain ⟨W, hW⟩ : ∃ W, W = w.alloc (.cells (pcs (upd F .ef) lu) TP) := ⟨_, rfl⟩
  obtain ⟨q, hq⟩ : ∃ q, q = w.heap.size := ⟨_, rfl⟩
  have bq : Blk W q TP (pcs (upd F .ef) lu) := by rw [hW, hq]; exact Blk.new _ _ _
  have ka : Keep w.heap.size [] w W := by rw [hW]; exact (Keep.refl _ _ _).alloc (Nat.le_refl _) _
  have hpq : p ≠ q := by have := HB.out.lt; omega
  have hqp : q ≠ p := hpq.symm
  change Code.wp _ _ _ _ (w.alloc (.cells (pcs (upd F .ef) lu) TP))
  rw [← hW, ← hq]
  have bp := HB.out.keepS ka (by simp)
  clear hW hq
  have z0 : W.cell? ⟨q, 0, none⟩ = some (.int .i64 3) := bq.cell 0
  have z9 : W.cell? ⟨q, 9, none⟩ = some (.int .i64 0) := bq.cell 9
  have c8 : W.cell? ⟨p, 8, none⟩ = some (.int .i64 K.ph) := bp.cell 8
  have BP := Lib.hid bp
  have BQ := Lib.hid bq
  have KA := Lib.hid ka
  clear bp bq ka
  have SA := Lib.hid (HS.out.keepS KA.out (by simp))
  have UA := Lib.hid (HR.out.pin.keep0 KA.out)
  have c21 : W.cell? ⟨p, 21, none⟩ = some (.bool K.ad) := BP.out.cell 21
  have f21 := BP.out.frozen 21
  have c23 : W.cell? ⟨p, 23, none⟩ = some (.bool K.dd) := BP.out.cell 23
  have f23 := BP.out.frozen 23
  rw [show (.int .i64 (K.ph : Int) : Value) = .int .i64 1 by rw [hp]; rfl] at c8
  go_wp2_with fail
  refine (kack_w _ p F c l K BP.out).mono ?_
  rintro e W ⟨rfl, rfl⟩
  cases hdd : K.dd
  all_goals rw [hdd] at c23
  · go_wp2_with fail
    go_ret
    have hb := (BP.out.set_ 21 (.bool true)).set_ 23 (.bool false)
    have hk : Keep w.heap.size [p] w ((W.setCell ⟨p, 21, none⟩ (.bool true)).setCell ⟨p, 23, none⟩ (.bool false)) := ((KA.out.mono (S' := [p]) (Nat.le_refl _) (by simp)).set1).set1
    refine ⟨l, { K with ad := true, dd := false }, rfl, ?_, SkAt.same HS.out rfl rfl hb hk, hk.mono (Nat.le_refl _) (fun y _ hy => by simp only [List.mem_singleton] at hy; simp [hy]), fun y hy => .inl hy⟩
    have hr : RecK F K.now K .ef { K with now := K.now, ad := true, dd := K.dd || decide (K.ph = 2) } := .ef0 (by omega)
    have he : (K.dd || decide (K.ph = 2)) = false := by rw [hdd, hp]; rfl
    rw [he] at hr
    exact hr
  · go_wp2_with fail
    go_ret
    have hb := (BP.out.set_ 21 (.bool true)).set_ 23 (.bool true)
    have hk : Keep w.heap.size [p] w ((W.setCell ⟨p, 21, none⟩ (.bool true)).setCell ⟨p, 23, none⟩ (.bool true)) := ((KA.out.mono (S' := [p]) (Nat.le_refl _) (by simp)).set1).set1
    refine ⟨l, { K with ad := true, dd := true }, rfl, ?_, SkAt.same HS.out rfl rfl hb hk, hk.mono (Nat.le_refl _) (fun y _ hy => by simp only [List.mem_singleton] at hy; simp [hy]), fun y hy => .inl hy⟩
    have hr : RecK F K.now K .ef { K with now := K.now, ad := true, dd := K.dd || decide (K.ph = 2) } := .ef0 (by omega)
    have he : (K.dd || decide (K.ph = 2)) = true := by rw [hdd, hp]; rfl
    rw [he] at hr
    exact hr
set_option maxRecDepth 100000 in
set_option maxHeartbeats 4000000 in
theorem krec_ef_p2 (w : World) (p : Nat) (F : List Int) (c : Nat) (l : Ly) (K : Sk) (lu : Lc) (hp : K.ph = 2) (h : SkAt w p F c l K) (hr : RcPre w F l p K .ef lu) : Calls Try.prog 90 #[ptr p, .agg (pcs (upd F .ef) lu)] w (RcPost w p F c l K .ef) := by
  have hgl : K.got.length ≤ 1000 := by have := nrm_len (a := 0) (N := (F.length : Int)) hr.gn hr.gi (by omega); have := hr.n; omega
  have hlast : lastT K.got ≤ F.length := lastT_le hr.gn (fun z hz => (hr.gi z hz).2) (by omega)
  have HR := Lib.hid hr
  have HS := Lib.hid h
  have HB := Lib.hid h.blk
  clear h hr
  go_enter Try.func90, Try.ntmps90
  go_upto_region 2 with fail
  obtain ⟨W, hW⟩ : ∃ W, W = w.alloc (.cells (pcs (upd F .ef) lu) TP) := ⟨_, rfl⟩
  obtain ⟨q, hq⟩ : ∃ q, q = w.heap.size := ⟨_, rfl⟩
  have bq : Blk W q TP (pcs (upd F .ef) lu) := by rw [hW, hq]; exact Blk.new _ _ _
  have ka : Keep w.heap.size [] w W := by rw [hW]; exact (Keep.refl _ _ _).alloc (Nat.le_refl _) _
  have hpq : p ≠ q := by have := HB.out.lt; omega
  have hqp : q ≠ p := hpq.symm
  change Code.wp _ _ _ _ (w.alloc (.cells (pcs (upd F .ef) lu) TP))
  rw [← hW, ← hq]
  have bp := HB.out.keepS ka (by simp)
  clear hW hq
  have z0 : W.cell? ⟨q, 0, none⟩ = some (.int .i64 3) := bq.cell 0
  have z9 : W.cell? ⟨q, 9, none⟩ = some (.int .i64 0) := bq.cell 9
  have c8 : W.cell? ⟨p, 8, none⟩ = some (.int .i64 K.ph) := bp.cell 8
  have BP := Lib.hid bp
  have BQ := Lib.hid bq
  have KA := Lib.hid ka
  clear bp bq ka
  have SA := Lib.hid (HS.out.keepS KA.out (by simp))
  have UA := Lib.hid (HR.out.pin.keep0 KA.out)
  have c21 : W.cell? ⟨p, 21, none⟩ = some (.bool K.ad) := BP.out.cell 21
  have f21 := BP.out.frozen 21
  have c23 : W.cell? ⟨p, 23, none⟩ = some (.bool K.dd) := BP.out.cell 23
  have f23 := BP.out.frozen 23
  rw [show (.int .i64 (K.ph : Int) : Value) = .int .i64 2 by rw [hp]; rfl] at c8
  go_wp2_with fail
  refine (kack_w _ p F c l K BP.out).mono ?_
  rintro e W ⟨rfl, rfl⟩
  cases hdd : K.dd
  all_goals rw [hdd] at c23
  · go_wp2_with fail
    go_ret
    have hb := (BP.out.set_ 21 (.bool true)).set_ 23 (.bool true)
    have hk : Keep w.heap.size [p] w ((W.setCell ⟨p, 21, none⟩ (.bool true)).setCell ⟨p, 23, none⟩ (.bool true)) := ((KA.out.mono (S' := [p]) (Nat.le_refl _) (by simp)).set1).set1
    refine ⟨l, { K with ad := true, dd := true }, rfl, ?_, SkAt.same HS.out rfl rfl hb hk, hk.mono (Nat.le_refl _) (fun y _ hy => by simp only [List.mem_singleton] at hy; simp [hy]), fun y hy => .inl hy⟩
    have hr : RecK F K.now K .ef { K with now := K.now, ad := true, dd := K.dd || decide (K.ph = 2) } := .ef0 (by omega)
    have he : (K.dd || decide (K.ph = 2)) = true := by rw [hdd, hp]; rfl
    rw [he] at hr
    exact hr
  · go_wp2_with fail
    go_ret
    have hb := (BP.out.set_ 21 (.bool true)).set_ 23 (.bool true)
    have hk : Keep w.heap.size [p] w ((W.setCell ⟨p, 21, none⟩ (.bool true)).setCell ⟨p, 23, none⟩ (.bool true)) := ((KA.out.mono (S' := [p]) (Nat.le_refl _) (by simp)).set1).set1
    refine ⟨l, { K with ad := true, dd := true }, rfl, ?_, SkAt.same HS.out rfl rfl hb hk, hk.mono (Nat.le_refl _) (fun y _ hy => by simp only [List.mem_singleton] at hy; simp [hy]), fun y hy => .inl hy⟩
    have hr : RecK F K.now K .ef { K with now := K.now, ad := true, dd := K.dd || decide (K.ph = 2) } := .ef0 (by omega)
    have he : (K.dd || decide (K.ph = 2)) = true := by rw [hdd, hp]; rfl
    rw [he] at hr
    exact hr
set_option maxRecDepth 100000 in
set_option maxHeartbeats 4000000 in
theorem krec_ef_p0 (w : World) (p : Nat) (F : List Int) (c : Nat) (l : Ly) (K : Sk) (lu : Lc) (hp : K.ph = 0) (h : SkAt w p F c l K) (hr : RcPre w F l p K .ef lu) : Calls Try.prog 90 #[ptr p, .agg (pcs (upd F .ef) lu)] w (RcPost w p F c l K .ef) := by
  have hgl : K.got.length ≤ 1000 := by have := nrm_len (a := 0) (N := (F.length : Int)) hr.gn hr.gi (by omega); have := hr.n; omega
  have hlast : lastT K.got ≤ F.length := lastT_le hr.gn (fun z hz => (hr.gi z hz).2) (by omega)
  have HR := Lib.hid hr
  have HS := Lib.hid h
  have HB := Lib.hid h.blk
  clear h hr
  go_enter Try.func90, Try.ntmps90
  go_upto_region 2 with fail
  obtain ⟨W, hW⟩ : ∃ W, W = w.alloc (.cells (pcs (upd F .ef) lu) TP) := ⟨_, rfl⟩
  obtain ⟨q, hq⟩ : ∃ q, q = w.heap.size := ⟨_, rfl⟩
  have bq : Blk W q TP (pcs (upd F .ef) lu) := by rw [hW, hq]; exact Blk.new _ _ _
  have ka : Keep w.heap.size [] w W := by rw [hW]; exact (Keep.refl _ _ _).alloc (Nat.le_refl _) _
  have hpq : p ≠ q := by have := HB.out.lt; omega
  have hqp : q ≠ p := hpq.symm
  change Code.wp _ _ _ _ (w.alloc (.cells (pcs (upd F .ef) lu) TP))
  rw [← hW, ← hq]
  have bp := HB.out.keepS ka (by simp)
  clear hW hq
  have z0 : W.cell? ⟨q, 0, none⟩ = some (.int .i64 3) := bq.cell 0
  have z9 : W.cell? ⟨q, 9, none⟩ = some (.int .i64 0) := bq.cell 9
  have c8 : W.cell? ⟨p, 8, none⟩ = some (.int .i64 K.ph) := bp.cell 8
  have BP := Lib.hid bp
  have BQ := Lib.hid bq
  have KA := Lib.hid ka
  clear bp bq ka
  have SA := Lib.hid (HS.out.keepS KA.out (by simp))
  have UA := Lib.hid (HR.out.pin.keep0 KA.out)
  rw [show (.int .i64 (K.ph : Int) : Value) = .int .i64 0 by rw [hp]; rfl] at c8
  go_wp2_with (refine wpList_load_mid rfl TP (.tmp 3) rfl q 0 rfl (pcs (upd F .ef) lu).toList _ BQ.out.range Try.underlying85 rfl (by rw [infoPd]; rfl) ?_)
  refine (kef_w _ p F c l K lu hgl hlast SA.out).mono ?_
  rintro e W2 ⟨rfl, hs2, hk2⟩
  have c21 : W2.cell? ⟨p, 21, none⟩ = some (.bool (efK K).ad) := hs2.blk.cell 21
  have f21 := hs2.blk.frozen 21
  have c23 : W2.cell? ⟨p, 23, none⟩ = some (.bool (efK K).dd) := hs2.blk.cell 23
  have f23 := hs2.blk.frozen 23
  have y9 : W2.cell? ⟨q, 9, none⟩ = some (.int .i64 0) := (BQ.out.keepS hk2 (by simpa using hqp)).cell 9
  have S2 := Lib.hid hs2
  have K2 : Hid (Keep w.heap.size [p] w W2) := Lib.hid ((KA.out.mono (S' := [p]) (Nat.le_refl _) (by simp)).trans (hk2.mono KA.out.size (by simp)))
  rw [(efK_got K).2.2.1] at c23
  clear hs2 hk2
  go_wp2_with fail
  refine (kack_w _ p F c l (efK K) S2.out.blk).mono ?_
  rintro e W2 ⟨rfl, rfl⟩
  cases hdd : K.dd
  all_goals rw [hdd] at c23
  · go_wp2_with fail
    go_ret
    have hb := (S2.out.blk.set_ 21 (.bool true)).set_ 23 (.bool false)
    have hk : Keep w.heap.size [p] w ((W2.setCell ⟨p, 21, none⟩ (.bool true)).setCell ⟨p, 23, none⟩ (.bool false)) := (K2.out.set1).set1
    have hdd2 : (efK K).dd = false := by rw [(efK_got K).2.2.1]; exact hdd
    have hb2 : Blk ((W2.setCell ⟨p, 21, none⟩ (.bool true)).setCell ⟨p, 23, none⟩ (.bool false)) p TK (kcs F c l { efK K with ad := true }) := by rw [← hdd2] at hb; rw [← hdd2]; exact hb
    refine ⟨l, { efK K with ad := true }, rfl, ?_, SkAt.same HS.out (efK_got K).1 (efK_got K).2.1 hb2 hk, hk.mono (Nat.le_refl _) (fun y _ hy => by simp only [List.mem_singleton] at hy; simp [hy]), fun y hy => .inl hy⟩
    unfold efK
    cases hf : K.fin with
    | true => exact .ef1 hp hf
    | false => exact .ef2 hp hf
  · go_wp2_with fail
    go_ret
    have hb := (S2.out.blk.set_ 21 (.bool true)).set_ 23 (.bool true)
    have hk : Keep w.heap.size [p] w ((W2.setCell ⟨p, 21, none⟩ (.bool true)).setCell ⟨p, 23, none⟩ (.bool true)) := (K2.out.set1).set1
    have hdd2 : (efK K).dd = true := by rw [(efK_got K).2.2.1]; exact hdd
    have hb2 : Blk ((W2.setCell ⟨p, 21, none⟩ (.bool true)).setCell ⟨p, 23, none⟩ (.bool true)) p TK (kcs F c l { efK K with ad := true }) := by rw [← hdd2] at hb; rw [← hdd2]; exact hb
    refine ⟨l, { efK K with ad := true }, rfl, ?_, SkAt.same HS.out (efK_got K).1 (efK_got K).2.1 hb2 hk, hk.mono (Nat.le_refl _) (fun y _ hy => by simp only [List.mem_singleton] at hy; simp [hy]), fun y hy => .inl hy⟩
    unfold efK
    cases hf : K.fin with
    | true => exact .ef1 hp hf
    | false => exact .ef2 hp hf
set_option maxRecDepth 100000 in
set_option maxHeartbeats 4000000 in
theorem krec_ad_p2 (w : World) (p : Nat) (F : List Int) (c : Nat) (l : Ly) (K : Sk) (lu : Lc) (hp : K.ph = 2) (h : SkAt w p F c l K) (hr : RcPre w F l p K .ad lu) : Calls Try.prog 90 #[ptr p, .agg (pcs (upd F .ad) lu)] w (RcPost w p F c l K .ad) := by
  have hgl : K.got.length ≤ 1000 := by have := nrm_len (a := 0) (N := (F.length : Int)) hr.gn hr.gi (by omega); have := hr.n; omega
  have hlast : lastT K.got ≤ F.length := lastT_le hr.gn (fun z hz => (hr.gi z hz).2) (by omega)
  have HR := Lib.hid hr
  have HS := Lib.hid h
  have HB := Lib.hid h.blk
  clear h hr
  go_enter Try.func90, Try.ntmps90
  go_upto_region 2 with fail
  obtain ⟨W, hW⟩ : ∃ W, W = w.alloc (.cells (pcs (upd F .ad) lu) TP) := ⟨_, rfl⟩
  obtain ⟨q, hq⟩ : ∃ q, q = w.heap.size := ⟨_, rfl⟩
  have bq : Blk W q TP (pcs (upd F .ad) lu) := by rw [hW, hq]; exact Blk.new _ _ _
  have ka : Keep w.heap.size [] w W := by rw [hW]; exact (Keep.refl _ _ _).alloc (Nat.le_refl _) _
  have hpq : p ≠ q := by have := HB.out.lt; omega
  have hqp : q ≠ p := hpq.symm
  change Code.wp _ _ _ _ (w.alloc (.cells (pcs (upd F .ad) lu) TP))
  rw [← hW, ← hq]
  have bp := HB.out.keepS ka (by simp)
  clear hW hq
  have z0 : W.cell? ⟨q, 0, none⟩ = some (.int .i64 7) := bq.cell 0
  have z9 : W.cell? ⟨q, 9, none⟩ = some (.int .i64 0) := bq.cell 9
  have c8 : W.cell? ⟨p, 8, none⟩ = some (.int .i64 K.ph) := bp.cell 8
  have BP := Lib.hid bp
  have BQ := Lib.hid bq
  have KA := Lib.hid ka
  clear bp bq ka
  have SA := Lib.hid (HS.out.keepS KA.out (by simp))
  have UA := Lib.hid (HR.out.pin.keep0 KA.out)
  have c9 : W.cell? ⟨p, 9, none⟩ = some (.bool K.ended) := BP.out.cell 9
  have f9 := BP.out.frozen 9
  have c10 : W.cell? ⟨p, 10, none⟩ = some (.bool false) := BP.out.cell 10
  have f10 := BP.out.frozen 10
  have c21 : W.cell? ⟨p, 21, none⟩ = some (.bool K.ad) := BP.out.cell 21
  have f21 := BP.out.frozen 21
  have c22 : W.cell? ⟨p, 22, none⟩ = some (.bool K.nd) := BP.out.cell 22
  have f22 := BP.out.frozen 22
  have c23 : W.cell? ⟨p, 23, none⟩ = some (.bool K.dd) := BP.out.cell 23
  have f23 := BP.out.frozen 23
  rw [show (.int .i64 (K.ph : Int) : Value) = .int .i64 2 by rw [hp]; rfl] at c8
  go_wp2_with fail
  refine (kack_w _ p F c l K BP.out).mono ?_
  rintro e W ⟨rfl, rfl⟩
  go_wp2_with fail
  go_ret
  have hb := ((((BP.out.set_ 9 (.bool true)).set_ 10 (.bool false)).set_ 21 (.bool false)).set_ 22 (.bool false)).set_ 23 (.bool false)
  have hk : Keep w.heap.size [p] w (((((W.setCell ⟨p, 9, none⟩ (.bool true)).setCell ⟨p, 10, none⟩ (.bool false)).setCell ⟨p, 21, none⟩ (.bool false)).setCell ⟨p, 22, none⟩ (.bool false)).setCell ⟨p, 23, none⟩ (.bool false)) := (((((KA.out.mono (S' := [p]) (Nat.le_refl _) (by simp)).set1).set1).set1).set1).set1
  exact ⟨l, { K with ended := true, ad := false, nd := false, dd := false }, rfl, .ad hp, SkAt.same HS.out rfl rfl hb hk, hk.mono (Nat.le_refl _) (fun y _ hy => by simp only [List.mem_singleton] at hy; simp [hy]), fun y hy => .inl hy⟩
end Go.Proofs.Ytfkbcflgbjncdaa
