/- The law: a second save that is interrupted anywhere, and one upset. -/
import Derived.Test.YtfkbcflgbjncdaaChG
import Derived.Test.YtfkbcflgbjncdaaVauJ
namespace Go.Proofs.Ytfkbcflgbjncdaa
set_option linter.unusedVariables false
set_option linter.unusedSimpArgs false
open Go.RowKit
abbrev TDm : TypeId := 51
theorem ImPost.any {w : World} {x : Stt} {e : Ending} {w' : World} (h : ImPost w x e w') : ∃ A m c' ok, e = .returned (.tuple #[.slice A m c', .bool ok]) ∧ ckOk x.ck = ok ∧ Keep w.heap.size [] w w' ∧
    (ok = true → m = (encC x.ck).length ∧ Sl w' 5 1 A m c' (octs (encC x.ck)) ∧ ∀ y, y ∈ blks A → w.heap.size ≤ y) := by
  obtain ⟨hk, ⟨h1, rfl⟩ | ⟨h1, A, m, c', rfl, h2, h3, h4⟩⟩ := h
  · exact ⟨none, 0, 0, false, rfl, h1, hk, fun h => (by cases h)⟩
  · refine ⟨A, m, c', true, rfl, h1, hk, fun _ => ⟨h2, h3, h4⟩⟩
def LawPost (w : World) (e : Ending) (w' : World) : Prop := e = .returned (.bool true) ∧ Keep w.heap.size [] w w'
theorem encC_oct (c : Ck) : Oct (encC c) := by
  unfold encC headC vB
  exact ((((((((vI_oct _).app (be_octC _ _)).app (vI_oct _)).app ((vI_oct _).app (imageL_oct _))).app ((vI_oct _).app (fun x hx => by rcases List.mem_singleton.1 hx with rfl; omega))).app (vI_oct _)).app (vI_oct _)).app (fE_oct _)).app (vI_oct _)
set_option maxRecDepth 100000 in
set_option maxHeartbeats 16000000 in
theorem ckpt_any (w : World) (x y : Stt) (l1 l2 : CL) (cut word bit : Int) (hx : SIn w x l1) (hy : SIn w y l2) :
    Calls Try.prog 4 #[.agg (scs x l1), .agg (scs y l2), .agg #[.int .i64 cut, .int .i64 word, .int .i64 bit]] w (LawPost w) := by
  obtain ⟨XM, mm, mc, XD, dn, dc⟩ := l1
  obtain ⟨YM, ym, yc, YD, en, ec⟩ := l2
  obtain ⟨W0, hW0⟩ : ∃ W0, W0 = ((w.alloc (.cells (scs x ⟨XM, mm, mc, XD, dn, dc⟩) TSt)).alloc (.cells (scs y ⟨YM, ym, yc, YD, en, ec⟩) TSt)).alloc (.cells #[.int .i64 cut, .int .i64 word, .int .i64 bit] TDm) := ⟨_, rfl⟩
  obtain ⟨p1, hp1⟩ : ∃ p, p = w.heap.size := ⟨_, rfl⟩
  obtain ⟨p2, hp2⟩ : ∃ p, p = w.heap.size + 1 := ⟨_, rfl⟩
  obtain ⟨p3, hp3⟩ : ∃ p, p = w.heap.size + 1 + 1 := ⟨_, rfl⟩
  have k0 : Keep w.heap.size [] w W0 := by rw [hW0]; exact ((((Keep.refl _ _ w).alloc (Nat.le_refl _) _).alloc (by simp) _).alloc (by simp; omega) _)
  have b1 : Blk W0 p1 TSt (scs x ⟨XM, mm, mc, XD, dn, dc⟩) := by rw [hW0, hp1]; exact ((Blk.new _ _ _).alloc _).alloc _
  have b2 : Blk W0 p2 TSt (scs y ⟨YM, ym, yc, YD, en, ec⟩) := by
    rw [hW0, hp2]
    have h := (Blk.new (w.alloc (.cells (scs x ⟨XM, mm, mc, XD, dn, dc⟩) TSt)) TSt (scs y ⟨YM, ym, yc, YD, en, ec⟩)).alloc (.cells #[.int .i64 cut, .int .i64 word, .int .i64 bit] TDm)
    simpa using h
  have b3 : Blk W0 p3 TDm #[.int .i64 cut, .int .i64 word, .int .i64 bit] := by
    rw [hW0, hp3]
    have h := Blk.new ((w.alloc (.cells (scs x ⟨XM, mm, mc, XD, dn, dc⟩) TSt)).alloc (.cells (scs y ⟨YM, ym, yc, YD, en, ec⟩) TSt)) TDm #[.int .i64 cut, .int .i64 word, .int .i64 bit]
    simpa using h
  have K0 := Lib.hid k0
  have B1 := Lib.hid b1
  have B2 := Lib.hid b2
  have B3 := Lib.hid b3
  have SX := Lib.hid hx
  have SY := Lib.hid hy
  clear k0 b1 b2 b3 hx hy
  go_enter Try.func4, Try.ntmps4
  go_upto_region 1 with fail
  change Code.wp _ _ _ _ (((w.alloc (.cells (scs x ⟨XM, mm, mc, XD, dn, dc⟩) TSt)).alloc (.cells (scs y ⟨YM, ym, yc, YD, en, ec⟩) TSt)).alloc (.cells #[.int .i64 cut, .int .i64 word, .int .i64 bit] TDm))
  rw [← hW0, ← hp3, ← hp2, ← hp1]
  clear hW0 hp1 hp2 hp3
  have c0 : W0.cell? ⟨p1, 0, none⟩ = some (.int .i64 x.boots) := B1.out.cell 0
  have c1 : W0.cell? ⟨p1, 1, none⟩ = some (.int .i64 x.mode) := B1.out.cell 1
  have c2 : W0.cell? ⟨p1, 2, none⟩ = some (.int .i64 x.time) := B1.out.cell 2
  have c3 : W0.cell? ⟨p1, 3, none⟩ = some (.slice XM mm mc) := B1.out.cell 3
  have c4 : W0.cell? ⟨p1, 4, none⟩ = some (.slice XD dn dc) := B1.out.cell 4
  have c5 : W0.cell? ⟨p1, 5, none⟩ = some (.int .i64 x.next) := B1.out.cell 5
  have d0 : W0.cell? ⟨p2, 0, none⟩ = some (.int .i64 y.boots) := B2.out.cell 0
  have d1 : W0.cell? ⟨p2, 1, none⟩ = some (.int .i64 y.mode) := B2.out.cell 1
  have d2 : W0.cell? ⟨p2, 2, none⟩ = some (.int .i64 y.time) := B2.out.cell 2
  have d3 : W0.cell? ⟨p2, 3, none⟩ = some (.slice YM ym yc) := B2.out.cell 3
  have d4 : W0.cell? ⟨p2, 4, none⟩ = some (.slice YD en ec) := B2.out.cell 4
  have d5 : W0.cell? ⟨p2, 5, none⟩ = some (.int .i64 y.next) := B2.out.cell 5
  by_cases hc0 : (30 : Int) < (mm : Int)
  · go_wp2_with fail
    go_ret
    exact ⟨rfl, K0.out⟩
  by_cases hc1 : (30 : Int) < (ym : Int)
  · go_wp2_with fail
    go_ret
    exact ⟨rfl, K0.out⟩
  by_cases hc2 : (20 : Int) < (dn : Int)
  · go_wp2_with fail
    go_ret
    exact ⟨rfl, K0.out⟩
  by_cases hc3 : (20 : Int) < (en : Int)
  · go_wp2_with fail
    go_ret
    exact ⟨rfl, K0.out⟩
  have hdn : dn ≤ 20 := by omega
  have hen : en ≤ 20 := by omega
  go_wp2_with fail
  refine (image_t _ x ⟨XM, mm, mc, XD, dn, dc⟩ (SX.out.keep0 K0.out) hdn).mono ?_
  intro e1 w1 hpost
  obtain ⟨A1, m1, k1, ok1, rfl, hok1, hk1, hs1⟩ := hpost.any
  clear hpost
  have K1 := Lib.hid (K0.out.chain0 (Nat.le_refl _) hk1)
  have HS1 := Lib.hid hs1
  have C1 := Lib.hid (B1.out.keepS hk1 (by simp))
  have C2 := Lib.hid (B2.out.keepS hk1 (by simp))
  have C3 := Lib.hid (B3.out.keepS hk1 (by simp))
  have KW01 := Lib.hid hk1
  clear hs1 hk1 c0 c1 c2 c3 c4 c5 d0 d1 d2 d3 d4 d5
  have d0 : w1.cell? ⟨p2, 0, none⟩ = some (.int .i64 y.boots) := C2.out.cell 0
  have d1 : w1.cell? ⟨p2, 1, none⟩ = some (.int .i64 y.mode) := C2.out.cell 1
  have d2 : w1.cell? ⟨p2, 2, none⟩ = some (.int .i64 y.time) := C2.out.cell 2
  have d3 : w1.cell? ⟨p2, 3, none⟩ = some (.slice YM ym yc) := C2.out.cell 3
  have d4 : w1.cell? ⟨p2, 4, none⟩ = some (.slice YD en ec) := C2.out.cell 4
  have d5 : w1.cell? ⟨p2, 5, none⟩ = some (.int .i64 y.next) := C2.out.cell 5
  go_wp2_with fail
  refine (image_t _ y ⟨YM, ym, yc, YD, en, ec⟩ (SY.out.keep0 K1.out) hen).mono ?_
  intro e2 wb hpost
  obtain ⟨A2, m2, k2, ok2, rfl, hok2, hk2, hs2⟩ := hpost.any
  clear hpost
  have KB := Lib.hid (K1.out.chain0 (Nat.le_refl _) hk2)
  have HS2 := Lib.hid hs2
  have D1 := Lib.hid (C1.out.keepS hk2 (by simp))
  have D2 := Lib.hid (C2.out.keepS hk2 (by simp))
  have D3 := Lib.hid (C3.out.keepS hk2 (by simp))
  have KW12 := Lib.hid hk2
  have HOK1 := Lib.hid hok1
  have HOK2 := Lib.hid hok2
  clear hs2 hk2 d0 d1 d2 d3 d4 d5 hok1 hok2
  go_wp2_with fail
  refine (mnew_w _).mono ?_
  rintro e w3 ⟨g, a, Cm, rfl, hm, hk3, hg3, ha3⟩
  have KM := Lib.hid hk3
  have HG := Lib.hid hg3
  have HA := Lib.hid ha3
  have M3 := Lib.hid hm
  clear hm hk3 hg3 ha3
  go_wp2_with fail
  refine (open_w _ g a true _ Cm M3.out (by simp)).mono ?_
  rintro e w4 ⟨v, rfl, hvb, hk4, hv4⟩
  have KO := Lib.hid (KM.out.chain0 (Nat.le_refl _) hk4)
  have VB4 := Lib.hid hvb
  have M4 := Lib.hid (M3.out.keepS hk4 (by simp) (by simp))
  have hgl : g < w3.heap.size := by obtain ⟨_, h⟩ := M3.out.mb; exact h.lt
  have hal : a < w3.heap.size := M3.out.cb.lt
  have hvg : v ∉ [g, a] := by simp; omega
  have hvw : wb.heap.size ≤ v := by have := KM.out.size; omega
  have hgw : wb.heap.size ≤ g := HG.out
  have haw : wb.heap.size ≤ a := HA.out
  clear hvb hk4 hv4
  go_wp2_with fail
  refine (new_any _).mono ?_
  rintro e w5 ⟨gl, rfl, hgl5, hl5, hk5⟩
  have KO5 := Lib.hid (KO.out.chain0 (Nat.le_refl _) hk5)
  have VB5 := Lib.hid (VB4.out.keepS hk5 (by simp))
  have M5 := Lib.hid (M4.out.keepS hk5 (by simp) (by simp))
  obtain ⟨Z, hZ⟩ : ∃ Z, Z = zeroL := ⟨_, rfl⟩
  have L5 : Hid (Led w5 gl Z) := Lib.hid (by rw [hZ]; exact hl5)
  have HZL : Hid (Z.length = 16) := Lib.hid (by rw [hZ]; rfl)
  clear hl5 hk5 hZ hgl5
  go_wp2_with fail
  refine (image_any _ gl Z L5.out).mono ?_
  rintro e w6 ⟨A6, n6, c6, rfl, hn6, hs6, hk6, hb6⟩
  obtain rfl : n6 = 160 := by rw [hn6, imageL_len, HZL.out]
  have KO6 := Lib.hid (KO5.out.chain0 (Nat.le_refl _) hk6)
  have VB6 := Lib.hid (VB5.out.keepS hk6 (by simp))
  have M6 := Lib.hid (M5.out.keepS hk6 (by simp) (by simp))
  clear hn6 hs6 hk6 hb6
  cases ok1 with
  | false =>
    go_wp2_with fail
    go_ret
    exact ⟨rfl, KB.out.chain0 (Nat.le_refl _) KO6.out⟩
  | true =>
  cases ok2 with
  | false =>
    go_wp2_with fail
    go_ret
    exact ⟨rfl, KB.out.chain0 (Nat.le_refl _) KO6.out⟩
  | true =>
  by_cases hr1 : (788 : Int) < (m1 : Int)
  · go_wp2_with fail
    refine (room_w _ v g VB6.out).mono ?_
    rintro e w' ⟨rfl, rfl⟩
    go_wp2_with fail
    go_ret
    exact ⟨rfl, KB.out.chain0 (Nat.le_refl _) KO6.out⟩
  by_cases hr2 : (788 : Int) < (m2 : Int)
  · go_wp2_with fail
    refine (room_w _ v g VB6.out).mono ?_
    rintro e w' ⟨rfl, rfl⟩
    go_wp2_with fail
    refine (room_w _ v g VB6.out).mono ?_
    rintro e w' ⟨rfl, rfl⟩
    go_wp2_with fail
    go_ret
    exact ⟨rfl, KB.out.chain0 (Nat.le_refl _) KO6.out⟩
  have hr1' : (m1 : Int) ≤ 788 := by omega
  have hr2' : (m2 : Int) ≤ 788 := by omega
  go_wp2_with fail
  refine (room_w _ v g VB6.out).mono ?_
  rintro e w' ⟨rfl, rfl⟩
  go_wp2_with fail
  refine (room_w _ v g VB6.out).mono ?_
  rintro e w' ⟨rfl, rfl⟩
  obtain ⟨hl1, hS1, hA1⟩ := HS1.out (by trivial)
  obtain ⟨hl2, hS2, hA2⟩ := HS2.out (by trivial)
  have T1 : Hid (Sl wb 5 1 A1 m1 k1 (octs (encC x.ck))) := Lib.hid (hS1.keep0 KW12.out)
  have T2 := Lib.hid hS2
  have HL1 := Lib.hid hl1
  have HL2 := Lib.hid hl2
  have T1b : Hid (∀ z, z ∈ blks A1 → z < wb.heap.size) := Lib.hid (fun z hz => T1.out.blk hz)
  have T2b : Hid (∀ z, z ∈ blks A2 → z < wb.heap.size) := Lib.hid (fun z hz => T2.out.blk hz)
  clear hl1 hS1 hA1 hl2 hS2 hA2
  have hO1 := encC_oct x.ck
  have hO2 := encC_oct y.ck
  have hz0 : (List.replicate 400 0)[200 * 0]? = some 0 := by simp
  have hz1 : (List.replicate 400 0)[200 * 1]? = some 0 := by simp
  have SV1 := Lib.hid (save_h w6 v g a _ Cm none none none 0 1 A1 k1 (encC x.ck) m1 (-1) HL1.out VB6.out M6.out (by simp) hz0 hz1 hvg hO1 (by have := HL1.out; omega) ((T1.out.keep0 KO6.out).vw (by omega)) T1.out.cap.1 T1.out.cap.2 (fun z hz => by have := T1b.out z hz; simp; omega) rfl (by omega) hz0 hz1 rfl (by omega))
  have HO1 := Lib.hid hO1
  have HO2 := Lib.hid hO2
  clear hO1 hO2 hz0 hz1
  go_wp2_with fail
  refine SV1.out.mono ?_
  rintro e w7 ⟨f7, D7, C7, rfl, hf7, hl7, h71, h72, hm7, hk7⟩
  obtain rfl := hf7 (by omega)
  have KO7 := Lib.hid (KO6.out.chain2 (Nat.le_refl _) hk7 hgw haw)
  have VB7 := Lib.hid (VB6.out.keepS hk7 hvg)
  have M7 := Lib.hid hm7
  have H70 : Hid (Holds D7 0 (some (1, encC x.ck))) := Lib.hid h71
  have H71 : Hid (Holds D7 1 none) := Lib.hid h72
  have E3 := Lib.hid (D3.out.keepS KO7.out (by simp))
  have c30 : w7.cell? ⟨p3, 0, none⟩ = some (.int .i64 cut) := E3.out.cell 0
  clear hf7 h71 h72 hm7 hk7 SV1
  have SV2 := Lib.hid (save_h w7 v g a D7 C7 (some (1, encC x.ck)) none (some (1, encC x.ck)) 1 2 A2 k2 (encC y.ck) m2 cut HL2.out VB7.out M7.out hl7 H70.out H71.out hvg HO2.out (by have := HL2.out; omega) ((T2.out.keep0 KO7.out).vw (by omega)) T2.out.cap.1 T2.out.cap.2 (fun z hz => by have := T2b.out z hz; simp; omega) rfl (by omega) H71.out H70.out rfl (by omega))
  go_wp2_with fail
  refine SV2.out.mono ?_
  rintro e w8 ⟨f8, D8, C8, rfl, hf8, hl8, h81, h82, hm8, hk8⟩
  have KO8 := Lib.hid (KO7.out.chain2 (Nat.le_refl _) hk8 hgw haw)
  have VB8 := Lib.hid (VB7.out.keepS hk8 hvg)
  have M8 := Lib.hid hm8
  have H80 : Hid (Holds D8 0 (some (1, encC x.ck))) := Lib.hid h82
  clear h82 hf8
  cases f8 with
  | true =>
    have H81 : Hid (Holds D8 1 (some (2, encC y.ck))) := Lib.hid h81
    have F3 := Lib.hid (D3.out.keepS KO8.out (by simp))
    have c31 : w8.cell? ⟨p3, 1, none⟩ = some (.int .i64 word) := F3.out.cell 1
    have c32 : w8.cell? ⟨p3, 2, none⟩ = some (.int .i64 bit) := F3.out.cell 2
    clear h81 hm8 hk8 SV2 c30
    go_wp2_with fail
    refine (flip_m _ g a D8 C8 word bit M8.out).mono ?_
    rintro e w9 ⟨r9, C9, rfl, hm9, hk9⟩
    have KO9 := Lib.hid (KO8.out.chain2 (Nat.le_refl _) hk9 hgw haw)
    have VB9 := Lib.hid (VB8.out.keepS hk9 hvg)
    have M9 := Lib.hid hm9
    clear hm9 hk9 c31 c32
    go_wp2_with fail
    have hh1 : Holds D8 1 (some (2, encC y.ck)) := H81.out
    refine (vload_h _ v g a false D8 C9 (some (1, encC x.ck)) (some (2, encC y.ck)) 2 (encC y.ck) VB9.out M9.out hl8 H80.out hh1 hvg rfl (by omega)).mono ?_
    rintro e w10 ⟨A10, c10, rfl, hv10, hc10, hA10, C10, _, hk10⟩
    have V10 := Lib.hid hv10
    have HC10 := Lib.hid hc10
    have HA10 := Lib.hid hA10
    have KO10 := Lib.hid (KO9.out.chain2 (Nat.le_refl _) hk10 hgw haw)
    clear hv10 hc10 hA10 hk10 hh1
    have hI := markAll_inv y.marks
    have HI := Lib.hid hI
    have hdl : (y.ck).done.length ≤ 256 := by have h := SY.out.dlen; simp only at h; show y.done.length ≤ 256; omega
    have HDL := Lib.hid hdl
    clear hI hdl
    go_wp2_with fail
    refine (cdec_yes _ A10 _ c10 y.ck V10.out HOK2.out HI.out.l16 HI.out.ok HI.out.rt HDL.out).mono ?_
    rintro e w11 ⟨l11, rfl, hc11, hk11⟩
    have CI11 := Lib.hid hc11
    have KO11 := Lib.hid (KO10.out.chain0 (Nat.le_refl _) hk11)
    have V11 := Lib.hid (V10.out.keep0 hk11)
    clear hc11 hk11
    obtain ⟨q1, q2, q3, q4, q5, q6⟩ := l11
    have hcs : ccs y.ck ⟨q1, q2, q3, q4, q5, q6⟩ = #[.int .i64 y.boots, .int .i64 y.mode, .int .i64 y.time, .slice q1 q2 q3, .slice none 0 0, .slice none 0 0, .slice q4 q5 q6, .int .i64 y.next] := rfl
    rw [hcs]
    clear hcs
    obtain ⟨W12, hW12⟩ : ∃ W, W = w11.alloc (.cells (ccs y.ck ⟨q1, q2, q3, q4, q5, q6⟩) TC) := ⟨_, rfl⟩
    obtain ⟨pc, hpc⟩ : ∃ p, p = w11.heap.size := ⟨_, rfl⟩
    have ka : Keep w11.heap.size [] w11 W12 := by rw [hW12]; exact (Keep.refl _ _ _).alloc (Nat.le_refl _) _
    have B12 : Hid (Blk W12 pc TC (ccs y.ck ⟨q1, q2, q3, q4, q5, q6⟩)) := Lib.hid (by rw [hW12, hpc]; exact Blk.new _ _ _)
    have CI12 := Lib.hid (CI11.out.keep0 ka)
    have KO12 := Lib.hid (KO11.out.chain0 (Nat.le_refl _) ka)
    have V12 := Lib.hid (V11.out.keep0 ka)
    clear ka
    go_upto_region 17 with fail
    change Code.wp _ _ _ _ (w11.alloc (.cells (ccs y.ck ⟨q1, q2, q3, q4, q5, q6⟩) TC))
    rw [← hW12, ← hpc]
    clear hW12 hpc
    have LI := Lib.hid (loadR_image HI.out.l16 HI.out.ok HI.out.rt)
    have hq2 : Hid (q2 = 160) := Lib.hid CI12.out.m160
    have y3 : W12.cell? ⟨pc, 3, none⟩ = some (.slice q1 q2 q3) := B12.out.cell 3
    go_wp2_with fail
    refine (load_r _ q1 q2 q3 (imageL (markAll y.marks)) _ LI.out (imageL_oct _) (by have := hq2.out; omega) (by exact CI12.out.vl)).mono ?_
    rintro e w13 ⟨hk13, gq, rfl, hgq, hl13⟩
    have KO13 := Lib.hid (KO12.out.chain0 (Nat.le_refl _) hk13)
    have LD13 := Lib.hid hl13
    have V13 := Lib.hid (V12.out.keep0 hk13)
    have hgqw : wb.heap.size ≤ gq := by have := KO12.out.size; omega
    have HGA10 : Hid (∀ z, z ∈ blks A10 → 0 < (encC y.ck).length → z ≠ gq) := Lib.hid (fun z hz h0 => by have h1 := V12.out.old h0 z hz; omega)
    clear hk13 hl13 y3 hgq
    have E1 := Lib.hid (D1.out.keepS KO13.out (by simp))
    have E2 := Lib.hid (D2.out.keepS KO13.out (by simp))
    have z1 : w13.cell? ⟨p1, 3, none⟩ = some (.slice XM mm mc) := E1.out.cell 3
    have z2 : w13.cell? ⟨p2, 3, none⟩ = some (.slice YM ym yc) := E2.out.cell 3
    go_wp2_with fail
    go_quiet (fail)
    have KQ := Lib.hid ((Keep.refl w13.heap.size [] w13).drewN nq)
    generalize w13.drewN nq = u1 at KQ ⊢
    have KO1 := Lib.hid (KO13.out.chain0 (Nat.le_refl _) KQ.out)
    have LD1 := Lib.hid (LD13.out.keepS KQ.out (by simp))
    have V1 := Lib.hid (V13.out.keep0 KQ.out)
    have zz : u1.cell? ⟨p2, 3, none⟩ = some (.slice YM ym yc) := (D2.out.keepS KO1.out (by simp)).cell 3
    clear z1 z2 KQ
    go_wp2_with fail
    go_quiet (fail)
    have KQ := Lib.hid ((Keep.refl u1.heap.size [] u1).drewN nq)
    generalize u1.drewN nq = u2 at KQ ⊢
    have KO2 := Lib.hid (KO1.out.chain0 (Nat.le_refl _) KQ.out)
    have LD2 := Lib.hid (LD1.out.keepS KQ.out (by simp))
    have V2 := Lib.hid (V1.out.keep0 KQ.out)
    clear zz KQ
    go_wp2_with fail
    have HML : Hid (ym = y.marks.length) := Lib.hid SY.out.mlen
    have hcap : Hid (ym ≤ yc ∧ yc ≤ maxLen) := Lib.hid SY.out.cm
    have hcapI : (ym : Int) ≤ (yc : Int) := by have := hcap.out; omega
    have hcapM : (yc : Int) ≤ 9223372036854775807 := by have := hcap.out.2; unfold maxLen at this; omega
    go_loopw [23] (fun j wr => ∃ (k : Nat), k ≤ ym ∧ j = .int .i64 k ∧ Led wr gq (markAll y.marks) ∧ Keep u2.heap.size [gq] u2 wr) (fun j _ => ym - (intOf j).toNat)
    case atStart => exact ⟨0, Nat.zero_le _, rfl, LD2.out, Keep.refl _ _ _⟩
    case round =>
      obtain ⟨k, hk, rfl, hld, hkv⟩ := hrel
      have LK := Lib.hid hld
      have KV := Lib.hid hkv
      have KX := Lib.hid (KO2.out.chain1 (Nat.le_refl _) KV.out hgqw)
      have KW := Lib.hid (KB.out.chain0 (Nat.le_refl _) KX.out)
      clear hld hkv
      by_cases hlt : k < ym
      · have hki : (k : Int) < (ym : Int) := by omega
        obtain ⟨bm, om, um, rfl, _, hum, dm0⟩ := (SY.out.vm.keep0 KW.out).at_ hlt
        obtain ⟨zk, hzk, rfl⟩ := i64s_at hum
        obtain ⟨ee, hee, hne⟩ := marked_again HI.out (markAll_seen (List.mem_of_getElem? hzk))
        have HEE := Lib.hid hee
        have hneb : (ee == 0) = false := beq_false_of_ne hne
        clear hzk hum hee
        go_wp2_with fail
        refine (mark_any _ gq _ 1 zk _ HEE.out LK.out).mono ?_
        rintro e w20 ⟨rfl, hl20, hk20⟩
        have L20 := Lib.hid hl20
        have KV20 := Lib.hid (KV.out.trans (hk20.mono KV.out.size (fun _ _ h => h)))
        clear hl20 hk20 dm0
        go_wp2_with fail
        go_roundw
        case rel => exact ⟨k + 1, by omega, by go_num, L20.out, KV20.out⟩
        case measure => simp [intOf] <;> omega
      · obtain rfl : k = ym := by omega
        have hvx : Vw wr A10 (encC y.ck).length 1 (octs (encC y.ck)) := V2.out.keepP KV.out (fun h0 z hz => by simpa using HGA10.out z hz h0)
        have hvy : Vw wr A2 m2 1 (octs (encC y.ck)) := (T2.out.keep0 KX.out).vw (by omega)
        have q1 := conv_str (P := Try.prog) (w := wr) 35 9 5 Try.underlying35 Try.underlying5 Try.underlying9 A10 _ c10 (encC y.ck) hvx
        have q2 := conv_str (P := Try.prog) (w := wr) 35 9 5 Try.underlying35 Try.underlying5 Try.underlying9 A2 m2 k2 (encC y.ck) hvy
        clear hvx hvy
        go_wp2_with fail
        go_ret
        refine ⟨?_, KW.out⟩
        first | rfl | simp
  | false =>
    have H81 : Hid (Holds D8 1 none) := Lib.hid h81
    have F3 := Lib.hid (D3.out.keepS KO8.out (by simp))
    have c31 : w8.cell? ⟨p3, 1, none⟩ = some (.int .i64 word) := F3.out.cell 1
    have c32 : w8.cell? ⟨p3, 2, none⟩ = some (.int .i64 bit) := F3.out.cell 2
    clear h81 hm8 hk8 SV2 c30
    go_wp2_with fail
    refine (flip_m _ g a D8 C8 word bit M8.out).mono ?_
    rintro e w9 ⟨r9, C9, rfl, hm9, hk9⟩
    have KO9 := Lib.hid (KO8.out.chain2 (Nat.le_refl _) hk9 hgw haw)
    have VB9 := Lib.hid (VB8.out.keepS hk9 hvg)
    have M9 := Lib.hid hm9
    clear hm9 hk9 c31 c32
    go_wp2_with fail
    have hh1 : Holds D8 1 none := H81.out
    refine (vload_h _ v g a false D8 C9 (some (1, encC x.ck)) none 1 (encC x.ck) VB9.out M9.out hl8 H80.out hh1 hvg rfl (by omega)).mono ?_
    rintro e w10 ⟨A10, c10, rfl, hv10, hc10, hA10, C10, _, hk10⟩
    have V10 := Lib.hid hv10
    have HC10 := Lib.hid hc10
    have HA10 := Lib.hid hA10
    have KO10 := Lib.hid (KO9.out.chain2 (Nat.le_refl _) hk10 hgw haw)
    clear hv10 hc10 hA10 hk10 hh1
    have hI := markAll_inv x.marks
    have HI := Lib.hid hI
    have hdl : (x.ck).done.length ≤ 256 := by have h := SX.out.dlen; simp only at h; show x.done.length ≤ 256; omega
    have HDL := Lib.hid hdl
    clear hI hdl
    go_wp2_with fail
    refine (cdec_yes _ A10 _ c10 x.ck V10.out HOK1.out HI.out.l16 HI.out.ok HI.out.rt HDL.out).mono ?_
    rintro e w11 ⟨l11, rfl, hc11, hk11⟩
    have CI11 := Lib.hid hc11
    have KO11 := Lib.hid (KO10.out.chain0 (Nat.le_refl _) hk11)
    have V11 := Lib.hid (V10.out.keep0 hk11)
    clear hc11 hk11
    obtain ⟨q1, q2, q3, q4, q5, q6⟩ := l11
    have hcs : ccs x.ck ⟨q1, q2, q3, q4, q5, q6⟩ = #[.int .i64 x.boots, .int .i64 x.mode, .int .i64 x.time, .slice q1 q2 q3, .slice none 0 0, .slice none 0 0, .slice q4 q5 q6, .int .i64 x.next] := rfl
    rw [hcs]
    clear hcs
    obtain ⟨W12, hW12⟩ : ∃ W, W = w11.alloc (.cells (ccs x.ck ⟨q1, q2, q3, q4, q5, q6⟩) TC) := ⟨_, rfl⟩
    obtain ⟨pc, hpc⟩ : ∃ p, p = w11.heap.size := ⟨_, rfl⟩
    have ka : Keep w11.heap.size [] w11 W12 := by rw [hW12]; exact (Keep.refl _ _ _).alloc (Nat.le_refl _) _
    have B12 : Hid (Blk W12 pc TC (ccs x.ck ⟨q1, q2, q3, q4, q5, q6⟩)) := Lib.hid (by rw [hW12, hpc]; exact Blk.new _ _ _)
    have CI12 := Lib.hid (CI11.out.keep0 ka)
    have KO12 := Lib.hid (KO11.out.chain0 (Nat.le_refl _) ka)
    have V12 := Lib.hid (V11.out.keep0 ka)
    clear ka
    go_upto_region 17 with fail
    change Code.wp _ _ _ _ (w11.alloc (.cells (ccs x.ck ⟨q1, q2, q3, q4, q5, q6⟩) TC))
    rw [← hW12, ← hpc]
    clear hW12 hpc
    have LI := Lib.hid (loadR_image HI.out.l16 HI.out.ok HI.out.rt)
    have hq2 : Hid (q2 = 160) := Lib.hid CI12.out.m160
    have y3 : W12.cell? ⟨pc, 3, none⟩ = some (.slice q1 q2 q3) := B12.out.cell 3
    go_wp2_with fail
    refine (load_r _ q1 q2 q3 (imageL (markAll x.marks)) _ LI.out (imageL_oct _) (by have := hq2.out; omega) (by exact CI12.out.vl)).mono ?_
    rintro e w13 ⟨hk13, gq, rfl, hgq, hl13⟩
    have KO13 := Lib.hid (KO12.out.chain0 (Nat.le_refl _) hk13)
    have LD13 := Lib.hid hl13
    have V13 := Lib.hid (V12.out.keep0 hk13)
    have hgqw : wb.heap.size ≤ gq := by have := KO12.out.size; omega
    have HGA10 : Hid (∀ z, z ∈ blks A10 → 0 < (encC x.ck).length → z ≠ gq) := Lib.hid (fun z hz h0 => by have h1 := V12.out.old h0 z hz; omega)
    clear hk13 hl13 y3 hgq
    have E1 := Lib.hid (D1.out.keepS KO13.out (by simp))
    have E2 := Lib.hid (D2.out.keepS KO13.out (by simp))
    have z1 : w13.cell? ⟨p1, 3, none⟩ = some (.slice XM mm mc) := E1.out.cell 3
    have z2 : w13.cell? ⟨p2, 3, none⟩ = some (.slice YM ym yc) := E2.out.cell 3
    go_wp2_with fail
    go_quiet (fail)
    have KQ := Lib.hid ((Keep.refl w13.heap.size [] w13).drewN nq)
    generalize w13.drewN nq = u1 at KQ ⊢
    have KO1 := Lib.hid (KO13.out.chain0 (Nat.le_refl _) KQ.out)
    have LD1 := Lib.hid (LD13.out.keepS KQ.out (by simp))
    have V1 := Lib.hid (V13.out.keep0 KQ.out)
    have zz : u1.cell? ⟨p2, 3, none⟩ = some (.slice YM ym yc) := (D2.out.keepS KO1.out (by simp)).cell 3
    clear z1 z2 KQ
    go_wp2_with fail
    clear zz
    have HML : Hid (mm = x.marks.length) := Lib.hid SX.out.mlen
    have hcap : Hid (mm ≤ mc ∧ mc ≤ maxLen) := Lib.hid SX.out.cm
    have hcapI : (mm : Int) ≤ (mc : Int) := by have := hcap.out; omega
    have hcapM : (mc : Int) ≤ 9223372036854775807 := by have := hcap.out.2; unfold maxLen at this; omega
    go_loopw [23] (fun j wr => ∃ (k : Nat), k ≤ mm ∧ j = .int .i64 k ∧ Led wr gq (markAll x.marks) ∧ Keep u1.heap.size [gq] u1 wr) (fun j _ => mm - (intOf j).toNat)
    case atStart => exact ⟨0, Nat.zero_le _, rfl, LD1.out, Keep.refl _ _ _⟩
    case round =>
      obtain ⟨k, hk, rfl, hld, hkv⟩ := hrel
      have LK := Lib.hid hld
      have KV := Lib.hid hkv
      have KX := Lib.hid (KO1.out.chain1 (Nat.le_refl _) KV.out hgqw)
      have KW := Lib.hid (KB.out.chain0 (Nat.le_refl _) KX.out)
      clear hld hkv
      by_cases hlt : k < mm
      · have hki : (k : Int) < (mm : Int) := by omega
        obtain ⟨bm, om, um, rfl, _, hum, dm0⟩ := (SX.out.vm.keep0 KW.out).at_ hlt
        obtain ⟨zk, hzk, rfl⟩ := i64s_at hum
        obtain ⟨ee, hee, hne⟩ := marked_again HI.out (markAll_seen (List.mem_of_getElem? hzk))
        have HEE := Lib.hid hee
        have hneb : (ee == 0) = false := beq_false_of_ne hne
        clear hzk hum hee
        go_wp2_with fail
        refine (mark_any _ gq _ 1 zk _ HEE.out LK.out).mono ?_
        rintro e w20 ⟨rfl, hl20, hk20⟩
        have L20 := Lib.hid hl20
        have KV20 := Lib.hid (KV.out.trans (hk20.mono KV.out.size (fun _ _ h => h)))
        clear hl20 hk20 dm0
        go_wp2_with fail
        go_roundw
        case rel => exact ⟨k + 1, by omega, by go_num, L20.out, KV20.out⟩
        case measure => simp [intOf] <;> omega
      · obtain rfl : k = mm := by omega
        have hvx : Vw wr A10 (encC x.ck).length 1 (octs (encC x.ck)) := V1.out.keepP KV.out (fun h0 z hz => by simpa using HGA10.out z hz h0)
        have hvy : Vw wr A1 m1 1 (octs (encC x.ck)) := (T1.out.keep0 KX.out).vw (by omega)
        have q1 := conv_str (P := Try.prog) (w := wr) 35 9 5 Try.underlying35 Try.underlying5 Try.underlying9 A10 _ c10 (encC x.ck) hvx
        have q2 := conv_str (P := Try.prog) (w := wr) 35 9 5 Try.underlying35 Try.underlying5 Try.underlying9 A1 m1 k1 (encC x.ck) hvy
        clear hvx hvy
        go_wp2_with fail
        go_ret
        refine ⟨?_, KW.out⟩
        first | rfl | simp
end Go.Proofs.Ytfkbcflgbjncdaa
