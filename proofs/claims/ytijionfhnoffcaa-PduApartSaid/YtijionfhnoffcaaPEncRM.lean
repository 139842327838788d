/- The reference's Encode, each kind. -/
import Derived.Test.YtijionfhnoffcaaPEnc0
import Derived.Deep.DeepCutAuto
namespace Go.Proofs.Ytijionfhnoffcaa
set_option linter.unusedVariables false
set_option linter.unusedSimpArgs false
open Go.RowKit
theorem tmod256'0 (x : Int) (h : 0 ≤ x) : x.tmod 256 = x % 256 := Int.tmod_eq_emod_of_nonneg h
theorem tdiv256'0 (x : Int) (h : 0 ≤ x) : x.tdiv 256 = x / 256 := Int.tdiv_eq_ediv_of_nonneg h
set_option maxRecDepth 100000 in
set_option maxHeartbeats 16000000 in
theorem renc_0 (w : World) (p : Pd) (l : Lc) (hp : PIn w p l) (hk : 5 < p.kind) (hv : validP p = true) : Calls Try.prog 11 #[.agg (pcs p l)] w (EncPost w (encP p) 0) := by
  have n1 : ¬ p.kind = 1 := by omega
  have n2 : ¬ p.kind = 2 := by omega
  have n3 : ¬ p.kind = 3 := by omega
  have n4 : ¬ p.kind = 4 := by omega
  have n5 : ¬ p.kind = 5 := by omega
  have HKK := Lib.hid hk
  clear hk n1 n2 n3 n4 n5
  have k1 : Keep w.heap.size [] w (w.alloc (.cells (pcs p l) TP)) := (Keep.refl _ _ w).alloc (Nat.le_refl _) _
  have hb := Blk.new w TP (pcs p l)
  have P0 := Lib.hid (hp.keep0 k1)
  have HVL := Lib.hid hv
  have HEAD := Lib.hid (valid_head hv)
  obtain ⟨a0, a1, a2⟩ := HEAD.out
  obtain ⟨i0, hi0, hz0, hz1, hz2⟩ := info_parts infoU8
  clear hp hv
  obtain ⟨W0, hW0⟩ : ∃ W0, W0 = w.alloc (.cells (pcs p l) TP) := ⟨_, rfl⟩
  have B0 : Hid (Blk W0 w.heap.size TP (pcs p l)) := Lib.hid (by rw [hW0]; exact hb)
  rw [← hW0] at P0 k1
  have K0 := Lib.hid k1
  clear hb k1
  go_enter Try.func11, Try.ntmps11
  go_upto_region 1 with fail
  change Code.wp _ _ _ _ (w.alloc (.cells (pcs p l) TP))
  rw [← hW0]
  clear hW0
  obtain ⟨g, hg⟩ : ∃ g, g = w.heap.size := ⟨_, rfl⟩
  rw [← hg] at B0 ⊢
  clear hg
  have c0 : W0.cell? ⟨g, 0, none⟩ = some (.int .i64 p.kind) := (B0.out).cell 0
  have c1 : W0.cell? ⟨g, 1, none⟩ = some (.int .i64 p.src) := (B0.out).cell 1
  have c2 : W0.cell? ⟨g, 2, none⟩ = some (.int .i64 p.num) := (B0.out).cell 2
  have c3 : W0.cell? ⟨g, 3, none⟩ = some (.int .i64 p.cls) := (B0.out).cell 3
  have c4 : W0.cell? ⟨g, 4, none⟩ = some (.string (strOfNums p.name)) := (B0.out).cell 4
  have c5 : W0.cell? ⟨g, 5, none⟩ = some (.int .i64 p.size) := (B0.out).cell 5
  have c6 : W0.cell? ⟨g, 6, none⟩ = some (.int .i64 p.off) := (B0.out).cell 6
  have c7 : W0.cell? ⟨g, 7, none⟩ = some (.slice l.D l.dn l.dc) := (B0.out).cell 7
  have c8 : W0.cell? ⟨g, 8, none⟩ = some (.int .u32 p.sum) := (B0.out).cell 8
  have c9 : W0.cell? ⟨g, 9, none⟩ = some (.int .i64 p.code) := (B0.out).cell 9
  have c10 : W0.cell? ⟨g, 10, none⟩ = some (.slice l.G l.gn l.gc) := (B0.out).cell 10
  go_wp2_with fail
  refine (rvalid_b _ p l true P0.out HVL.out).mono ?_
  rintro e w1 ⟨rfl, hk1⟩
  have K1 := Lib.hid hk1
  clear hk1 c0 c1 c2 c3 c4 c5 c6 c7 c8 c9 c10
  have c0 : w1.cell? ⟨g, 0, none⟩ = some (.int .i64 p.kind) := (B0.out.keepS K1.out (by simp)).cell 0
  have c1 : w1.cell? ⟨g, 1, none⟩ = some (.int .i64 p.src) := (B0.out.keepS K1.out (by simp)).cell 1
  have c2 : w1.cell? ⟨g, 2, none⟩ = some (.int .i64 p.num) := (B0.out.keepS K1.out (by simp)).cell 2
  have e1 := tdiv256'0 p.num a2.1
  have e2 := tmod256'0 p.num a2.1
  have e3 := u8_in p.kind (by omega) (by omega)
  have e4 := u8_in p.src (by omega) (by omega)
  have e5 := u8_in (p.num / 256) (by omega) (by omega)
  have e6 := u8_in (p.num % 256) (by omega) (by omega)
  have A0 : Hid (AV W0 (w1.alloc (.cells #[.int .u8 p.kind, .int .u8 p.src, .int .u8 (p.num / 256), .int .u8 (p.num % 256)] 5)) (some ⟨w1.heap.size, 0, none⟩) 4 4 (headE p)) := Lib.hid ⟨by
      have h := World.ownsRow_lit (e := 5) (size := 1) w1 #[.int .u8 p.kind, .int .u8 p.src, .int .u8 (p.num / 256), .int .u8 (p.num % 256)] 4 (Nat.zero_le _) (by unfold maxLen; omega) rfl
      have ee : octs (headE p) = [.int .u8 p.kind, .int .u8 p.src, .int .u8 (p.num / 256), .int .u8 (p.num % 256)] := by
        unfold headE; rw [be1 _ (by omega) (by omega), be1 _ (by omega) (by omega), be2 _ (by omega) (by omega)]; rfl
      unfold Sl
      rw [ee]
      exact h, K1.out.alloc K1.out.size _, fun x hx => by rcases List.mem_singleton.1 hx with rfl; exact K1.out.size⟩
  go_upto_region 4 with fail
  obtain ⟨W1, hW1⟩ : ∃ W, W = w1.alloc (.cells #[.int .u8 p.kind, .int .u8 p.src, .int .u8 (p.num / 256), .int .u8 (p.num % 256)] 5) := ⟨_, rfl⟩
  rw [← hW1] at A0 ⊢
  clear hW1 c0 c1 c2 e1 e2 e3 e4 e5 e6
  obtain ⟨xb, hxb⟩ : ∃ b, b = w1.heap.size := ⟨_, rfl⟩
  rw [← hxb] at A0 ⊢
  clear hxb
  have c0 : W1.cell? ⟨g, 0, none⟩ = some (.int .i64 p.kind) := (B0.out.keepS A0.out.2.1 (by simp)).cell 0
  have n1 : ¬ p.kind = 1 := by have := HKK.out; omega
  have n2 : ¬ p.kind = 2 := by have := HKK.out; omega
  have n3 : ¬ p.kind = 3 := by have := HKK.out; omega
  have n4 : ¬ p.kind = 4 := by have := HKK.out; omega
  have n5 : ¬ p.kind = 5 := by have := HKK.out; omega
  go_wp2_with fail
  go_ret2
  refine EncPost.from K0.out ⟨_, _, _, rfl, ?_⟩
  unfold encP bodyE
  rw [if_neg n1, if_neg n2, if_neg n3, if_neg n4, if_neg n5, List.append_nil]
  exact A0.out
theorem tmod256'1 (x : Int) (h : 0 ≤ x) : x.tmod 256 = x % 256 := Int.tmod_eq_emod_of_nonneg h
theorem tdiv256'1 (x : Int) (h : 0 ≤ x) : x.tdiv 256 = x / 256 := Int.tdiv_eq_ediv_of_nonneg h
set_option maxRecDepth 100000 in
set_option maxHeartbeats 16000000 in
theorem renc_1 (w : World) (p : Pd) (l : Lc) (hp : PIn w p l) (hkk : p.kind = 1) (hv : validP p = true) : Calls Try.prog 11 #[.agg (pcs p l)] w (EncPost w (encP p) 0) := by
  have BD := Lib.hid (body1 hv hkk)
  obtain ⟨bc, bs, bn⟩ := BD.out
  have bnl : p.name.length ≤ 64 := by unfold nameB at bn; simp only [Bool.and_eq_true, inB_iff] at bn; omega
  clear bn
  have HKK := Lib.hid hkk
  clear hkk
  have k1 : Keep w.heap.size [] w (w.alloc (.cells (pcs p l) TP)) := (Keep.refl _ _ w).alloc (Nat.le_refl _) _
  have hb := Blk.new w TP (pcs p l)
  have P0 := Lib.hid (hp.keep0 k1)
  have HVL := Lib.hid hv
  have HEAD := Lib.hid (valid_head hv)
  obtain ⟨a0, a1, a2⟩ := HEAD.out
  obtain ⟨i0, hi0, hz0, hz1, hz2⟩ := info_parts infoU8
  clear hp hv
  obtain ⟨W0, hW0⟩ : ∃ W0, W0 = w.alloc (.cells (pcs p l) TP) := ⟨_, rfl⟩
  have B0 : Hid (Blk W0 w.heap.size TP (pcs p l)) := Lib.hid (by rw [hW0]; exact hb)
  rw [← hW0] at P0 k1
  have K0 := Lib.hid k1
  clear hb k1
  go_enter Try.func11, Try.ntmps11
  go_upto_region 1 with fail
  change Code.wp _ _ _ _ (w.alloc (.cells (pcs p l) TP))
  rw [← hW0]
  clear hW0
  obtain ⟨g, hg⟩ : ∃ g, g = w.heap.size := ⟨_, rfl⟩
  rw [← hg] at B0 ⊢
  clear hg
  have c0 : W0.cell? ⟨g, 0, none⟩ = some (.int .i64 p.kind) := (B0.out).cell 0
  have c1 : W0.cell? ⟨g, 1, none⟩ = some (.int .i64 p.src) := (B0.out).cell 1
  have c2 : W0.cell? ⟨g, 2, none⟩ = some (.int .i64 p.num) := (B0.out).cell 2
  have c3 : W0.cell? ⟨g, 3, none⟩ = some (.int .i64 p.cls) := (B0.out).cell 3
  have c4 : W0.cell? ⟨g, 4, none⟩ = some (.string (strOfNums p.name)) := (B0.out).cell 4
  have c5 : W0.cell? ⟨g, 5, none⟩ = some (.int .i64 p.size) := (B0.out).cell 5
  have c6 : W0.cell? ⟨g, 6, none⟩ = some (.int .i64 p.off) := (B0.out).cell 6
  have c7 : W0.cell? ⟨g, 7, none⟩ = some (.slice l.D l.dn l.dc) := (B0.out).cell 7
  have c8 : W0.cell? ⟨g, 8, none⟩ = some (.int .u32 p.sum) := (B0.out).cell 8
  have c9 : W0.cell? ⟨g, 9, none⟩ = some (.int .i64 p.code) := (B0.out).cell 9
  have c10 : W0.cell? ⟨g, 10, none⟩ = some (.slice l.G l.gn l.gc) := (B0.out).cell 10
  go_wp2_with fail
  refine (rvalid_b _ p l true P0.out HVL.out).mono ?_
  rintro e w1 ⟨rfl, hk1⟩
  have K1 := Lib.hid hk1
  clear hk1 c0 c1 c2 c3 c4 c5 c6 c7 c8 c9 c10
  have c0 : w1.cell? ⟨g, 0, none⟩ = some (.int .i64 p.kind) := (B0.out.keepS K1.out (by simp)).cell 0
  have c1 : w1.cell? ⟨g, 1, none⟩ = some (.int .i64 p.src) := (B0.out.keepS K1.out (by simp)).cell 1
  have c2 : w1.cell? ⟨g, 2, none⟩ = some (.int .i64 p.num) := (B0.out.keepS K1.out (by simp)).cell 2
  have e1 := tdiv256'1 p.num a2.1
  have e2 := tmod256'1 p.num a2.1
  have e3 := u8_in p.kind (by omega) (by omega)
  have e4 := u8_in p.src (by omega) (by omega)
  have e5 := u8_in (p.num / 256) (by omega) (by omega)
  have e6 := u8_in (p.num % 256) (by omega) (by omega)
  have A0 : Hid (AV W0 (w1.alloc (.cells #[.int .u8 p.kind, .int .u8 p.src, .int .u8 (p.num / 256), .int .u8 (p.num % 256)] 5)) (some ⟨w1.heap.size, 0, none⟩) 4 4 (headE p)) := Lib.hid ⟨by
      have h := World.ownsRow_lit (e := 5) (size := 1) w1 #[.int .u8 p.kind, .int .u8 p.src, .int .u8 (p.num / 256), .int .u8 (p.num % 256)] 4 (Nat.zero_le _) (by unfold maxLen; omega) rfl
      have ee : octs (headE p) = [.int .u8 p.kind, .int .u8 p.src, .int .u8 (p.num / 256), .int .u8 (p.num % 256)] := by
        unfold headE; rw [be1 _ (by omega) (by omega), be1 _ (by omega) (by omega), be2 _ (by omega) (by omega)]; rfl
      unfold Sl
      rw [ee]
      exact h, K1.out.alloc K1.out.size _, fun x hx => by rcases List.mem_singleton.1 hx with rfl; exact K1.out.size⟩
  go_upto_region 4 with fail
  obtain ⟨W1, hW1⟩ : ∃ W, W = w1.alloc (.cells #[.int .u8 p.kind, .int .u8 p.src, .int .u8 (p.num / 256), .int .u8 (p.num % 256)] 5) := ⟨_, rfl⟩
  rw [← hW1] at A0 ⊢
  clear hW1 c0 c1 c2 e1 e2 e3 e4 e5 e6
  obtain ⟨xb, hxb⟩ : ∃ b, b = w1.heap.size := ⟨_, rfl⟩
  rw [← hxb] at A0 ⊢
  clear hxb
  have c0 : W1.cell? ⟨g, 0, none⟩ = some (.int .i64 1) := by rw [← HKK.out]; exact (B0.out.keepS A0.out.2.1 (by simp)).cell 0
  have c3 : W1.cell? ⟨g, 3, none⟩ = some (.int .i64 p.cls) := (B0.out.keepS A0.out.2.1 (by simp)).cell 3
  have e3 := u8_in p.cls (by omega) (by omega)
  go_wp2_with (
    at_builtin
    refine wpList_app1 _ rfl (.tmp 31) (.tmp 35) 24 rfl 5 i0 _ 1 1 Try.underlying24 hi0 hz0 hz1 hz2 rfl (by omega) (some ⟨xb, 0, none⟩) 4 4 (octs (headE p)) rfl (by exact A0.out.1.alloc _) _ _ _ rfl (by exact Blk.new _ _ _) rfl rfl (by omega) (by omega) ?_
    intro A1 m1 v1 hs hk hb
    have AV1 : Hid (AV W0 v1 A1 (4 + 1) m1 (headE p ++ be p.cls 1)) := Lib.hid (by
      rw [be1 (p.cls) (by omega) (by omega)]
      exact A0.out.add (L' := [p.cls]) ((Keep.refl _ _ _).alloc (Nat.le_refl _) _) hs hk hb)
    clear hs hk hb c0 c3 e3
    have c5 : v1.cell? ⟨g, 5, none⟩ = some (.int .i64 p.size) := (B0.out.keepS AV1.out.2.1 (by simp)).cell 5)
  refine (refint_any _ p.size (by omega) (by omega)).mono ?_
  rintro e u2 ⟨X2, n2, d2, rfl, hn, hs, hk, hb⟩
  have N2 := Lib.hid hn
  have S2 := Lib.hid hs
  have Q2 := Lib.hid hk
  have b2 : n2 ≤ 1000 := by rw [hn]; have := vn_len10 (zz p.size).toNat (by have := zz_nonneg p.size (by omega) (by omega); omega); omega
  clear hn hs hk hb c5
  go_wp2_with (
    at_builtin
    refine wpList_appV _ rfl (.tmp 37) (.tmp 40) 24 rfl 5 i0 _ 1 1 Try.underlying24 hi0 hz0 hz1 hz2 rfl (by omega) A1 (4 + 1) m1 (octs (headE p ++ be p.cls 1)) rfl (by exact AV1.out.1.keep0 Q2.out) X2 n2 d2 (octs (vI p.size)) rfl (by exact S2.out.vw (by omega)) (oct_one _) (by omega) (by omega) ?_
    intro A2 m2 v2 hs hk hb
    have AV2 := Lib.hid (AV1.out.add Q2.out hs hk hb)
    clear hs hk hb
    have c4 : v2.cell? ⟨g, 4, none⟩ = some (.string (strOfNums p.name)) := (B0.out.keepS AV2.out.2.1 (by simp)).cell 4
    obtain ⟨w5, cv, hcv, hvw, hkv⟩ := conv_bytes v2 p.name P0.out.on
    have HVW := Lib.hid hvw
    have HKV := Lib.hid hkv
    clear hvw hkv)
  refine (refblob_any _ _ p.name.length cv p.name (by omega) HVW.out).mono ?_
  rintro e u3 ⟨X3, n3, d3, rfl, hn, hs, hk, hb⟩
  have N3 := Lib.hid hn
  have S3 := Lib.hid hs
  have Q3 := Lib.hid (HKV.out.chain0 (Nat.le_refl _) hk)
  have b3 : n3 ≤ 1000 := by rw [hn]; have := vn_len10 (zz (p.name.length : Int)).toNat (by have := zz_nonneg (p.name.length : Int) (by omega) (by omega); omega); simp only [List.length_append]; omega
  clear hn hs hk hb c4 hcv
  go_wp2_with (
    at_builtin
    refine wpList_appV _ rfl (.tmp 42) (.tmp 46) 24 rfl 5 i0 _ 1 1 Try.underlying24 hi0 hz0 hz1 hz2 rfl (by omega) A2 ((4 + 1) + n2) m2 (octs (headE p ++ be p.cls 1 ++ vI p.size)) rfl (by exact AV2.out.1.keep0 Q3.out) X3 n3 d3 (octs (vB p.name)) rfl (by exact S3.out.vw (by omega)) (oct_one _) (by omega) (by omega) ?_
    intro A3 m3 v3 hs hk hb
    have AV3 := Lib.hid (AV2.out.add Q3.out hs hk hb)
    clear hs hk hb
  )
  go_ret2
  refine EncPost.from K0.out ⟨_, _, _, rfl, ?_⟩
  unfold encP bodyE
  simp only [HKK.out, if_true, List.append_nil]
  exact (by simpa only [List.append_assoc] using AV3.out)
theorem tmod256'2 (x : Int) (h : 0 ≤ x) : x.tmod 256 = x % 256 := Int.tmod_eq_emod_of_nonneg h
theorem tdiv256'2 (x : Int) (h : 0 ≤ x) : x.tdiv 256 = x / 256 := Int.tdiv_eq_ediv_of_nonneg h
set_option maxRecDepth 100000 in
set_option maxHeartbeats 16000000 in
theorem renc_2 (w : World) (p : Pd) (l : Lc) (hp : PIn w p l) (hkk : p.kind = 2) (hv : validP p = true) : Calls Try.prog 11 #[.agg (pcs p l)] w (EncPost w (encP p) 0) := by
  have BD := Lib.hid (body2 hv hkk)
  obtain ⟨bc, bs⟩ := BD.out
  have bdl : l.dn ≤ 512 := by have h2 := hp.dlen; omega
  have HKK := Lib.hid hkk
  clear hkk
  have k1 : Keep w.heap.size [] w (w.alloc (.cells (pcs p l) TP)) := (Keep.refl _ _ w).alloc (Nat.le_refl _) _
  have hb := Blk.new w TP (pcs p l)
  have P0 := Lib.hid (hp.keep0 k1)
  have HVL := Lib.hid hv
  have HEAD := Lib.hid (valid_head hv)
  obtain ⟨a0, a1, a2⟩ := HEAD.out
  obtain ⟨i0, hi0, hz0, hz1, hz2⟩ := info_parts infoU8
  clear hp hv
  obtain ⟨W0, hW0⟩ : ∃ W0, W0 = w.alloc (.cells (pcs p l) TP) := ⟨_, rfl⟩
  have B0 : Hid (Blk W0 w.heap.size TP (pcs p l)) := Lib.hid (by rw [hW0]; exact hb)
  rw [← hW0] at P0 k1
  have K0 := Lib.hid k1
  clear hb k1
  go_enter Try.func11, Try.ntmps11
  go_upto_region 1 with fail
  change Code.wp _ _ _ _ (w.alloc (.cells (pcs p l) TP))
  rw [← hW0]
  clear hW0
  obtain ⟨g, hg⟩ : ∃ g, g = w.heap.size := ⟨_, rfl⟩
  rw [← hg] at B0 ⊢
  clear hg
  have c0 : W0.cell? ⟨g, 0, none⟩ = some (.int .i64 p.kind) := (B0.out).cell 0
  have c1 : W0.cell? ⟨g, 1, none⟩ = some (.int .i64 p.src) := (B0.out).cell 1
  have c2 : W0.cell? ⟨g, 2, none⟩ = some (.int .i64 p.num) := (B0.out).cell 2
  have c3 : W0.cell? ⟨g, 3, none⟩ = some (.int .i64 p.cls) := (B0.out).cell 3
  have c4 : W0.cell? ⟨g, 4, none⟩ = some (.string (strOfNums p.name)) := (B0.out).cell 4
  have c5 : W0.cell? ⟨g, 5, none⟩ = some (.int .i64 p.size) := (B0.out).cell 5
  have c6 : W0.cell? ⟨g, 6, none⟩ = some (.int .i64 p.off) := (B0.out).cell 6
  have c7 : W0.cell? ⟨g, 7, none⟩ = some (.slice l.D l.dn l.dc) := (B0.out).cell 7
  have c8 : W0.cell? ⟨g, 8, none⟩ = some (.int .u32 p.sum) := (B0.out).cell 8
  have c9 : W0.cell? ⟨g, 9, none⟩ = some (.int .i64 p.code) := (B0.out).cell 9
  have c10 : W0.cell? ⟨g, 10, none⟩ = some (.slice l.G l.gn l.gc) := (B0.out).cell 10
  go_wp2_with fail
  refine (rvalid_b _ p l true P0.out HVL.out).mono ?_
  rintro e w1 ⟨rfl, hk1⟩
  have K1 := Lib.hid hk1
  clear hk1 c0 c1 c2 c3 c4 c5 c6 c7 c8 c9 c10
  have c0 : w1.cell? ⟨g, 0, none⟩ = some (.int .i64 p.kind) := (B0.out.keepS K1.out (by simp)).cell 0
  have c1 : w1.cell? ⟨g, 1, none⟩ = some (.int .i64 p.src) := (B0.out.keepS K1.out (by simp)).cell 1
  have c2 : w1.cell? ⟨g, 2, none⟩ = some (.int .i64 p.num) := (B0.out.keepS K1.out (by simp)).cell 2
  have e1 := tdiv256'2 p.num a2.1
  have e2 := tmod256'2 p.num a2.1
  have e3 := u8_in p.kind (by omega) (by omega)
  have e4 := u8_in p.src (by omega) (by omega)
  have e5 := u8_in (p.num / 256) (by omega) (by omega)
  have e6 := u8_in (p.num % 256) (by omega) (by omega)
  have A0 : Hid (AV W0 (w1.alloc (.cells #[.int .u8 p.kind, .int .u8 p.src, .int .u8 (p.num / 256), .int .u8 (p.num % 256)] 5)) (some ⟨w1.heap.size, 0, none⟩) 4 4 (headE p)) := Lib.hid ⟨by
      have h := World.ownsRow_lit (e := 5) (size := 1) w1 #[.int .u8 p.kind, .int .u8 p.src, .int .u8 (p.num / 256), .int .u8 (p.num % 256)] 4 (Nat.zero_le _) (by unfold maxLen; omega) rfl
      have ee : octs (headE p) = [.int .u8 p.kind, .int .u8 p.src, .int .u8 (p.num / 256), .int .u8 (p.num % 256)] := by
        unfold headE; rw [be1 _ (by omega) (by omega), be1 _ (by omega) (by omega), be2 _ (by omega) (by omega)]; rfl
      unfold Sl
      rw [ee]
      exact h, K1.out.alloc K1.out.size _, fun x hx => by rcases List.mem_singleton.1 hx with rfl; exact K1.out.size⟩
  go_upto_region 4 with fail
  obtain ⟨W1, hW1⟩ : ∃ W, W = w1.alloc (.cells #[.int .u8 p.kind, .int .u8 p.src, .int .u8 (p.num / 256), .int .u8 (p.num % 256)] 5) := ⟨_, rfl⟩
  rw [← hW1] at A0 ⊢
  clear hW1 c0 c1 c2 e1 e2 e3 e4 e5 e6
  obtain ⟨xb, hxb⟩ : ∃ b, b = w1.heap.size := ⟨_, rfl⟩
  rw [← hxb] at A0 ⊢
  clear hxb
  have c0 : W1.cell? ⟨g, 0, none⟩ = some (.int .i64 2) := by rw [← HKK.out]; exact (B0.out.keepS A0.out.2.1 (by simp)).cell 0
  have c6 : W1.cell? ⟨g, 6, none⟩ = some (.int .i64 p.off) := (B0.out.keepS A0.out.2.1 (by simp)).cell 6
  go_wp2_with fail
  refine (refint_any _ p.off (by omega) (by omega)).mono ?_
  rintro e u1 ⟨X1, n1, d1, rfl, hn, hs, hk, hb⟩
  have N1 := Lib.hid hn
  have S1 := Lib.hid hs
  have Q1 := Lib.hid hk
  have b1 : n1 ≤ 1000 := by rw [hn]; have := vn_len10 (zz p.off).toNat (by have := zz_nonneg p.off (by omega) (by omega); omega); omega
  clear hn hs hk hb c0 c6
  go_wp2_with (
    at_builtin
    refine wpList_appV _ rfl (.tmp 50) (.tmp 53) 24 rfl 5 i0 _ 1 1 Try.underlying24 hi0 hz0 hz1 hz2 rfl (by omega) (some ⟨xb, 0, none⟩) 4 4 (octs (headE p)) rfl (by exact A0.out.1.keep0 Q1.out) X1 n1 d1 (octs (vI p.off)) rfl (by exact S1.out.vw (by omega)) (oct_one _) (by omega) (by omega) ?_
    intro A1 m1 v1 hs hk hb
    have AV1 := Lib.hid (A0.out.add Q1.out hs hk hb)
    clear hs hk hb
    have c7 : v1.cell? ⟨g, 7, none⟩ = some (.slice l.D l.dn l.dc) := (B0.out.keepS AV1.out.2.1 (by simp)).cell 7)
  have dlen := P0.out.dlen
  refine (refblob_any _ l.D l.dn l.dc p.data (by omega) (P0.out.vd.keep0 AV1.out.2.1)).mono ?_
  rintro e u2 ⟨X2, n2, d2, rfl, hn, hs, hk, hb⟩
  have N2 := Lib.hid hn
  have S2 : Hid (Sl u2 5 1 X2 n2 d2 (octs (vB p.data))) := Lib.hid (by unfold vB vI; rw [← dlen]; exact hs)
  have Q2 := Lib.hid hk
  have b2 : n2 ≤ 1000 := by rw [hn]; have := vn_len10 (zz (l.dn : Int)).toNat (by have := zz_nonneg (l.dn : Int) (by omega) (by omega); omega); have := P0.out.dlen; simp only [List.length_append]; omega
  clear hn hs hk hb c7
  go_wp2_with (
    at_builtin
    refine wpList_appV _ rfl (.tmp 55) (.tmp 58) 24 rfl 5 i0 _ 1 1 Try.underlying24 hi0 hz0 hz1 hz2 rfl (by omega) A1 (4 + n1) m1 (octs (headE p ++ vI p.off)) rfl (by exact AV1.out.1.keep0 Q2.out) X2 n2 d2 (octs (vB p.data)) rfl (by exact S2.out.vw (by omega)) (oct_one _) (by omega) (by omega) ?_
    intro A2 m2 v2 hs hk hb
    have AV2 := Lib.hid (AV1.out.add Q2.out hs hk hb)
    clear hs hk hb
  )
  go_ret2
  refine EncPost.from K0.out ⟨_, _, _, rfl, ?_⟩
  unfold encP bodyE
  simp only [HKK.out, if_true, List.append_nil]
  rw [if_neg (by omega)]
  exact (by simpa only [List.append_assoc] using AV2.out)
theorem tmod256'3 (x : Int) (h : 0 ≤ x) : x.tmod 256 = x % 256 := Int.tmod_eq_emod_of_nonneg h
theorem tdiv256'3 (x : Int) (h : 0 ≤ x) : x.tdiv 256 = x / 256 := Int.tdiv_eq_ediv_of_nonneg h
set_option maxRecDepth 100000 in
set_option maxHeartbeats 16000000 in
theorem renc_3 (w : World) (p : Pd) (l : Lc) (hp : PIn w p l) (hkk : p.kind = 3) (hv : validP p = true) : Calls Try.prog 11 #[.agg (pcs p l)] w (EncPost w (encP p) 0) := by
  have BD := Lib.hid (body3 hv hkk)
  obtain ⟨bc, bs, bn⟩ := BD.out
  have sm := hp.sm
  have HKK := Lib.hid hkk
  clear hkk
  have k1 : Keep w.heap.size [] w (w.alloc (.cells (pcs p l) TP)) := (Keep.refl _ _ w).alloc (Nat.le_refl _) _
  have hb := Blk.new w TP (pcs p l)
  have P0 := Lib.hid (hp.keep0 k1)
  have HVL := Lib.hid hv
  have HEAD := Lib.hid (valid_head hv)
  obtain ⟨a0, a1, a2⟩ := HEAD.out
  obtain ⟨i0, hi0, hz0, hz1, hz2⟩ := info_parts infoU8
  clear hp hv
  obtain ⟨W0, hW0⟩ : ∃ W0, W0 = w.alloc (.cells (pcs p l) TP) := ⟨_, rfl⟩
  have B0 : Hid (Blk W0 w.heap.size TP (pcs p l)) := Lib.hid (by rw [hW0]; exact hb)
  rw [← hW0] at P0 k1
  have K0 := Lib.hid k1
  clear hb k1
  go_enter Try.func11, Try.ntmps11
  go_upto_region 1 with fail
  change Code.wp _ _ _ _ (w.alloc (.cells (pcs p l) TP))
  rw [← hW0]
  clear hW0
  obtain ⟨g, hg⟩ : ∃ g, g = w.heap.size := ⟨_, rfl⟩
  rw [← hg] at B0 ⊢
  clear hg
  have c0 : W0.cell? ⟨g, 0, none⟩ = some (.int .i64 p.kind) := (B0.out).cell 0
  have c1 : W0.cell? ⟨g, 1, none⟩ = some (.int .i64 p.src) := (B0.out).cell 1
  have c2 : W0.cell? ⟨g, 2, none⟩ = some (.int .i64 p.num) := (B0.out).cell 2
  have c3 : W0.cell? ⟨g, 3, none⟩ = some (.int .i64 p.cls) := (B0.out).cell 3
  have c4 : W0.cell? ⟨g, 4, none⟩ = some (.string (strOfNums p.name)) := (B0.out).cell 4
  have c5 : W0.cell? ⟨g, 5, none⟩ = some (.int .i64 p.size) := (B0.out).cell 5
  have c6 : W0.cell? ⟨g, 6, none⟩ = some (.int .i64 p.off) := (B0.out).cell 6
  have c7 : W0.cell? ⟨g, 7, none⟩ = some (.slice l.D l.dn l.dc) := (B0.out).cell 7
  have c8 : W0.cell? ⟨g, 8, none⟩ = some (.int .u32 p.sum) := (B0.out).cell 8
  have c9 : W0.cell? ⟨g, 9, none⟩ = some (.int .i64 p.code) := (B0.out).cell 9
  have c10 : W0.cell? ⟨g, 10, none⟩ = some (.slice l.G l.gn l.gc) := (B0.out).cell 10
  go_wp2_with fail
  refine (rvalid_b _ p l true P0.out HVL.out).mono ?_
  rintro e w1 ⟨rfl, hk1⟩
  have K1 := Lib.hid hk1
  clear hk1 c0 c1 c2 c3 c4 c5 c6 c7 c8 c9 c10
  have c0 : w1.cell? ⟨g, 0, none⟩ = some (.int .i64 p.kind) := (B0.out.keepS K1.out (by simp)).cell 0
  have c1 : w1.cell? ⟨g, 1, none⟩ = some (.int .i64 p.src) := (B0.out.keepS K1.out (by simp)).cell 1
  have c2 : w1.cell? ⟨g, 2, none⟩ = some (.int .i64 p.num) := (B0.out.keepS K1.out (by simp)).cell 2
  have e1 := tdiv256'3 p.num a2.1
  have e2 := tmod256'3 p.num a2.1
  have e3 := u8_in p.kind (by omega) (by omega)
  have e4 := u8_in p.src (by omega) (by omega)
  have e5 := u8_in (p.num / 256) (by omega) (by omega)
  have e6 := u8_in (p.num % 256) (by omega) (by omega)
  have A0 : Hid (AV W0 (w1.alloc (.cells #[.int .u8 p.kind, .int .u8 p.src, .int .u8 (p.num / 256), .int .u8 (p.num % 256)] 5)) (some ⟨w1.heap.size, 0, none⟩) 4 4 (headE p)) := Lib.hid ⟨by
      have h := World.ownsRow_lit (e := 5) (size := 1) w1 #[.int .u8 p.kind, .int .u8 p.src, .int .u8 (p.num / 256), .int .u8 (p.num % 256)] 4 (Nat.zero_le _) (by unfold maxLen; omega) rfl
      have ee : octs (headE p) = [.int .u8 p.kind, .int .u8 p.src, .int .u8 (p.num / 256), .int .u8 (p.num % 256)] := by
        unfold headE; rw [be1 _ (by omega) (by omega), be1 _ (by omega) (by omega), be2 _ (by omega) (by omega)]; rfl
      unfold Sl
      rw [ee]
      exact h, K1.out.alloc K1.out.size _, fun x hx => by rcases List.mem_singleton.1 hx with rfl; exact K1.out.size⟩
  go_upto_region 4 with fail
  obtain ⟨W1, hW1⟩ : ∃ W, W = w1.alloc (.cells #[.int .u8 p.kind, .int .u8 p.src, .int .u8 (p.num / 256), .int .u8 (p.num % 256)] 5) := ⟨_, rfl⟩
  rw [← hW1] at A0 ⊢
  clear hW1 c0 c1 c2 e1 e2 e3 e4 e5 e6
  obtain ⟨xb, hxb⟩ : ∃ b, b = w1.heap.size := ⟨_, rfl⟩
  rw [← hxb] at A0 ⊢
  clear hxb
  have c0 : W1.cell? ⟨g, 0, none⟩ = some (.int .i64 3) := by rw [← HKK.out]; exact (B0.out.keepS A0.out.2.1 (by simp)).cell 0
  have c3 : W1.cell? ⟨g, 3, none⟩ = some (.int .i64 p.cls) := (B0.out.keepS A0.out.2.1 (by simp)).cell 3
  have e3 := u8_in p.cls (by omega) (by omega)
  go_wp2_with (
    at_builtin
    refine wpList_app1 _ rfl (.tmp 62) (.tmp 66) 24 rfl 5 i0 _ 1 1 Try.underlying24 hi0 hz0 hz1 hz2 rfl (by omega) (some ⟨xb, 0, none⟩) 4 4 (octs (headE p)) rfl (by exact A0.out.1.alloc _) _ _ _ rfl (by exact Blk.new _ _ _) rfl rfl (by omega) (by omega) ?_
    intro A1 m1 v1 hs hk hb
    have AV1 : Hid (AV W0 v1 A1 (4 + 1) m1 (headE p ++ be p.cls 1)) := Lib.hid (by
      rw [be1 (p.cls) (by omega) (by omega)]
      exact A0.out.add (L' := [p.cls]) ((Keep.refl _ _ _).alloc (Nat.le_refl _) _) hs hk hb)
    clear hs hk hb c0 c3 e3
    have c5 : v1.cell? ⟨g, 5, none⟩ = some (.int .i64 p.size) := (B0.out.keepS AV1.out.2.1 (by simp)).cell 5)
  refine (refint_any _ p.size (by omega) (by omega)).mono ?_
  rintro e u2 ⟨X2, n2, d2, rfl, hn, hs, hk, hb⟩
  have N2 := Lib.hid hn
  have S2 := Lib.hid hs
  have Q2 := Lib.hid hk
  have b2 : n2 ≤ 1000 := by rw [hn]; have := vn_len10 (zz p.size).toNat (by have := zz_nonneg p.size (by omega) (by omega); omega); omega
  clear hn hs hk hb c5
  have eu := u64_in p.sum sm.1 (by omega)
  go_wp2_with (
    at_builtin
    refine wpList_appV _ rfl (.tmp 68) (.tmp 71) 24 rfl 5 i0 _ 1 1 Try.underlying24 hi0 hz0 hz1 hz2 rfl (by omega) A1 (4 + 1) m1 (octs (headE p ++ be p.cls 1)) rfl (by exact AV1.out.1.keep0 Q2.out) X2 n2 d2 (octs (vI p.size)) rfl (by exact S2.out.vw (by omega)) (oct_one _) (by omega) (by omega) ?_
    intro A2 m2 v2 hs hk hb
    have AV2 := Lib.hid (AV1.out.add Q2.out hs hk hb)
    clear hs hk hb
    have c8 : v2.cell? ⟨g, 8, none⟩ = some (.int .u32 p.sum) := (B0.out.keepS AV2.out.2.1 (by simp)).cell 8)
  refine (refuint_any _ p.sum sm.1 (by omega) 4 (by omega) (by omega)).mono ?_
  rintro e u3 ⟨X3, n3, d3, rfl, hn, hs, hk, hb⟩
  have N3 := Lib.hid hn
  have S3 := Lib.hid hs
  have Q3 := Lib.hid hk
  have b3 : n3 ≤ 1000 := by rw [hn]; rw [be_length]; omega
  clear hn hs hk hb c8 eu
  have e4 := u8_in p.code (by omega) (by omega)
  go_wp2_with (first
    | (
        at_builtin
        refine wpList_appV _ rfl (.tmp 73) (.tmp 77) 24 rfl 5 i0 _ 1 1 Try.underlying24 hi0 hz0 hz1 hz2 rfl (by omega) A2 ((4 + 1) + n2) m2 (octs (headE p ++ be p.cls 1 ++ vI p.size)) rfl (by exact AV2.out.1.keep0 Q3.out) X3 n3 d3 (octs (be p.sum 4)) rfl (by exact S3.out.vw (by omega)) (oct_one _) (by omega) (by omega) ?_
        intro A3 m3 v3 hs hk hb
        have AV3 := Lib.hid (AV2.out.add Q3.out hs hk hb)
        clear hs hk hb
        have c9 : v3.cell? ⟨g, 9, none⟩ = some (.int .i64 p.code) := (B0.out.keepS AV3.out.2.1 (by simp)).cell 9)
    | (
        at_builtin
        refine wpList_app1 _ rfl (.tmp 79) (.tmp 83) 24 rfl 5 i0 _ 1 1 Try.underlying24 hi0 hz0 hz1 hz2 rfl (by omega) A3 (((4 + 1) + n2) + n3) m3 (octs (headE p ++ be p.cls 1 ++ vI p.size ++ be p.sum 4)) rfl (by exact AV3.out.1.alloc _) _ _ _ rfl (by exact Blk.new _ _ _) rfl rfl (by omega) (by omega) ?_
        intro A4 m4 v4 hs hk hb
        have AV4 : Hid (AV W0 v4 A4 ((((4 + 1) + n2) + n3) + 1) m4 (headE p ++ be p.cls 1 ++ vI p.size ++ be p.sum 4 ++ be p.code 1)) := Lib.hid (by
          rw [be1 (p.code) (by omega) (by omega)]
          exact AV3.out.add (L' := [p.code]) ((Keep.refl _ _ _).alloc (Nat.le_refl _) _) hs hk hb)
        clear hs hk hb c9
      ))
  go_ret2
  refine EncPost.from K0.out ⟨_, _, _, rfl, ?_⟩
  unfold encP bodyE
  simp only [HKK.out, if_true, List.append_nil]
  rw [if_neg (by omega), if_neg (by omega)]
  exact (by simpa only [List.append_assoc] using AV4.out)
theorem tmod256'4 (x : Int) (h : 0 ≤ x) : x.tmod 256 = x % 256 := Int.tmod_eq_emod_of_nonneg h
theorem tdiv256'4 (x : Int) (h : 0 ≤ x) : x.tdiv 256 = x / 256 := Int.tdiv_eq_ediv_of_nonneg h
theorem gap_at' {W : World} {G : Option Addr} {n k b o : Nat} {L : List Gp} {y : Gp} (h : Vw W G n 2 (L.flatMap gcells)) (hy : L[k]? = some y) (hG : G = some ⟨b, o, none⟩) : ∀ W', Keep W.heap.size [] W W' → W'.cell? ⟨b, o + k * 2, none⟩ = some (.int .i64 y.f) ∧ W'.cell? ⟨b, o + k * 2 + 1, none⟩ = some (.int .i64 y.t) := by
  intro W' hk
  have hl : n = L.length := by have := h.1; rw [gcells_len] at this; omega
  obtain ⟨b', o', y', e1, e2, d0, d1⟩ := gap_at (h.keep0 hk) (k := k) (by have := (List.getElem?_eq_some_iff.1 hy).1; omega)
  rw [hG] at e1; cases e1
  rw [hy] at e2; cases e2
  exact ⟨d0, d1⟩
theorem gapsE_take {L : List Gp} {k : Nat} {y : Gp} (hy : L[k]? = some y) : gapsE (L.take (k + 1)) = gapsE (L.take k) ++ (vI y.f ++ vI y.t) := by
  rw [List.take_add_one, hy]
  simp [gapsE]
set_option maxRecDepth 100000 in
set_option maxHeartbeats 16000000 in
theorem renc_4 (w : World) (p : Pd) (l : Lc) (hp : PIn w p l) (hkk : p.kind = 4) (hv : validP p = true) : Calls Try.prog 11 #[.agg (pcs p l)] w (EncPost w (encP p) 0) := by
  have BD := Lib.hid (body4 hv hkk)
  have bgl : l.gn ≤ 16 := by have h1 := BD.out.1; have h2 := hp.glen; omega
  have cgI : (l.gn : Int) ≤ (l.gc : Int) := by have := hp.cg.1; omega
  have cgM : (l.gc : Int) ≤ 9223372036854775807 := by have := hp.cg.2; unfold maxLen at this; omega
  have HKK := Lib.hid hkk
  clear hkk
  have k1 : Keep w.heap.size [] w (w.alloc (.cells (pcs p l) TP)) := (Keep.refl _ _ w).alloc (Nat.le_refl _) _
  have hb := Blk.new w TP (pcs p l)
  have P0 := Lib.hid (hp.keep0 k1)
  have HVL := Lib.hid hv
  have HEAD := Lib.hid (valid_head hv)
  obtain ⟨a0, a1, a2⟩ := HEAD.out
  obtain ⟨i0, hi0, hz0, hz1, hz2⟩ := info_parts infoU8
  clear hp hv
  obtain ⟨W0, hW0⟩ : ∃ W0, W0 = w.alloc (.cells (pcs p l) TP) := ⟨_, rfl⟩
  have B0 : Hid (Blk W0 w.heap.size TP (pcs p l)) := Lib.hid (by rw [hW0]; exact hb)
  rw [← hW0] at P0 k1
  have K0 := Lib.hid k1
  clear hb k1
  go_enter Try.func11, Try.ntmps11
  go_upto_region 1 with fail
  change Code.wp _ _ _ _ (w.alloc (.cells (pcs p l) TP))
  rw [← hW0]
  clear hW0
  obtain ⟨g, hg⟩ : ∃ g, g = w.heap.size := ⟨_, rfl⟩
  rw [← hg] at B0 ⊢
  clear hg
  have c0 : W0.cell? ⟨g, 0, none⟩ = some (.int .i64 p.kind) := (B0.out).cell 0
  have c1 : W0.cell? ⟨g, 1, none⟩ = some (.int .i64 p.src) := (B0.out).cell 1
  have c2 : W0.cell? ⟨g, 2, none⟩ = some (.int .i64 p.num) := (B0.out).cell 2
  have c3 : W0.cell? ⟨g, 3, none⟩ = some (.int .i64 p.cls) := (B0.out).cell 3
  have c4 : W0.cell? ⟨g, 4, none⟩ = some (.string (strOfNums p.name)) := (B0.out).cell 4
  have c5 : W0.cell? ⟨g, 5, none⟩ = some (.int .i64 p.size) := (B0.out).cell 5
  have c6 : W0.cell? ⟨g, 6, none⟩ = some (.int .i64 p.off) := (B0.out).cell 6
  have c7 : W0.cell? ⟨g, 7, none⟩ = some (.slice l.D l.dn l.dc) := (B0.out).cell 7
  have c8 : W0.cell? ⟨g, 8, none⟩ = some (.int .u32 p.sum) := (B0.out).cell 8
  have c9 : W0.cell? ⟨g, 9, none⟩ = some (.int .i64 p.code) := (B0.out).cell 9
  have c10 : W0.cell? ⟨g, 10, none⟩ = some (.slice l.G l.gn l.gc) := (B0.out).cell 10
  go_wp2_with fail
  refine (rvalid_b _ p l true P0.out HVL.out).mono ?_
  rintro e w1 ⟨rfl, hk1⟩
  have K1 := Lib.hid hk1
  clear hk1 c0 c1 c2 c3 c4 c5 c6 c7 c8 c9 c10
  have c0 : w1.cell? ⟨g, 0, none⟩ = some (.int .i64 p.kind) := (B0.out.keepS K1.out (by simp)).cell 0
  have c1 : w1.cell? ⟨g, 1, none⟩ = some (.int .i64 p.src) := (B0.out.keepS K1.out (by simp)).cell 1
  have c2 : w1.cell? ⟨g, 2, none⟩ = some (.int .i64 p.num) := (B0.out.keepS K1.out (by simp)).cell 2
  have e1 := tdiv256'4 p.num a2.1
  have e2 := tmod256'4 p.num a2.1
  have e3 := u8_in p.kind (by omega) (by omega)
  have e4 := u8_in p.src (by omega) (by omega)
  have e5 := u8_in (p.num / 256) (by omega) (by omega)
  have e6 := u8_in (p.num % 256) (by omega) (by omega)
  have A0 : Hid (AV W0 (w1.alloc (.cells #[.int .u8 p.kind, .int .u8 p.src, .int .u8 (p.num / 256), .int .u8 (p.num % 256)] 5)) (some ⟨w1.heap.size, 0, none⟩) 4 4 (headE p)) := Lib.hid ⟨by
      have h := World.ownsRow_lit (e := 5) (size := 1) w1 #[.int .u8 p.kind, .int .u8 p.src, .int .u8 (p.num / 256), .int .u8 (p.num % 256)] 4 (Nat.zero_le _) (by unfold maxLen; omega) rfl
      have ee : octs (headE p) = [.int .u8 p.kind, .int .u8 p.src, .int .u8 (p.num / 256), .int .u8 (p.num % 256)] := by
        unfold headE; rw [be1 _ (by omega) (by omega), be1 _ (by omega) (by omega), be2 _ (by omega) (by omega)]; rfl
      unfold Sl
      rw [ee]
      exact h, K1.out.alloc K1.out.size _, fun x hx => by rcases List.mem_singleton.1 hx with rfl; exact K1.out.size⟩
  go_upto_region 4 with fail
  obtain ⟨W1, hW1⟩ : ∃ W, W = w1.alloc (.cells #[.int .u8 p.kind, .int .u8 p.src, .int .u8 (p.num / 256), .int .u8 (p.num % 256)] 5) := ⟨_, rfl⟩
  rw [← hW1] at A0 ⊢
  clear hW1 c0 c1 c2 e1 e2 e3 e4 e5 e6
  obtain ⟨xb, hxb⟩ : ∃ b, b = w1.heap.size := ⟨_, rfl⟩
  rw [← hxb] at A0 ⊢
  clear hxb
  have c0 : W1.cell? ⟨g, 0, none⟩ = some (.int .i64 4) := by rw [← HKK.out]; exact (B0.out.keepS A0.out.2.1 (by simp)).cell 0
  have c10 : W1.cell? ⟨g, 10, none⟩ = some (.slice l.G l.gn l.gc) := (B0.out.keepS A0.out.2.1 (by simp)).cell 10
  go_wp2_with fail
  refine (refint_any _ (l.gn : Int) (by omega) (by omega)).mono ?_
  rintro e u1 ⟨X1, n1, d1, rfl, hn, hs, hk, hb⟩
  have N1 := Lib.hid hn
  have S1 := Lib.hid hs
  have Q1 := Lib.hid hk
  have b1 : n1 ≤ 1000 := by rw [hn]; have := vn_len10 (zz (l.gn : Int)).toNat (by have := zz_nonneg (l.gn : Int) (by omega) (by omega); omega); omega
  clear hn hs hk hb c0 c10
  go_wp2_with (
    at_builtin
    refine wpList_appV _ rfl (.tmp 87) (.tmp 91) 24 rfl 5 i0 _ 1 1 Try.underlying24 hi0 hz0 hz1 hz2 rfl (by omega) (some ⟨xb, 0, none⟩) 4 4 (octs (headE p)) rfl (by exact A0.out.1.keep0 Q1.out) X1 n1 d1 (octs (vI (l.gn : Int))) rfl (by exact S1.out.vw (by omega)) (oct_one _) (by omega) (by omega) ?_
    intro A1 m1 v1 hs hk hb
    have AV1 := Lib.hid (A0.out.add Q1.out hs hk hb)
    clear hs hk hb
  )
  have hb0 : (4 + n1) ≤ 1100 := by omega
  obtain ⟨N0, hN0⟩ : ∃ N, N = (4 + n1) := ⟨_, rfl⟩
  rw [← hN0] at hb0 AV1 ⊢
  clear hN0
  go_loopw [4, 5] (fun u j wr => ∃ (k : Nat) (A : Option Addr) (n c : Nat), k ≤ l.gn ∧ j = .int .i64 k ∧ u = .slice A n c ∧ n ≤ 1100 + k * 20 ∧ AV W0 wr A n c (headE p ++ vI (l.gn : Int) ++ gapsE (p.gaps.take k))) (fun _ j _ => l.gn - (intOf j).toNat)
  case atStart => exact ⟨0, _, _, _, Nat.zero_le _, rfl, rfl, by omega, by have := AV1.out; simpa [gapsE] using this⟩
  case round =>
    obtain ⟨k, A, n, c, hk, rfl, rfl, hnb, hav⟩ := hrel
    have AW := Lib.hid hav
    clear hav
    have c10 : wr.cell? ⟨g, 10, none⟩ = some (.slice l.G l.gn l.gc) := (B0.out.keepS AW.out.2.1 (by simp)).cell 10
    by_cases hlt : k < l.gn
    · have hkx : (k : Int) < (l.gn : Int) := by omega
      obtain ⟨bb, o, y, hG, hy, d0, d1⟩ := gap_at (P0.out.vg.keep0 AW.out.2.1) hlt
      obtain ⟨y0, y1⟩ := BD.out.2 y (List.mem_of_getElem? hy)
      have HY := Lib.hid hy
      have HGA := Lib.hid (gap_at' P0.out.vg HY.out hG)
      clear hy
      rw [hG] at c10
      have HGE := Lib.hid hG
      clear hG
      go_wp2_with fail
      refine (refint_any _ y.f (by omega) (by omega)).mono ?_
      rintro e u5 ⟨X5, n5, d5, rfl, hn, hs, hk, hb⟩
      have S5 := Lib.hid hs
      have Q5 := Lib.hid hk
      have b5 : n5 ≤ 10 := by rw [hn]; exact vn_len10 (zz y.f).toNat (by have := zz_nonneg y.f (by omega) (by omega); omega)
      clear hn hs hk hb c10 d0 d1
      go_wp2_with (
        at_builtin
        refine wpList_appV _ rfl (.tmp 100) (.tmp 107) 24 rfl 5 i0 _ 1 1 Try.underlying24 hi0 hz0 hz1 hz2 rfl (by omega) A n c (octs (headE p ++ vI (l.gn : Int) ++ gapsE (p.gaps.take k))) rfl (by exact AW.out.1.keep0 Q5.out) X5 n5 d5 (octs (vI y.f)) rfl (by exact S5.out.vw (by omega)) (oct_one _) (by omega) (by omega) ?_
        intro A6 m6 v6 hs hk hb
        have AV6 := Lib.hid (AW.out.add Q5.out hs hk hb)
        clear hs hk hb
        have c10 : v6.cell? ⟨g, 10, none⟩ = some (.slice (some ⟨bb, o, none⟩) l.gn l.gc) := by rw [← HGE.out]; exact (B0.out.keepS AV6.out.2.1 (by simp)).cell 10
        obtain ⟨d0, d1⟩ := HGA.out v6 AV6.out.2.1)
      refine (refint_any _ y.t (by omega) (by omega)).mono ?_
      rintro e u7 ⟨X7, n7, d7, rfl, hn, hs, hk, hb⟩
      have S7 := Lib.hid hs
      have Q7 := Lib.hid hk
      have b7 : n7 ≤ 10 := by rw [hn]; exact vn_len10 (zz y.t).toNat (by have := zz_nonneg y.t (by omega) (by omega); omega)
      clear hn hs hk hb c10 d0 d1
      go_wp2_with (
        at_builtin
        refine wpList_appV _ rfl (.tmp 109) (.tmp 116) 24 rfl 5 i0 _ 1 1 Try.underlying24 hi0 hz0 hz1 hz2 rfl (by omega) A6 (n + n5) m6 (octs (headE p ++ vI (l.gn : Int) ++ gapsE (p.gaps.take k) ++ vI y.f)) rfl (by exact AV6.out.1.keep0 Q7.out) X7 n7 d7 (octs (vI y.t)) rfl (by exact S7.out.vw (by omega)) (oct_one _) (by omega) (by omega) ?_
        intro A8 m8 v8 hs hk hb
        have AV8 := Lib.hid (AV6.out.add Q7.out hs hk hb)
        clear hs hk hb)
      go_roundw
      case rel =>
        refine ⟨k + 1, A8, n + n5 + n7, m8, by omega, by go_num, rfl, by omega, ?_⟩
        rw [gapsE_take HY.out]
        exact (by simpa only [List.append_assoc] using AV8.out)
      case measure => simp [intOf] <;> omega
    · obtain rfl : k = l.gn := by omega
      go_wp2_with fail
      go_ret2
      refine EncPost.from K0.out ⟨_, _, _, rfl, ?_⟩
      unfold encP bodyE
      simp only [HKK.out, if_true, List.append_nil]
      rw [if_neg (by omega), if_neg (by omega), if_neg (by omega)]
      have h := AW.out
      rw [P0.out.glen, List.take_length] at h
      exact (by simpa only [List.append_assoc] using h)
theorem tmod256'5 (x : Int) (h : 0 ≤ x) : x.tmod 256 = x % 256 := Int.tmod_eq_emod_of_nonneg h
theorem tdiv256'5 (x : Int) (h : 0 ≤ x) : x.tdiv 256 = x / 256 := Int.tdiv_eq_ediv_of_nonneg h
set_option maxRecDepth 100000 in
set_option maxHeartbeats 16000000 in
theorem renc_5 (w : World) (p : Pd) (l : Lc) (hp : PIn w p l) (hkk : p.kind = 5) (hv : validP p = true) : Calls Try.prog 11 #[.agg (pcs p l)] w (EncPost w (encP p) 0) := by
  have BD := Lib.hid (body5 hv hkk)
  have bc := BD.out
  have HKK := Lib.hid hkk
  clear hkk
  have k1 : Keep w.heap.size [] w (w.alloc (.cells (pcs p l) TP)) := (Keep.refl _ _ w).alloc (Nat.le_refl _) _
  have hb := Blk.new w TP (pcs p l)
  have P0 := Lib.hid (hp.keep0 k1)
  have HVL := Lib.hid hv
  have HEAD := Lib.hid (valid_head hv)
  obtain ⟨a0, a1, a2⟩ := HEAD.out
  obtain ⟨i0, hi0, hz0, hz1, hz2⟩ := info_parts infoU8
  clear hp hv
  obtain ⟨W0, hW0⟩ : ∃ W0, W0 = w.alloc (.cells (pcs p l) TP) := ⟨_, rfl⟩
  have B0 : Hid (Blk W0 w.heap.size TP (pcs p l)) := Lib.hid (by rw [hW0]; exact hb)
  rw [← hW0] at P0 k1
  have K0 := Lib.hid k1
  clear hb k1
  go_enter Try.func11, Try.ntmps11
  go_upto_region 1 with fail
  change Code.wp _ _ _ _ (w.alloc (.cells (pcs p l) TP))
  rw [← hW0]
  clear hW0
  obtain ⟨g, hg⟩ : ∃ g, g = w.heap.size := ⟨_, rfl⟩
  rw [← hg] at B0 ⊢
  clear hg
  have c0 : W0.cell? ⟨g, 0, none⟩ = some (.int .i64 p.kind) := (B0.out).cell 0
  have c1 : W0.cell? ⟨g, 1, none⟩ = some (.int .i64 p.src) := (B0.out).cell 1
  have c2 : W0.cell? ⟨g, 2, none⟩ = some (.int .i64 p.num) := (B0.out).cell 2
  have c3 : W0.cell? ⟨g, 3, none⟩ = some (.int .i64 p.cls) := (B0.out).cell 3
  have c4 : W0.cell? ⟨g, 4, none⟩ = some (.string (strOfNums p.name)) := (B0.out).cell 4
  have c5 : W0.cell? ⟨g, 5, none⟩ = some (.int .i64 p.size) := (B0.out).cell 5
  have c6 : W0.cell? ⟨g, 6, none⟩ = some (.int .i64 p.off) := (B0.out).cell 6
  have c7 : W0.cell? ⟨g, 7, none⟩ = some (.slice l.D l.dn l.dc) := (B0.out).cell 7
  have c8 : W0.cell? ⟨g, 8, none⟩ = some (.int .u32 p.sum) := (B0.out).cell 8
  have c9 : W0.cell? ⟨g, 9, none⟩ = some (.int .i64 p.code) := (B0.out).cell 9
  have c10 : W0.cell? ⟨g, 10, none⟩ = some (.slice l.G l.gn l.gc) := (B0.out).cell 10
  go_wp2_with fail
  refine (rvalid_b _ p l true P0.out HVL.out).mono ?_
  rintro e w1 ⟨rfl, hk1⟩
  have K1 := Lib.hid hk1
  clear hk1 c0 c1 c2 c3 c4 c5 c6 c7 c8 c9 c10
  have c0 : w1.cell? ⟨g, 0, none⟩ = some (.int .i64 p.kind) := (B0.out.keepS K1.out (by simp)).cell 0
  have c1 : w1.cell? ⟨g, 1, none⟩ = some (.int .i64 p.src) := (B0.out.keepS K1.out (by simp)).cell 1
  have c2 : w1.cell? ⟨g, 2, none⟩ = some (.int .i64 p.num) := (B0.out.keepS K1.out (by simp)).cell 2
  have e1 := tdiv256'5 p.num a2.1
  have e2 := tmod256'5 p.num a2.1
  have e3 := u8_in p.kind (by omega) (by omega)
  have e4 := u8_in p.src (by omega) (by omega)
  have e5 := u8_in (p.num / 256) (by omega) (by omega)
  have e6 := u8_in (p.num % 256) (by omega) (by omega)
  have A0 : Hid (AV W0 (w1.alloc (.cells #[.int .u8 p.kind, .int .u8 p.src, .int .u8 (p.num / 256), .int .u8 (p.num % 256)] 5)) (some ⟨w1.heap.size, 0, none⟩) 4 4 (headE p)) := Lib.hid ⟨by
      have h := World.ownsRow_lit (e := 5) (size := 1) w1 #[.int .u8 p.kind, .int .u8 p.src, .int .u8 (p.num / 256), .int .u8 (p.num % 256)] 4 (Nat.zero_le _) (by unfold maxLen; omega) rfl
      have ee : octs (headE p) = [.int .u8 p.kind, .int .u8 p.src, .int .u8 (p.num / 256), .int .u8 (p.num % 256)] := by
        unfold headE; rw [be1 _ (by omega) (by omega), be1 _ (by omega) (by omega), be2 _ (by omega) (by omega)]; rfl
      unfold Sl
      rw [ee]
      exact h, K1.out.alloc K1.out.size _, fun x hx => by rcases List.mem_singleton.1 hx with rfl; exact K1.out.size⟩
  go_upto_region 4 with fail
  obtain ⟨W1, hW1⟩ : ∃ W, W = w1.alloc (.cells #[.int .u8 p.kind, .int .u8 p.src, .int .u8 (p.num / 256), .int .u8 (p.num % 256)] 5) := ⟨_, rfl⟩
  rw [← hW1] at A0 ⊢
  clear hW1 c0 c1 c2 e1 e2 e3 e4 e5 e6
  obtain ⟨xb, hxb⟩ : ∃ b, b = w1.heap.size := ⟨_, rfl⟩
  rw [← hxb] at A0 ⊢
  clear hxb
  have c0 : W1.cell? ⟨g, 0, none⟩ = some (.int .i64 5) := by rw [← HKK.out]; exact (B0.out.keepS A0.out.2.1 (by simp)).cell 0
  have c9 : W1.cell? ⟨g, 9, none⟩ = some (.int .i64 p.code) := (B0.out.keepS A0.out.2.1 (by simp)).cell 9
  have e3 := u8_in p.code (by omega) (by omega)
  go_wp2_with (
    at_builtin
    refine wpList_app1 _ rfl (.tmp 120) (.tmp 124) 24 rfl 5 i0 _ 1 1 Try.underlying24 hi0 hz0 hz1 hz2 rfl (by omega) (some ⟨xb, 0, none⟩) 4 4 (octs (headE p)) rfl (by exact A0.out.1.alloc _) _ _ _ rfl (by exact Blk.new _ _ _) rfl rfl (by omega) (by omega) ?_
    intro A1 m1 v1 hs hk hb
    have AV1 : Hid (AV W0 v1 A1 (4 + 1) m1 (headE p ++ be p.code 1)) := Lib.hid (by
      rw [be1 (p.code) (by omega) (by omega)]
      exact A0.out.add (L' := [p.code]) ((Keep.refl _ _ _).alloc (Nat.le_refl _) _) hs hk hb)
    clear hs hk hb c0 c9 e3
  )
  go_ret2
  refine EncPost.from K0.out ⟨_, _, _, rfl, ?_⟩
  unfold encP bodyE
  simp only [HKK.out, if_true, List.append_nil]
  rw [if_neg (by omega), if_neg (by omega), if_neg (by omega), if_neg (by omega)]
  exact AV1.out
end Go.Proofs.Ytijionfhnoffcaa
