/- The vault: words. -/
import Derived.Test.YtfkbcflgbjncdaaVauP
import Derived.Test.YtfkbcflgbjncdaaMemN
import Derived.Deep.DeepCutAuto
import Derived.Deep.OwnRows
namespace Go.Proofs.Ytfkbcflgbjncdaa
set_option linter.unusedVariables false
set_option linter.unusedSimpArgs false
open Go.RowKit
def cds32 (l : List Nat) : Array Value := (u32s l).toArray
theorem cds32_at {l : List Nat} {i x : Nat} (h : l[i]? = some x) : (cds32 l)[i]? = some (.int .u32 (x : Int)) := by simp [cds32, u32s, h]
theorem cds32_set (l : List Nat) (i x : Nat) : (cds32 l).setIfInBounds i (.int .u32 (x : Int)) = cds32 (l.set i x) := by
  unfold cds32 u32s
  rw [List.setIfInBounds_toArray, List.map_set]
def stW (g : Nat) (b : List Int) (i : Nat) : List Nat := g :: b.length :: ((List.range (nw b)).map (fun j => pkw b j i) ++ [0])
theorem stW_len (g : Nat) (b : List Int) (i : Nat) : (stW g b i).length = nw b + 3 := by simp [stW]
theorem stW_at {g : Nat} {b : List Int} {i j : Nat} (h : j < nw b) : (stW g b i)[j + 2]? = some (pkw b j i) := by
  unfold stW
  show ((List.range (nw b)).map (fun j => pkw b j i) ++ [0])[j]? = _
  rw [List.getElem?_append_left (by simpa using h)]
  simp [List.getElem?_range h]
theorem stW_set {g : Nat} {b : List Int} {i j x : Nat} (hj : i / 4 = j) (hn : j < nw b) (hx : x = pkw b j i ||| ((b[i]?.getD 0).toNat * 2 ^ (24 - 8 * (i % 4)))) : (stW g b i).set (j + 2) x = stW g b (i + 1) := by
  apply List.ext_getElem?
  intro t
  match t with
  | 0 => rfl
  | 1 => rfl
  | t + 2 =>
    by_cases htj : t = j
    · subst htj
      rw [List.getElem?_set_self (by rw [stW_len]; omega), stW_at hn, pkw, if_pos hj, hx]
    · rw [List.getElem?_set_ne (by omega)]
      unfold stW
      show ((List.range (nw b)).map (fun j => pkw b j i) ++ [0])[t]? = ((List.range (nw b)).map (fun j => pkw b j (i + 1)) ++ [0])[t]?
      have e : (List.range (nw b)).map (fun j => pkw b j i) ++ [0] = ((List.range (nw b)).map (fun j => pkw b j i)) ++ [0] := rfl
      by_cases ht : t < nw b
      · rw [List.getElem?_append_left (by simpa using ht), List.getElem?_append_left (by simpa using ht)]
        simp only [List.getElem?_map, List.getElem?_range ht, Option.map_some]
        rw [pkw, if_neg (by omega)]
      · rw [List.getElem?_append_right (by simp; omega), List.getElem?_append_right (by simp; omega)]
        simp
theorem stW_0 (g : Nat) (b : List Int) (M : Nat) (h : M = nw b + 3) : ((List.replicate M 0).set 0 g).set 1 b.length = stW g b 0 := by
  subst h
  have e : List.replicate (nw b + 3) 0 = 0 :: 0 :: List.replicate (nw b + 1) 0 := rfl
  rw [e]
  unfold stW
  show g :: b.length :: List.replicate (nw b + 1) 0 = _
  congr 2
  rw [List.replicate_succ']
  congr 1
  apply List.ext_getElem?
  intro t
  by_cases ht : t < nw b
  · simp [ht, pkw, List.getElem?_range ht]
  · rw [List.getElem?_eq_none (by simp; omega), List.getElem?_eq_none (by simp; omega)]
theorem be_oct' (n : Int) : ∀ k, Oct (be n k)
  | 0 => fun x hx => by cases hx
  | k + 1 => fun x hx => by
    unfold be at hx
    rcases List.mem_cons.1 hx with rfl | hx
    · omega
    · exact be_oct' n k x hx
theorem octW_oct (l : List Nat) : Oct (octW l) := fun x hx => by
  obtain ⟨y, _, hy⟩ := List.mem_flatMap.1 hx
  exact be_oct' _ _ x hy
theorem infoU32 : (Try.prog.info? 82).map (fun i => (i.zero, i.size, i.bytes)) = some (some (.int .u32 0), 1, 4) := by kernel_rfl
set_option maxRecDepth 100000 in
set_option maxHeartbeats 8000000 in
theorem words_w (w : World) (g : Nat) (X : Option Addr) (n c : Nat) (b : List Int) (hg : g < 4294967296) (hO : Oct b) (hv : Vw w X n 1 (octs b)) (hnc : n ≤ c) (hcm : c ≤ maxLen) (hn : n ≤ 10000) :
    Calls Try.prog 62 #[.int .i64 (g : Int), .slice X n c] w fun e w' => ∃ A m c', e = .returned (.slice A m c') ∧ m = nw b + 3 ∧ Sl w' 82 1 A m c' (u32s (wordsF g b)) ∧ Keep w.heap.size [] w w' ∧ ∀ x, x ∈ blks A → w.heap.size ≤ x := by
  have hnl : n = b.length := by have := hv.1; simp [octs] at this; omega
  obtain ⟨i0, hi0, hz0, hz1, hz2⟩ := info_parts infoU32
  obtain ⟨K, hK⟩ : ∃ K, K = nw b := ⟨_, rfl⟩
  obtain ⟨M, hM⟩ : ∃ M, M = K + 3 := ⟨_, rfl⟩
  have hKb : K ≤ 2501 := by rw [hK]; unfold nw; omega
  have e1 : ((n : Int) + 3).tdiv 4 = (K : Int) := by
    rw [Int.tdiv_eq_ediv_of_nonneg (by omega), hK, hnl]; unfold nw; omega
  have e2 : (K : Int) + 3 = (M : Int) := by omega
  have e3 : IntKind.u32.wrap (g : Int) = (g : Int) := u32w g hg
  have e4 : IntKind.u32.wrap (n : Int) = (n : Int) := u32w n (by omega)
  have hncI : (n : Int) ≤ (c : Int) := by omega
  have hcmI : (c : Int) ≤ 9223372036854775807 := by unfold maxLen at hcm; omega
  have hM3 : (3 : Int) ≤ (M : Int) := by omega
  have hMb : (M : Int) ≤ 3000 := by omega
  have HV := Lib.hid hv
  have HO := Lib.hid hO
  have HNL := Lib.hid hnl
  have HK := Lib.hid hK
  have HM := Lib.hid hM
  clear hv hO hnl hK hM
  go_enter Try.func62, Try.ntmps62
  go_upto_region 3 with (at_make
                         refine wpList_make_row w rfl _ _ 132 rfl 82 i0 _ Try.underlying132 hi0 hz0 hz1 rfl .i64 .i64 M rfl rfl (by rw [hz2]; omega) (by omega) ?_)
  rw [made_rep]
  have hc0 : (List.replicate M (Value.int .u32 0)).toArray = cds32 (List.replicate M 0) := by unfold cds32 u32s; rw [List.map_replicate]; rfl
  rw [hc0]
  obtain ⟨W0, hW0⟩ : ∃ W, W = w.alloc (.cells (cds32 (List.replicate M 0)) 82) := ⟨_, rfl⟩
  obtain ⟨a, ha⟩ : ∃ a, a = w.heap.size := ⟨_, rfl⟩
  have k1 : Keep w.heap.size [] w W0 := by rw [hW0]; exact (Keep.refl _ _ w).alloc (Nat.le_refl _) _
  have hA : Blk W0 a 82 (cds32 (List.replicate M 0)) := by rw [hW0, ha]; exact Blk.new _ _ _
  change Code.wp _ _ _ _ (w.alloc (.cells (cds32 (List.replicate M 0)) 82))
  rw [← hW0, ← ha]
  have ha0 : w.heap.size ≤ a := by omega
  have x0 : W0.cell? ⟨a, 0, none⟩ = some (.int .u32 0) := by rw [hA.cell]; exact cds32_at (by rw [List.getElem?_replicate, if_pos (by omega)])
  have x1 : W0.cell? ⟨a, 1, none⟩ = some (.int .u32 0) := by rw [hA.cell]; exact cds32_at (by rw [List.getElem?_replicate, if_pos (by omega)])
  have z0 := hA.frozen 0
  have z1 := hA.frozen 1
  have K0 := Lib.hid k1
  have KA := Lib.hid hA
  clear hW0 ha k1 hA hc0
  go_upto_region 4 with fail
  have hA2 := ((KA.out.set_ 0 (.int .u32 (g : Int))).set_ 1 (.int .u32 (n : Int)))
  rw [cds32_set, cds32_set, HNL.out, stW_0 g b M (by rw [HM.out, HK.out]), ← HNL.out] at hA2
  have k2 := (K0.out.setN (i := 0) (u := .int .u32 (g : Int)) ha0).setN (i := 1) (u := .int .u32 (n : Int)) ha0
  obtain ⟨W1, hW1⟩ : ∃ W, W = (W0.setCell ⟨a, 0, none⟩ (.int .u32 (g : Int))).setCell ⟨a, 1, none⟩ (.int .u32 (n : Int)) := ⟨_, rfl⟩
  rw [← hW1] at hA2 k2 ⊢
  have KA2 := Lib.hid hA2
  have K2 := Lib.hid k2
  clear hW1 hA2 k2 x0 x1 z0 z1 e1 e3 e4
  go_wp2_with fail
  go_loopw [27] (fun ii wr => ∃ i : Nat, i ≤ n ∧ ii = .int .i64 i ∧ Keep w.heap.size [] w wr ∧ Blk wr a 82 (cds32 (stW g b i))) (fun ii _ => n - (intOf ii).toNat)
  case atStart => exact ⟨0, by omega, rfl, K2.out, KA2.out⟩
  case round =>
    obtain ⟨i, hi, rfl, hkw, hba⟩ := hrel
    have KW := Lib.hid hkw
    have BA := Lib.hid hba
    clear hkw hba
    by_cases hlt : i < n
    · have hii : (i : Int) < (n : Int) := by omega
      obtain ⟨bb, o, u, rfl, hb, hu, hcell⟩ := (HV.out.keep0 KW.out).at_ hlt
      obtain ⟨x, hx, rfl⟩ := octs_at hu
      have hxo := HO.out x (List.mem_of_getElem? hx)
      have hxd : b[i]?.getD 0 = x := by rw [hx]; rfl
      obtain ⟨j, hj⟩ : ∃ j, j = i / 4 := ⟨_, rfl⟩
      have hjn : j < nw b := by rw [hj]; unfold nw; have := HNL.out; omega
      obtain ⟨J, hJ⟩ : ∃ J, J = j + 2 := ⟨_, rfl⟩
      obtain ⟨y, hy⟩ : ∃ y, y = pkw b j i := ⟨_, rfl⟩
      have hyl : y < 4294967296 := by rw [hy]; exact pkw_lt HO.out j i
      have x1 : wr.cell? ⟨a, J, none⟩ = some (.int .u32 (y : Int)) := by rw [BA.out.cell, hJ, hy]; exact cds32_at (stW_at hjn)
      have z1 := BA.out.frozen J
      have e5 : (i : Int).tdiv 4 = (j : Int) := by rw [Int.tdiv_eq_ediv_of_nonneg (by omega), hj]; omega
      have e6 : 2 + (j : Int) = (J : Int) := by omega
      have hJM : (J : Int) < (M : Int) := by have := HM.out; have := HK.out; omega
      have e7 : IntKind.u32.wrap x = x := by rw [IntKind.wrap_u32]; omega
      obtain ⟨v, hv⟩ : ∃ v, v = y ||| (x.toNat * 2 ^ (24 - 8 * (i % 4))) := ⟨_, rfl⟩
      have hset := stW_set (g := g) (x := v) hj.symm hjn (by rw [hv, hy, hxd])
      rw [← hJ] at hset
      have HSET := Lib.hid hset
      have hxn : (x.toNat : Int) = x := Int.toNat_of_nonneg hxo.1
      have hmod : (i : Int).tmod 4 = ((i % 4 : Nat) : Int) := by rw [Int.tmod_eq_emod_of_nonneg (by omega)]; omega
      clear hu hx hxd hset hj hJ hy
      rcases (by omega : i % 4 = 0 ∨ i % 4 = 1 ∨ i % 4 = 2 ∨ i % 4 = 3) with hr | hr | hr | hr
      · have e8 : (i : Int).tmod 4 = 0 := by rw [hmod, hr]; rfl
        have e9 : IntKind.u32.wrap (x * 16777216) = x * 16777216 := by rw [IntKind.wrap_u32]; omega
        have e10 : bits .or .u32 (y : Int) (x * 16777216) = (v : Int) := by
          have h := u32_or_nat y (x.toNat * 16777216) hyl (by omega)
          have ep : (2 : Nat) ^ (24 - 8 * 0) = 16777216 := by decide
          have ec : ((x.toNat * 16777216 : Nat) : Int) = x * 16777216 := by omega
          rw [ec] at h
          rw [hv, hr, ep, h]
        clear hv hmod
        go_wp2_with fail
        go_region
        all_goals go_wp2_with fail
        go_roundw
        case rel =>
          refine ⟨i + 1, by omega, by go_num, ?_, ?_⟩
          · exact (KW.out.setN ha0).drew
          · rw [← HSET.out, ← cds32_set]; exact (BA.out.set_ J _).drew
        case measure => simp [intOf] <;> omega
      · have e8 : (i : Int).tmod 4 = 1 := by rw [hmod, hr]; rfl
        have e9 : IntKind.u32.wrap (x * 65536) = x * 65536 := by rw [IntKind.wrap_u32]; omega
        have e10 : bits .or .u32 (y : Int) (x * 65536) = (v : Int) := by
          have h := u32_or_nat y (x.toNat * 65536) hyl (by omega)
          have ep : (2 : Nat) ^ (24 - 8 * 1) = 65536 := by decide
          have ec : ((x.toNat * 65536 : Nat) : Int) = x * 65536 := by omega
          rw [ec] at h
          rw [hv, hr, ep, h]
        clear hv hmod
        go_wp2_with fail
        go_region
        all_goals go_wp2_with fail
        go_roundw
        case rel =>
          refine ⟨i + 1, by omega, by go_num, ?_, ?_⟩
          · exact (KW.out.setN ha0).drew
          · rw [← HSET.out, ← cds32_set]; exact (BA.out.set_ J _).drew
        case measure => simp [intOf] <;> omega
      · have e8 : (i : Int).tmod 4 = 2 := by rw [hmod, hr]; rfl
        have e9 : IntKind.u32.wrap (x * 256) = x * 256 := by rw [IntKind.wrap_u32]; omega
        have e10 : bits .or .u32 (y : Int) (x * 256) = (v : Int) := by
          have h := u32_or_nat y (x.toNat * 256) hyl (by omega)
          have ep : (2 : Nat) ^ (24 - 8 * 2) = 256 := by decide
          have ec : ((x.toNat * 256 : Nat) : Int) = x * 256 := by omega
          rw [ec] at h
          rw [hv, hr, ep, h]
        clear hv hmod
        go_wp2_with fail
        go_region
        all_goals go_wp2_with fail
        go_roundw
        case rel =>
          refine ⟨i + 1, by omega, by go_num, ?_, ?_⟩
          · exact (KW.out.setN ha0).drew
          · rw [← HSET.out, ← cds32_set]; exact (BA.out.set_ J _).drew
        case measure => simp [intOf] <;> omega
      · have e8 : (i : Int).tmod 4 = 3 := by rw [hmod, hr]; rfl
        have e9 : IntKind.u32.wrap (x * 1) = x * 1 := by rw [IntKind.wrap_u32]; omega
        have e10 : bits .or .u32 (y : Int) (x) = (v : Int) := by
          have h := u32_or_nat y (x.toNat * 1) hyl (by omega)
          have ep : (2 : Nat) ^ (24 - 8 * 3) = 1 := by decide
          have ec : ((x.toNat * 1 : Nat) : Int) = x := by omega
          rw [ec] at h
          rw [hv, hr, ep, h]
        clear hv hmod
        go_wp2_with fail
        go_region
        all_goals go_wp2_with fail
        go_roundw
        case rel =>
          refine ⟨i + 1, by omega, by go_num, ?_, ?_⟩
          · exact (KW.out.setN ha0).drew
          · rw [← HSET.out, ← cds32_set]; exact (BA.out.set_ J _).drew
        case measure => simp [intOf] <;> omega
    · obtain rfl : i = n := by omega
      have hst : stW g b i = heads g b ++ [0] := by unfold stW heads pks; rw [HNL.out]; rfl
      obtain ⟨K2, hK2⟩ : ∃ K2, K2 = K + 2 := ⟨_, rfl⟩
      have hhl : (heads g b).length = K2 := by unfold heads; simp [pks_len]; rw [hK2, HK.out]
      have hba := BA.out
      rw [hst] at hba
      have hv2 : Vw wr (some ⟨a, 0, none⟩) K2 1 (u32s (heads g b)) := ⟨by simp [u32s, hhl], fun _ => ⟨a, 0, rfl, hba.lt, fun j u hu => by
        obtain ⟨x, hx, rfl⟩ := u32s_at hu
        rw [Nat.zero_add, hba.cell]
        exact cds32_at (by rw [List.getElem?_append_left (List.getElem?_eq_some_iff.1 hx).1]; exact hx)⟩⟩
      have hall : ∀ x ∈ heads g b, x < 4294967296 := by
        intro x hx
        unfold heads pks at hx
        rcases List.mem_cons.1 hx with rfl | hx
        · exact hg
        rcases List.mem_cons.1 hx with rfl | hx
        · have := HNL.out; omega
        · obtain ⟨j, _, rfl⟩ := List.mem_map.1 hx
          exact pkw_lt HO.out j _
      have BA2 := Lib.hid hba
      have V2 := Lib.hid hv2
      have ALL := Lib.hid hall
      have HH := Lib.hid hhl
      have e11 : (K : Int) + 2 = (K2 : Int) := by omega
      have hKM : (K2 : Int) ≤ (M : Int) := by have := HM.out; omega
      have hKM2 : (K2 : Int) < (M : Int) := by have := HM.out; omega
      have hKb2 : K2 ≤ 2503 := by omega
      have HK2 := Lib.hid hK2
      clear hst hba hv2 hall hhl hK2
      go_wp2_with fail
      refine (octetsOf_w _ (some ⟨a, 0, none⟩) K2 M (heads g b) ALL.out V2.out (by omega) (by unfold maxLen; omega) (by omega)).mono ?_
      rintro e W3 ⟨A3, n3, c3, rfl, hn3, hs3, hk3, hb3⟩
      have S3 := Lib.hid hs3
      have K3 := Lib.hid hk3
      have hc3 := hs3.cap
      have hn3' : n3 ≤ 100000 := by omega
      clear hn3 hs3 hk3 hb3
      go_wp2_with fail
      refine (sum32_w _ A3 n3 c3 (octW (heads g b)) (octW_oct _) (S3.out.vw (by omega)) hc3.1 hc3.2 hn3').mono ?_
      rintro e w' ⟨rfl, rfl⟩
      have B3 := Lib.hid (BA2.out.keepS K3.out (by simp))
      have x3 : W3.cell? ⟨a, K2, none⟩ = some (.int .u32 0) := by rw [B3.out.cell]; exact cds32_at (by rw [List.getElem?_append_right (by rw [HH.out]; omega), HH.out, Nat.sub_self]; rfl)
      have z3 := B3.out.frozen K2
      clear hc3
      go_wp2_with fail
      go_ret
      have B4 := B3.out.set_ K2 (.int .u32 (crc (octW (heads g b)) : Int))
      rw [cds32_set] at B4
      have hw4 : (heads g b ++ [0]).set K2 (crc (octW (heads g b))) = wordsF g b := by
        unfold wordsF
        rw [List.set_append_right _ _ (by rw [HH.out]; omega), HH.out, Nat.sub_self]; rfl
      rw [hw4] at B4
      have hwl : (wordsF g b).length = M := by unfold wordsF; rw [List.length_append, HH.out, List.length_singleton, HK2.out, HM.out]
      refine ⟨some ⟨a, 0, none⟩, M, M, rfl, by rw [HM.out, HK.out], ?_, (KW.out.chain0 (Nat.le_refl _) K3.out).setN ha0, fun x hx => by rcases List.mem_singleton.1 hx with rfl; exact ha0⟩
      unfold Sl
      have hul : (u32s (wordsF g b)).length = M * 1 := by unfold u32s; rw [List.length_map, hwl, Nat.mul_one]
      exact ⟨hul, .inr ⟨a, M, cds32 (wordsF g b), rfl, Nat.zero_le _, B4, Nat.le_refl _, by unfold maxLen; omega, by unfold cds32; rw [List.size_toArray, hul], by unfold cds32; exact List.take_of_length_le (by rw [hul]; exact Nat.le_refl _)⟩⟩
end Go.Proofs.Ytfkbcflgbjncdaa
