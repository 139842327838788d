/- The reference's ledger: Image; and the ledger's own Clone. -/
import Derived.Test.YthpngafglljgnaaLMark
import Derived.Deep.DeepCutAuto
namespace Go.Proofs.Ythpngafglljgnaa
set_option linter.unusedVariables false
set_option linter.unusedSimpArgs false
open Go.RowKit
def AV (w wr : World) (A : Option Addr) (n c : Nat) (L : List Int) : Prop := Sl wr 5 1 A n c (octs L) ∧ Keep w.heap.size [] w wr ∧ ∀ x, x ∈ blks A → w.heap.size ≤ x
theorem AV.add {w wr w1 w3 : World} {A A2 : Option Addr} {n n' c c2 : Nat} {L L' : List Int} (h : AV w wr A n c L) (hk : Keep wr.heap.size [] wr w1) (hs3 : Sl w3 5 1 A2 (n + n') c2 (octs L ++ octs L')) (hk3 : Keep w1.heap.size (blks A) w1 w3) (hb3 : ∀ g, g ∈ blks A2 → g ∈ blks A ∨ g = w1.heap.size) : AV w w3 A2 (n + n') c2 (L ++ L') := by
  refine ⟨by simpa [octs] using hs3, (h.2.1.chain0 (Nat.le_refl _) hk).chain (Nat.le_refl _) hk3 h.2.2, fun x hx => ?_⟩
  rcases hb3 x hx with h' | h'
  · exact h.2.2 x h'
  · have := h.2.1.size; have := hk.size; omega
theorem AV.len {w wr : World} {A : Option Addr} {n c : Nat} {L : List Int} (h : AV w wr A n c L) : n = L.length := by
  have := h.1.1; simp [octs] at this; omega
theorem encM_len (x : Mo) : (encM x).length = 10 := by simp [encM, be_length]
theorem imageM_len : ∀ (M : List Mo), (imageM M).length = 10 * M.length
  | [] => rfl
  | x :: M => by
    have := imageM_len M
    simp only [imageM, List.flatMap_cons, List.length_append, encM_len, List.length_cons] at this ⊢
    omega
theorem imageM_take (M : List Mo) (k : Nat) (x : Mo) (h : M[k]? = some x) : imageM (M.take (k + 1)) = imageM (M.take k) ++ be x.n 2 ++ be (maskN x.n x.s : Int) 8 := by
  rw [List.take_add_one, h]
  simp [imageM, encM]
/-- what holds of every source -/
def MG (q : Nat) (M : List Mo) : Prop := ∀ x ∈ M, (0 ≤ x.n ∧ x.n ≤ 65535) ∧ x.s.length ≤ q ∧ x.s.Nodup ∧ ∀ y ∈ x.s, 1 ≤ y ∧ y ≤ x.n
theorem MG.b {q : Nat} {M : List Mo} (h : MG q M) : MB q M := fun x hx => ⟨(h x hx).1, (h x hx).2.1⟩
theorem mask_step {N : Int} {S : List Int} {j : Nat} {y : Int} (hy : S[j]? = some y) : maskN N (S.take (j + 1)) = if N - y < 64 then maskN N (S.take j) + 2 ^ (N - y).toNat else maskN N (S.take j) := by
  rw [List.take_add_one, hy]
  exact maskN_snoc N (S.take j) y
theorem mask_bd {N : Int} {S : List Int} (j : Nat) (hn : S.Nodup) (hx : ∀ x ∈ S, 1 ≤ x ∧ x ≤ N) : maskN N (S.take j) < 18446744073709551616 :=
  mask_lt N _ (hn.sublist (List.take_sublist _ _)) (fun x h => (hx x (List.mem_of_mem_take h)).2)
theorem shl_add {mm d : Nat} (h : mm + 2 ^ d < 18446744073709551616) : IntKind.u64.wrap ((mm : Int) + IntKind.u64.wrap ((2 : Int) ^ d)) = ((mm + 2 ^ d : Nat) : Int) := by
  have e : (2 : Int) ^ d = ((2 ^ d : Nat) : Int) := by simp
  rw [e]
  obtain ⟨x, hx⟩ : ∃ x, 2 ^ d = x := ⟨_, rfl⟩
  rw [hx] at h ⊢
  rw [IntKind.wrap_u64, IntKind.wrap_u64]
  omega
set_option maxRecDepth 10000 in
set_option maxHeartbeats 4000000 in
theorem rimage_any (w : World) (cs : Array Value) (M : List Mo) (q : Nat) (hq : q ≤ 1000) (hB : MG q M) (hR : RV w cs M) : Calls Try.prog 17 #[.agg cs] w (NewOcts w (imageM M)) := by
  have k0 : Keep w.heap.size [] w (w.alloc (.cells cs 40)) := (Keep.refl _ _ w).alloc (Nat.le_refl _) _
  have R0 := Lib.hid (hR.keep0 k0)
  have B1 := Lib.hid (Blk.new w 40 cs)
  have K0 := Lib.hid k0
  have ML := Lib.hid hR.ml
  have HB := Lib.hid hB
  have HQ := Lib.hid hq
  obtain ⟨i0, hi0, hz0, hz1, hz2⟩ := info_parts infoU8
  obtain ⟨W, hW⟩ : ∃ W, W = w.alloc (.cells cs 40) := ⟨_, rfl⟩
  clear hR hB hq k0
  go_enter Try.func17, Try.ntmps17
  go_wp2_with fail
  rw [← hW] at R0 B1 K0 ⊢
  clear hW
  go_loopw [3, 4] (fun u v wr => ∃ (k : Nat) (A : Option Addr) (n c : Nat), k ≤ 16 ∧ v = .int .i64 k ∧ u = .slice A n c ∧ AV W wr A n c (imageM (M.take k))) (fun _ v _ => 16 - (intOf v).toNat)
  case atStart => exact ⟨0, none, 0, 0, by omega, rfl, rfl, Sl.nil _ _ _, Keep.refl _ _ _, by simp [blks]⟩
  case round =>
    obtain ⟨k, A, n, c, hk, rfl, rfl, hav⟩ := hrel
    obtain ⟨W1, rfl⟩ : ∃ x, x = wr := ⟨_, rfl⟩
    have AV0 := Lib.hid hav
    have KW := Lib.hid hav.2.1
    have hnl : n ≤ 160 := by have h1 := hav.len; have h2 := imageM_len (M.take k); have h3 := List.length_take_le k M; omega
    clear hav
    by_cases hlt : k < 16
    · have hk16 : (k : Int) < 16 := by omega
      obtain ⟨x, hx⟩ : ∃ x, M[k]? = some x := ⟨_, List.getElem?_eq_getElem (by have := ML.out; omega)⟩
      obtain ⟨X, m, cx, e1, e2, hv, hmc, hcm, _⟩ := R0.out.at_ k x hx
      obtain ⟨⟨n0, n1⟩, hl, hnd, hrg⟩ := HB.out x (List.mem_of_getElem? hx)
      have hml : m = x.s.length := by have := hv.1; simp [nums] at this; omega
      have hm1 : m ≤ 1000 := by have := HQ.out; omega
      have hmcI : (m : Int) ≤ (cx : Int) := by omega
      have hcI : (cx : Int) ≤ 9223372036854775807 := by unfold maxLen at hcm; omega
      have E1 := Lib.hid e1
      have E2 := Lib.hid e2
      have HV := Lib.hid hv
      have HX := Lib.hid hx
      have HND := Lib.hid hnd
      have HRG := Lib.hid hrg
      have HML := Lib.hid hml
      clear e1 e2 hv hx hnd hrg hml hl hmc hcm
      go_wp2_with fail
      go_loopw [5, 6] (fun u v wr => ∃ (j : Nat), j ≤ m ∧ v = .int .i64 j ∧ u = .int .u64 (maskN x.n (x.s.take j)) ∧ Keep W1.heap.size [] W1 wr) (fun _ v _ => m - (intOf v).toNat)
      case atStart => exact ⟨0, Nat.zero_le _, rfl, rfl, Keep.refl _ _ _⟩
      case round =>
        obtain ⟨j, hj, rfl, rfl, hkj⟩ := hrel
        have KJ := Lib.hid hkj
        have KJ2 := Lib.hid (KW.out.chain0 (Nat.le_refl _) hkj)
        clear hkj
        have c0 : wr.cell? ⟨w.heap.size, k * 2, none⟩ = some (.int .i64 x.n) := ((B1.out.keepS KJ2.out (by simp)).cell _).trans E1.out
        have c1 : wr.cell? ⟨w.heap.size, k * 2 + 1, none⟩ = some (.slice X m cx) := ((B1.out.keepS KJ2.out (by simp)).cell _).trans E2.out
        have hbd := mask_bd j HND.out HRG.out
        by_cases hjm : j < m
        · have hjx : (j : Int) < (m : Int) := by omega
          obtain ⟨bb, o, y, rfl, hy, cy⟩ := num_at (HV.out.keep0 KJ2.out) hjm
          have hstep := mask_step (N := x.n) hy
          obtain ⟨y0, y1⟩ := HRG.out y (List.mem_of_getElem? hy)
          have hbd' := mask_bd (j + 1) HND.out HRG.out
          obtain ⟨mm, hmm⟩ : ∃ mm, maskN x.n (x.s.take j) = mm := ⟨_, rfl⟩
          rw [hmm] at hstep hbd ⊢
          have HS := Lib.hid hstep
          clear hmm hy
          by_cases h64 : x.n - y < 64
          · obtain ⟨d, hd⟩ : ∃ d : Nat, x.n - y = (d : Int) := ⟨(x.n - y).toNat, by omega⟩
            have hd64 : d < 64 := by omega
            rw [hd, Int.toNat_natCast, if_pos (by omega)] at hstep
            have HS2 := Lib.hid hstep
            rw [hstep] at hbd'
            have HW2 := Lib.hid (shl_add hbd')
            clear hstep
            go_wp2_with fail
            go_quiet (fail)
            go_wp2_with fail
            go_roundw
            case rel => exact ⟨j + 1, by omega, by go_num, by rw [HS2.out, ← HW2.out], KJ.out.drewN _⟩
            case measure => simp [intOf] <;> omega
          · rw [if_neg h64] at hstep
            have HS2 := Lib.hid hstep
            clear hstep
            go_wp2_with fail
            go_quiet (fail)
            go_wp2_with fail
            go_roundw
            case rel => exact ⟨j + 1, by omega, by go_num, by rw [HS2.out], KJ.out.drewN _⟩
            case measure => simp [intOf] <;> omega
        · obtain rfl : j = m := by omega
          have hfull : x.s.take j = x.s := List.take_of_length_le (by rw [HML.out]; exact Nat.le_refl _)
          rw [hfull] at hbd ⊢
          obtain ⟨mm, hmm⟩ : ∃ mm, maskN x.n x.s = mm := ⟨_, rfl⟩
          have HMM := Lib.hid hmm
          rw [hmm] at hbd ⊢
          clear hmm hfull
          have w0 : IntKind.u64.wrap x.n = x.n := by rw [IntKind.wrap_u64]; omega
          go_wp2_with fail
          refine (refuint_any _ x.n n0 (by omega) 2 (by omega) (by omega)).mono ?_
          rintro e w3 ⟨A1, n1', c1', rfl, hn, hs, hk1, hb⟩
          have hn2 : n1' = 2 := by rw [hn, be_length]
          subst hn2
          have S1 := Lib.hid hs
          have K1 := Lib.hid (KJ.out.chain0 (Nat.le_refl _) hk1)
          clear hn hs hb
          go_wp2_with (at_builtin
                       refine wpList_appV _ rfl (.tmp 40) (.tmp 46) 33 rfl 5 i0 _ 1 1 Try.underlying33 hi0 hz0 hz1 hz2 rfl (by omega) A n c (octs (imageM (M.take k))) rfl (by exact AV0.out.1.keep0 K1.out) A1 2 c1' (octs (be x.n 2)) rfl (by exact S1.out.vw (by omega)) (oct_one _) (by omega) (by omega) ?_
                       intro A2 c2 w4 hs4 hk4 hb4
                       have AV1 := Lib.hid (AV0.out.add K1.out hs4 hk4 hb4)
                       clear hs4 hk4 hb4)
          refine (refuint_any _ (mm : Int) (by omega) (by omega) 8 (by omega) (by omega)).mono ?_
          rintro e w5 ⟨A3, n3, c3, rfl, hn, hs, hk5, hb⟩
          have hn8 : n3 = 8 := by rw [hn, be_length]
          subst hn8
          have S3 := Lib.hid hs
          have K5 := Lib.hid hk5
          clear hn hs hb hk5
          go_wp2_with (at_builtin
                       refine wpList_appV _ rfl (.tmp 48) (.tmp 50) 33 rfl 5 i0 _ 1 1 Try.underlying33 hi0 hz0 hz1 hz2 rfl (by omega) A2 (n + 2) c2 (octs (imageM (M.take k) ++ be x.n 2)) rfl (by exact AV1.out.1.keep0 K5.out) A3 8 c3 (octs (be (mm : Int) 8)) rfl (by exact S3.out.vw (by omega)) (oct_one _) (by omega) (by omega) ?_
                       intro A4 c4 w6 hs6 hk6 hb6
                       have AV2 := Lib.hid (AV1.out.add K5.out hs6 hk6 hb6)
                       clear hs6 hk6 hb6)
          go_roundw
          case rel =>
            refine ⟨k + 1, A4, n + 2 + 8, c4, by omega, by go_num, rfl, ?_⟩
            rw [imageM_take M k x HX.out, HMM.out]; exact AV2.out
          case measure => simp [intOf] <;> omega
    · obtain rfl : k = 16 := by omega
      go_wp2_with fail
      go_ret
      have hfull : M.take 16 = M := List.take_of_length_le (by rw [ML.out]; exact Nat.le_refl _)
      have h := AV0.out
      rw [hfull] at h
      exact ⟨A, n, c, rfl, h.len, h.1, K0.out.chain0 (Nat.le_refl _) h.2.1, fun x hx => Nat.le_trans K0.out.size (h.2.2 x hx)⟩
def zC : List Value := .bool false :: (List.replicate 16 [Value.int .i64 0, Value.int .u64 0]).flatten
theorem infoLd : (Try.prog.info? 54).map (·.size) = some 33 := by kernel_rfl
theorem rcells_one : ∀ (L : List Rc), ∀ v ∈ L.flatMap rcells, v.oneCell' = true := by
  intro L v hv
  obtain ⟨r, _, h⟩ := List.mem_flatMap.1 hv
  simp [rcells] at h
  rcases h with rfl | rfl <;> rfl
set_option maxRecDepth 10000 in
set_option maxHeartbeats 4000000 in
theorem lclone_any (w : World) (g : Nat) (L : List Rc) (hL : Led w g L) : Calls Try.prog 32 #[bptr g] w fun e w' => ∃ g', e = .returned (bptr g') ∧ g' = w.heap.size ∧ Led w' g' L ∧ Keep w.heap.size [] w w' := by
  have HL := Lib.hid hL
  have HM := Lib.hid hL.made
  have hls : (lcells L).length = 33 := by have := lcells_size hL.1; simpa using this
  have ho : (lcells L).toArray.all (·.oneCell') = true := all_oneCell_toArray (fun v hv => by
    rcases List.mem_cons.1 hv with rfl | hv
    · rfl
    · exact rcells_one L v hv)
  have hb : Blk w g 54 (lcells L).toArray := hL.2.1
  obtain ⟨l, hl⟩ : ∃ l, lcells L = l := ⟨_, rfl⟩
  rw [hl] at hls ho hb
  have HLS := Lib.hid hls
  have HO := Lib.hid ho
  have HB := Lib.hid hb
  have HE := Lib.hid hl
  have BZ : Hid (Blk (w.alloc (.cells zC.toArray 54)) w.heap.size 54 zC.toArray) := Lib.hid (Blk.new w _ _)
  have KZ : Hid (Keep w.heap.size [] w (w.alloc (.cells zC.toArray 54))) := Lib.hid ((Keep.refl _ _ w).alloc (Nat.le_refl _) _)
  clear hL hls ho hb hl
  go_enter Try.func32, Try.ntmps32
  go_wp2_with fail
  refine (lok_any _ g HM.out).mono ?_
  rintro e w' ⟨rfl, rfl⟩
  go_wp2_with (first
    | (refine wpList_load_mid rfl 54 (.tmp 8) rfl g 0 rfl l _ HB.out.range Try.underlying54 rfl (by rw [infoLd]; simp [HLS.out]) ?_)
    | (refine wpList_store_mid rfl 54 (.tmp 3) (.tmp 9) rfl w.heap.size 0 l.toArray rfl rfl (BZ.out.there 0 _ (by simp [HLS.out, zC])) (by rw [infoLd]; simp [HLS.out]) HO.out ?_))
  go_ret
  have hb := BZ.out.setAll (vs := l.toArray) (by simp [HLS.out, zC])
  refine ⟨_, rfl, rfl, ⟨HL.out.1, ?_, HL.out.2.2⟩, Keep.setCells (w := w) (B := w.heap.size) (S := []) (g := w.heap.size) (.inl (Nat.le_refl _)) l 0 _ KZ.out⟩
  rw [HE.out]
  exact hb
end Go.Proofs.Ythpngafglljgnaa
