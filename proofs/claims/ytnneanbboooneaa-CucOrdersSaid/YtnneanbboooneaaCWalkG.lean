/- Decode. -/
import Derived.Test.YtnneanbboooneaaCDec
namespace Go.Proofs.Ytnneanbboooneaa
set_option linter.unusedVariables false
set_option linter.unusedSimpArgs false
open Go.RowKit
set_option maxHeartbeats 1000000 in
theorem cdec_nil (w : World) (X : Option Addr) (c : Nat) : Calls Try.prog 17 #[.slice X 0 c] w (DPost w (decP [])) := by
  go_enter Try.func17, Try.ntmps17
  go_wp2_with fail
  refine bodyPost_ret (v := .tuple #[.int .i64 0, fagg 0 0, .int .i64 0, .int .i64 3]) (by simp [results, Try.results17, go_sem]) rfl ⟨rfl, ?_⟩
  repeat (first | exact (Keep.refl _ _ w).alloc (Nat.le_refl _) _ | refine Keep.setN ?_ (Nat.le_refl _))
set_option maxHeartbeats 1000000 in
theorem cdec_bad (w : World) (b o m c : Nat) (x : Int) (R : List Int) (hm : 0 < m) (hmc : m ≤ c) (hv : Vw w (some ⟨b, o, none⟩) m 1 (octs (x :: R))) (hx : x < 16 ∨ 31 < x) : Calls Try.prog 17 #[.slice (some ⟨b, o, none⟩) m c] w (DPost w (decP (x :: R))) := by
  have HD : Hid (decP (x :: R) = ⟨0, 0, 0, 0, 4⟩) := Lib.hid (if_pos hx)
  have hm1 : (1 : Int) ≤ (m : Int) := by omega
  have hm2 : (m : Int) ≤ (c : Int) := by omega
  have c0 := vw_head (hv.alloc (.cells #[.int .i64 0, .int .i64 0] 23))
  by_cases h1 : x < 16
  · clear hx
    go_enter Try.func17, Try.ntmps17
    go_wp2_with fail
    rw [HD.out]
    refine bodyPost_ret (v := .tuple #[.int .i64 0, fagg 0 0, .int .i64 0, .int .i64 4]) (by simp [results, Try.results17, go_sem]) rfl ⟨rfl, ?_⟩
    repeat (first | exact (Keep.refl _ _ w).alloc (Nat.le_refl _) _ | refine Keep.setN ?_ (Nat.le_refl _))
  · have h2 : 31 < x := by omega
    clear hx
    go_enter Try.func17, Try.ntmps17
    go_wp2_with fail
    rw [HD.out]
    refine bodyPost_ret (v := .tuple #[.int .i64 0, fagg 0 0, .int .i64 0, .int .i64 4]) (by simp [results, Try.results17, go_sem]) rfl ⟨rfl, ?_⟩
    repeat (first | exact (Keep.refl _ _ w).alloc (Nat.le_refl _) _ | refine Keep.setN ?_ (Nat.le_refl _))
set_option maxHeartbeats 4000000 in
theorem cdec_ok (w : World) (b o m c : Nat) (x : Int) (R : List Int) (i C F : Nat) (hO : Oct R) (hm : m = R.length + 1) (hmc : m ≤ c) (hcm : c ≤ maxLen) (hmb : m ≤ 140737488355328) (hv : Vw w (some ⟨b, o, none⟩) m 1 (octs (x :: R))) (hx : x = 16 + (i : Int)) (hi : i < 16)
    (hC : cOf x = C) (hF : fOf x = F) : Calls Try.prog 17 #[.slice (some ⟨b, o, none⟩) m c] w (DPost w (decP (x :: R))) := by
  have hx0 : 16 ≤ x := by omega
  have hx1 : x ≤ 31 := by omega
  have hok := okF_of hx0 hx1
  have hsz := sizeF_of hx0 hx1
  have hbd := cOf_bd hx0 hx1
  rw [hC, hF] at hok hsz hbd
  obtain ⟨hc1, hc4, hf3⟩ := hbd
  have hm1 : (1 : Int) ≤ (m : Int) := by omega
  have hm2 : (m : Int) ≤ (c : Int) := by omega
  have hm3 : (c : Int) ≤ 9223372036854775807 := by unfold maxLen at hcm; omega
  have hCi : C = i / 4 + 1 := by rw [← hC]; unfold cOf; omega
  have hFi : F = i % 4 := by rw [← hF]; unfold fOf; omega
  have AT := allF_at 16 i hi
  rw [show ((i / 4 : Nat) : Int) + 1 = (C : Int) from by omega, show ((i % 4 : Nat) : Int) = (F : Int) from by omega] at AT
  have HAT := Lib.hid AT
  have HSZ := Lib.hid hsz
  have HO := Lib.hid hO
  have HLT := Lib.hid (vw_lt hv)
  have D0 := Lib.hid (DC.start (t := 23) hv)
  have HX := Lib.hid (And.intro hx0 hx1)
  have hi16 : (i : Int) < 16 := by omega
  have c0 := vw_head D0.out.vw
  have HCF := Lib.hid (And.intro hC hF)
  have HS8 : Hid (IntKind.u8.wrap (x - 16) = (i : Int)) := Lib.hid (by rw [u8_wrap]; omega)
  clear hx hCi hFi AT hsz hO hok hv hC hF
  have hs8 : IntKind.u8.wrap (x - 16) = (i : Int) := HS8.out
  go_enter Try.func17, Try.ntmps17
  go_wp2_with fail
  refine wp_region_held_drew (S := (fun w' => w'.cell? ⟨b, o, none⟩ = some (.int .u8 x))) (by kernel_rfl) (by exact c0) (fun hHeld => ?_)
  refine wpAnyH_take (i := 1) (oi := { dst := some 27, op := Op.move (Operand.tmp 0), type := 25, pos := _, after := #[], guard := none }) (v := _) rfl (by kernel_rfl) (by kernel_rfl) (by kernel_rfl) (fun _ _ _ h => h) (Or.inl ⟨by rfl, by (intro wS hSw; (try dsimp only at hSw); go_simp; try with_reducible rfl)⟩) (by assumption) ?_
  (try simp only [Act.put, List.setIfInBounds_toArray, List.set_cons_zero, List.set_cons_succ])
  refine wpAnyH_take (i := 2) (oi := { dst := some 28, op := Op.indexAddr 25 (Operand.tmp 27) (Operand.const (Value.int IntKind.i64 0)), type := 0, pos := _, after := #[{ on := 1, ground := Ground.data }], guard := none }) (v := _) rfl (by kernel_rfl) (by kernel_rfl) (by kernel_rfl) (fun _ _ _ h => h) (Or.inl ⟨by rfl, by (intro wS hSw; (try dsimp only at hSw); go_simp; try with_reducible rfl)⟩) (by assumption) ?_
  (try simp only [Act.put, List.setIfInBounds_toArray, List.set_cons_zero, List.set_cons_succ])
  refine wpAnyH_take (i := 3) (oi := { dst := some 29, op := Op.load 5 (Operand.tmp 28), type := 5, pos := _, after := #[{ on := 2, ground := Ground.data }], guard := none }) (v := _) rfl (by kernel_rfl) (by kernel_rfl) (by kernel_rfl) (fun _ _ _ h => h) (Or.inl ⟨by rfl, by (intro wS hSw; (try dsimp only at hSw); go_simp; try with_reducible rfl)⟩) (by assumption) ?_
  (try simp only [Act.put, List.setIfInBounds_toArray, List.set_cons_zero, List.set_cons_succ])
  refine wpAnyH_take (i := 4) (oi := { dst := some 30, op := Op.binOp BinOp.sub 5 (Operand.tmp 29) (Operand.const (Value.int IntKind.u8 16)) 5, type := 5, pos := _, after := #[{ on := 3, ground := Ground.data }], guard := none }) (v := _) rfl (by kernel_rfl) (by kernel_rfl) (by kernel_rfl) (fun _ _ _ h => h) (Or.inl ⟨by rfl, by (intro wS hSw; (try dsimp only at hSw); go_simp; try with_reducible rfl)⟩) (by assumption) ?_
  (try simp only [Act.put, List.setIfInBounds_toArray, List.set_cons_zero, List.set_cons_succ])
  refine wpAnyH_ready (rs := [0, 7]) (by kernel_rfl) (by simp) ?_
  refine (AllReadyH.cons (o := { dst := some 26, op := Op.call { callee := Callee.value (Operand.func 26), args := #[], argTypes := #[] }, type := 51, pos := _, after := #[], guard := none }) rfl (fun K hK => ?_) (AllReadyH.cons (o := { dst := some 6, op := Op.alloc 23, type := 0, pos := _, after := #[], guard := none }) rfl (fun K hK => ?_) AllReadyH.nil))
  · go_simp
    refine (all_any _).mono ?_
    rintro e w1 ⟨A, ca, rfl, hs, hk, hbl⟩
    first
      | have E1 := Lib.hid (D7.out.next hk)
      | have D1 := Lib.hid (D0.out.drewC.next hk)
    have hcap := hs.cap
    have hca1 : (16 : Int) ≤ (ca : Int) := by omega
    have hca2 : (ca : Int) ≤ 9223372036854775807 := by have := hcap.2; unfold maxLen at this; omega
    obtain ⟨ga, hAe, hga, e0⟩ := hs.cell (j := i * 2) (by omega)
    obtain ⟨gb, hBe, _, e1⟩ := hs.cell (j := i * 2 + 1) (by omega)
    have e2 := (hs.alloc (.cells #[.int .i64 0, .int .i64 0] 23)).cell (j := i * 2) (by omega)
    have e3 := (hs.alloc (.cells #[.int .i64 0, .int .i64 0] 23)).cell (j := i * 2 + 1) (by omega)
    subst hAe
    obtain rfl : ga = gb := by injection hBe with h; injection h
    obtain ⟨gc, hCe, _, e2⟩ := e2
    obtain rfl : ga = gc := by injection hCe with h; injection h
    obtain ⟨gd, hDe, _, e3⟩ := e3
    obtain rfl : ga = gd := by injection hDe with h; injection h
    rw [HAT.out.1] at e0 e2
    rw [HAT.out.2] at e1 e3
    first
      | (have f0 := E1.out.loc.frozen 0
         have f1 := E1.out.loc.frozen 1
         obtain ⟨q0, q1⟩ := fcell E1.out.loc)
      | skip
    clear hs hk hbl hcap hBe hCe hDe hga
    refine hK.out _ _ (by first | exact vw_head DX.out.dc.vw | exact vw_head D7.out.dc.vw | exact vw_head E1.out.dc.vw | exact vw_head D1.out.vw) (fun hHeld => ?_)
    clear hK K
    (try simp only [Act.put, List.setIfInBounds_toArray, List.set_cons_zero, List.set_cons_succ])
    refine wpAnyH_take (i := 5) (oi := { dst := some 31, op := Op.indexAddr 51 (Operand.tmp 26) (Operand.tmp 30), type := 0, pos := _, after := #[{ on := 0, ground := Ground.data }, { on := 4, ground := Ground.data }], guard := none }) (v := _) rfl (by kernel_rfl) (by kernel_rfl) (by kernel_rfl) (fun _ _ _ h => h) (Or.inl ⟨by rfl, by (intro wS hSw; (try dsimp only at hSw); go_simp; try with_reducible rfl)⟩) (by assumption) ?_
    (try simp only [Act.put, List.setIfInBounds_toArray, List.set_cons_zero, List.set_cons_succ])
    refine wpAnyH_ready (rs := [6, 7]) (by kernel_rfl) (by simp) ?_
    refine (AllReadyH.cons (o := { dst := some 32, op := Op.load 23 (Operand.tmp 31), type := 23, pos := _, after := #[{ on := 5, ground := Ground.data }], guard := none }) rfl (fun K hK => ?_) (AllReadyH.cons (o := { dst := some 6, op := Op.alloc 23, type := 0, pos := _, after := #[], guard := none }) rfl (fun K hK => ?_) AllReadyH.nil))
    · go_simp
      refine hK.out _ _ (by first | exact vw_head DX.out.dc.vw | exact vw_head D7.out.dc.vw | exact vw_head E1.out.dc.vw | exact vw_head D1.out.vw) (fun hHeld => ?_)
      clear hK K
      (try simp only [Act.put, List.setIfInBounds_toArray, List.set_cons_zero, List.set_cons_succ])
      refine wpAnyH_ready (rs := [7]) (by kernel_rfl) (by simp) ?_
      refine (AllReadyH.cons (o := { dst := some 6, op := Op.alloc 23, type := 0, pos := _, after := #[], guard := none }) rfl (fun K hK => ?_) AllReadyH.nil)
      go_simp
      first
        | have D7 := Lib.hid (D1.out.local HLT.out)
        | have D7 := Lib.hid (D0.out.drewC.localAt HLT.out (w.heap.size + 1) (by simp))
      have f0 := D7.out.loc.frozen 0
      have f1 := D7.out.loc.frozen 1
      refine hK.out _ _ (by first | exact vw_head DX.out.dc.vw | exact vw_head D7.out.dc.vw | exact vw_head E1.out.dc.vw | exact vw_head D1.out.vw) (fun hHeld => ?_)
      clear hK K
      (try simp only [Act.put, List.setIfInBounds_toArray, List.set_cons_zero, List.set_cons_succ])
      refine wpAnyH_ready (rs := [8]) (by kernel_rfl) (by simp) ?_
      refine (AllReadyH.cons (o := { dst := none, op := Op.store 23 (Operand.tmp 6) (Operand.tmp 32), type := 0, pos := _, after := #[{ on := 7, ground := Ground.data }, { on := 6, ground := Ground.data }, { on := 0, ground := Ground.chain }, { on := 0, ground := Ground.phase }, { on := 1, ground := Ground.phase }, { on := 2, ground := Ground.phase }, { on := 3, ground := Ground.phase }, { on := 4, ground := Ground.phase }, { on := 5, ground := Ground.phase }, { on := 6, ground := Ground.phase }, { on := 7, ground := Ground.phase }], guard := none }) rfl (fun K hK => ?_) AllReadyH.nil)
      go_simp
      first
        | have DX := Lib.hid (E1.out.set (C : Int) (F : Int))
        | have DX := Lib.hid (D1.out.localC HLT.out (C : Int) (F : Int))
      refine hK.out _ _ (by first | exact vw_head DX.out.dc.vw | exact vw_head D7.out.dc.vw | exact vw_head E1.out.dc.vw | exact vw_head D1.out.vw) (fun hHeld => ?_)
      clear hK K
      (try simp only [Act.put, List.setIfInBounds_toArray, List.set_cons_zero, List.set_cons_succ])
      refine wpAnyH_done (by kernel_rfl) ?_ _
      obtain ⟨v, hv⟩ : ∃ v, v = w1.heap.size := ⟨_, rfl⟩
      obtain ⟨W, hW⟩ : ∃ W, W = (w1.alloc (.cells #[.int .i64 (C : Int), .int .i64 (F : Int)] 23)) := ⟨_, rfl⟩
      rw [← hW] at DX ⊢
      rw [← hv] at DX ⊢
      clear hHeld hW hv f0 f1
      try clear e2 e3
      try clear e0 e1
      try clear q0 q1
      try clear D7
      try clear E1
      try clear D1
      obtain ⟨d0, d1⟩ := fcell DX.out.loc
      by_cases hlen : R.length < C + F
      · have HD : Hid (decP (x :: R) = ⟨0, 0, 0, 0, 3⟩) := Lib.hid (decP_short hx0 hx1 (by rw [HCF.out.1, HCF.out.2]; exact hlen))
        have hl : (m : Int) < 1 + (C : Int) + (F : Int) := by omega
        go_wp2_with fail
        refine (csize_any _ C F (1 + (C : Int) + (F : Int)) HSZ.out).mono ?_
        rintro e w2 ⟨rfl, hk⟩
        have D2 := Lib.hid (DX.out.next hk)
        clear hk d0 d1
        obtain ⟨r0, r1⟩ := fcell D2.out.dc.res
        have g0 := D2.out.dc.res.frozen 0
        have g1 := D2.out.dc.res.frozen 1
        go_wp2_with fail
        rw [HD.out]
        refine bodyPost_ret (v := .tuple #[.int .i64 0, fagg 0 0, .int .i64 0, .int .i64 3]) (by simp [results, Try.results17, go_sem, r0, r1]) rfl ⟨rfl, ?_⟩
        repeat (first | exact D2.out.dc.keep | refine Keep.setN ?_ (Nat.le_refl _))
      · have hl : 1 + (C : Int) + (F : Int) ≤ (m : Int) := by omega
        have HL : Hid (¬ R.length < cOf x + fOf x) := Lib.hid (by rw [HCF.out.1, HCF.out.2]; exact hlen)
        have hlc : 1 + (C : Int) + (F : Int) ≤ (c : Int) := by omega
        go_wp2_with fail
        refine (csize_any _ C F (1 + (C : Int) + (F : Int)) HSZ.out).mono ?_
        rintro e w2 ⟨rfl, hk⟩
        have D2 := Lib.hid (DX.out.next hk)
        clear hk d0 d1
        obtain ⟨d0, d1⟩ := fcell D2.out.loc
        go_wp2_with fail
        refine (csize_any _ C F (1 + (C : Int) + (F : Int)) HSZ.out).mono ?_
        rintro e w3 ⟨rfl, hk⟩
        have D3 := Lib.hid (D2.out.next hk)
        clear hk d0 d1
        have HV3 : Hid (∀ n, n = C + F → Vw w3 (some ⟨b, o + 1, none⟩) n 1 (octs (R.take (C + F)))) := Lib.hid (fun n hn => by
          subst hn
          have h := ((D3.out.dc.vw.drop (k := 1) (by omega)).take (k := C + F) (by omega))
          simpa [octs, List.map_take] using h)
        go_wp2_with fail
        refine (rnew_any _ _ _ _ (R.take (C + F)) (by omega) (HV3.out _ (by omega))).mono ?_
        rintro e w4 ⟨g, A1, rfl, hr, hk, hg, _⟩
        have hvg : v < g := Nat.lt_of_lt_of_le D3.out.loc.lt hg
        have D4 : Hid (DG w w4 23 (some ⟨b, o, none⟩) m (x :: R) v C F g A1 (R.take (C + F))) := Lib.hid ⟨D3.out.next hk, hr, hvg⟩
        clear hr hk hg hvg D2 DX
        obtain ⟨d0, d1⟩ := fcell D4.out.dv.loc
        go_wp2_with fail
        refine (ruint_z _ g A1 _ C C rfl (oct_take HO.out _) (by omega) (by omega) (by simp; omega) D4.out.rd).mono ?_
        rintro e w5 ⟨rfl, A2, hr, hk, _⟩
        have D5 := Lib.hid (D4.out.next hr hk)
        obtain ⟨B, hB⟩ : ∃ B, beVal (R.take C) = B := ⟨_, rfl⟩
        obtain ⟨Lf, hLf⟩ : ∃ Lf, (R.drop C).take F = Lf := ⟨_, rfl⟩
        have hb1 : beVal (List.take C (List.take (C + F) R)) = B := by rw [List.take_take, Nat.min_eq_left (by omega)]; exact hB
        have hb2 : List.drop C (List.take (C + F) R) = Lf := by rw [List.drop_take, ← hLf]; congr 1; omega
        have hbb := beVal_bd C (R.take C) (oct_take HO.out C) (by simp; omega)
        rw [hB] at hbb
        have hB0 := hbb.1
        have hB1 : B < 4294967296 := by
          refine Int.lt_of_lt_of_le hbb.2 ?_
          have : C = 1 ∨ C = 2 ∨ C = 3 ∨ C = 4 := by omega
          rcases this with h | h | h | h <;> rw [h] <;> decide
        rw [hb2] at D5
        rw [hb1]
        have hLl : Lf.length = F := by rw [← hLf]; simp; omega
        have HLF : Hid (fineL x R = Lf) := Lib.hid (by unfold fineL; rw [HCF.out.1, HCF.out.2]; exact hLf)
        have HBT : Hid (decT x R = B * 256 + Lf.headD 0) := Lib.hid (by unfold decT; rw [HLF.out, HCF.out.1, hB])
        have HOf : Hid (Oct Lf) := Lib.hid (by rw [← hLf]; exact oct_take (oct_drop HO.out _) _)
        clear hr hk d0 d1 hB hLf hb1 hb2 hbb D4 D3
        obtain ⟨d0, d1⟩ := fcell D5.out.dv.loc
        go_wp2_with fail
        go_loopw [8, 9, 10, 52] (fun t _ _ j wr => ∃ (k : Nat) (X' : Option Addr) (τ : Int), k ≤ F ∧ j = .int .i64 k ∧ t = .int .i64 τ ∧ (τ = if k = 0 then B * 256 else B * 256 + Lf.headD 0) ∧ (∀ z ∈ (Lf.take k).drop 1, z = 0) ∧ DG w wr 23 (some ⟨b, o, none⟩) m (x :: R) v C F g X' (Lf.drop k)) (fun _ _ _ j _ => F - (intOf j).toNat)
        case atStart => exact ⟨0, A2, B * 256, Nat.zero_le _, rfl, rfl, rfl, by simp, D5.out⟩
        case round =>
          obtain ⟨k, X', τ, hkf, rfl, rfl, hτ, hall, hg⟩ := hrel
          have HT := Lib.hid hτ
          have HA := Lib.hid hall
          have G := Lib.hid hg
          clear hτ hall hg d0 d1
          by_cases hlt : k < F
          · have hkx : (k : Int) < (F : Int) := by omega
            obtain ⟨y, hy⟩ : ∃ y, Lf[k]? = some y := ⟨_, List.getElem?_eq_getElem (by omega)⟩
            have hyo := HOf.out y (List.mem_of_getElem? hy)
            obtain ⟨hy0, hy1⟩ := hyo
            have HY := Lib.hid hy
            clear hy
            go_wp2_with fail
            refine (ruint_z _ g X' _ 1 1 rfl (oct_drop HOf.out _) (by omega) (by omega) (by simp; omega) G.out.rd).mono ?_
            rintro e w6 ⟨rfl, X2, hr, hk, _⟩
            rw [take1 HY.out, beVal1]
            rw [List.drop_drop] at hr
            have G2 := Lib.hid (G.out.next hr hk)
            clear hr hk
            by_cases h0 : k = 0
            · subst h0
              have hτ0 : τ = B * 256 := HT.out
              subst hτ0
              go_wp2_with fail
              go_roundw
              case rel => exact ⟨1, X2, B * 256 + y, by omega, by go_num, rfl, by rw [headD_some HY.out]; rfl, take_one_drop _, G2.out⟩
              case measure => simp [intOf]; omega
            · have hk0 : ¬ (k : Int) = 0 := by omega
              by_cases hyz : y = 0
              · subst hyz
                go_wp2_with fail
                go_roundw
                case rel => exact ⟨k + 1, X2, τ, by omega, by go_num, rfl, by rw [HT.out, if_neg h0, if_neg (by omega)], take_next HY.out (by omega) rfl HA.out, G2.out⟩
                case measure => simp [intOf]; omega
              · have HD : Hid (decP (x :: R) = ⟨0, 0, 0, 0, 4⟩) := Lib.hid (decP_form hx0 hx1 HL.out (by rw [HLF.out]; exact fun h => hyz (h y (mem_drop1 HY.out (by omega)))))
                obtain ⟨r0, r1⟩ := fcell G2.out.dv.dc.res
                have g0 := G2.out.dv.dc.res.frozen 0
                have g1 := G2.out.dv.dc.res.frozen 1
                go_wp2_with fail
                rw [HD.out]
                refine bodyPost_ret (v := .tuple #[.int .i64 0, fagg 0 0, .int .i64 0, .int .i64 4]) (by simp [results, Try.results17, go_sem, r0, r1]) rfl ⟨rfl, ?_⟩
                repeat (first | exact G2.out.dv.dc.keep | refine Keep.setN ?_ (Nat.le_refl _))
          · obtain rfl : k = F := by omega
            have HD : Hid (decP (x :: R) = ⟨τ, (C : Int), (k : Int), 1 + (C : Int) + (k : Int), 0⟩) := Lib.hid (by
              have hz := HA.out
              rw [List.take_of_length_le (by omega)] at hz
              rw [decP_fine hx0 hx1 HL.out (by rw [HLF.out]; exact hz), HBT.out, HCF.out.1, HCF.out.2, HT.out]
              by_cases h0 : k = 0
              · rw [if_pos h0]
                have : Lf = [] := List.eq_nil_of_length_eq_zero (by omega)
                rw [this]; simp
              · rw [if_neg h0])
            have s0 := fcell G.out.dv.loc
            obtain ⟨r0, r1⟩ := fcell G.out.dv.dc.res
            go_wp2_with fail
            go_region_held3 (fun w' => w'.cell? ⟨v, 0, none⟩ = some (.int .i64 (C : Int)) ∧ w'.cell? ⟨v, 1, none⟩ = some (.int .i64 (k : Int)))
              (first | exact s0 | exact s9 | exact s10)
              (first
                | (go_at_call 14
                   refine (csize_any _ C k (1 + (C : Int) + (k : Int)) HSZ.out).mono ?_
                   rintro e w9 ⟨rfl, hk⟩
                   have D9 := Lib.hid (G.out.dv.next hk.undrew)
                   have s9 := fcell D9.out.loc
                   have g0 := D9.out.dc.res.frozen 0
                   have g1 := D9.out.dc.res.frozen 1
                   have q := fcell D9.out.dc.res
                   obtain ⟨q0, q1⟩ := q
                   have s10 : ((w9.setCell ⟨w.heap.size, 0, none⟩ (.int .i64 (C : Int))).setCell ⟨w.heap.size, 1, none⟩ (.int .i64 (k : Int))).cell? ⟨v, 0, none⟩ = some (.int .i64 (C : Int)) ∧ ((w9.setCell ⟨w.heap.size, 0, none⟩ (.int .i64 (C : Int))).setCell ⟨w.heap.size, 1, none⟩ (.int .i64 (k : Int))).cell? ⟨v, 1, none⟩ = some (.int .i64 (k : Int)) := fcell ((D9.out.loc.far (p := ⟨w.heap.size, 0, none⟩) (by have := D9.out.hv; simp only; omega) _).far (p := ⟨w.heap.size, 1, none⟩) (by have := D9.out.hv; simp only; omega) _)
                   clear hk))
            go_wp2_with fail
            rw [HD.out]
            refine bodyPost_ret (v := .tuple #[.int .i64 τ, fagg C k, .int .i64 (1 + (C : Int) + (k : Int)), .int .i64 0]) (by simp [results, Try.results17, go_sem, q0, q1]) rfl ⟨rfl, ?_⟩
            repeat (first | exact D9.out.dc.keep | refine Keep.setN ?_ (Nat.le_refl _))
    · go_simp
      first
        | have D7 := Lib.hid (D1.out.local HLT.out)
        | have D7 := Lib.hid (D0.out.drewC.localAt HLT.out (w.heap.size + 1) (by simp))
      have f0 := D7.out.loc.frozen 0
      have f1 := D7.out.loc.frozen 1
      refine hK.out _ _ (by first | exact vw_head DX.out.dc.vw | exact vw_head D7.out.dc.vw | exact vw_head E1.out.dc.vw | exact vw_head D1.out.vw) (fun hHeld => ?_)
      clear hK K
      (try simp only [Act.put, List.setIfInBounds_toArray, List.set_cons_zero, List.set_cons_succ])
      refine wpAnyH_ready (rs := [6]) (by kernel_rfl) (by simp) ?_
      refine (AllReadyH.cons (o := { dst := some 32, op := Op.load 23 (Operand.tmp 31), type := 23, pos := _, after := #[{ on := 5, ground := Ground.data }], guard := none }) rfl (fun K hK => ?_) AllReadyH.nil)
      go_simp
      refine hK.out _ _ (by first | exact vw_head DX.out.dc.vw | exact vw_head D7.out.dc.vw | exact vw_head E1.out.dc.vw | exact vw_head D1.out.vw) (fun hHeld => ?_)
      clear hK K
      (try simp only [Act.put, List.setIfInBounds_toArray, List.set_cons_zero, List.set_cons_succ])
      refine wpAnyH_ready (rs := [8]) (by kernel_rfl) (by simp) ?_
      refine (AllReadyH.cons (o := { dst := none, op := Op.store 23 (Operand.tmp 6) (Operand.tmp 32), type := 0, pos := _, after := #[{ on := 7, ground := Ground.data }, { on := 6, ground := Ground.data }, { on := 0, ground := Ground.chain }, { on := 0, ground := Ground.phase }, { on := 1, ground := Ground.phase }, { on := 2, ground := Ground.phase }, { on := 3, ground := Ground.phase }, { on := 4, ground := Ground.phase }, { on := 5, ground := Ground.phase }, { on := 6, ground := Ground.phase }, { on := 7, ground := Ground.phase }], guard := none }) rfl (fun K hK => ?_) AllReadyH.nil)
      go_simp
      first
        | have DX := Lib.hid (E1.out.set (C : Int) (F : Int))
        | have DX := Lib.hid (D1.out.localC HLT.out (C : Int) (F : Int))
      refine hK.out _ _ (by first | exact vw_head DX.out.dc.vw | exact vw_head D7.out.dc.vw | exact vw_head E1.out.dc.vw | exact vw_head D1.out.vw) (fun hHeld => ?_)
      clear hK K
      (try simp only [Act.put, List.setIfInBounds_toArray, List.set_cons_zero, List.set_cons_succ])
      refine wpAnyH_done (by kernel_rfl) ?_ _
      obtain ⟨v, hv⟩ : ∃ v, v = w1.heap.size := ⟨_, rfl⟩
      obtain ⟨W, hW⟩ : ∃ W, W = (w1.alloc (.cells #[.int .i64 (C : Int), .int .i64 (F : Int)] 23)) := ⟨_, rfl⟩
      rw [← hW] at DX ⊢
      rw [← hv] at DX ⊢
      clear hHeld hW hv f0 f1
      try clear e2 e3
      try clear e0 e1
      try clear q0 q1
      try clear D7
      try clear E1
      try clear D1
      obtain ⟨d0, d1⟩ := fcell DX.out.loc
      by_cases hlen : R.length < C + F
      · have HD : Hid (decP (x :: R) = ⟨0, 0, 0, 0, 3⟩) := Lib.hid (decP_short hx0 hx1 (by rw [HCF.out.1, HCF.out.2]; exact hlen))
        have hl : (m : Int) < 1 + (C : Int) + (F : Int) := by omega
        go_wp2_with fail
        refine (csize_any _ C F (1 + (C : Int) + (F : Int)) HSZ.out).mono ?_
        rintro e w2 ⟨rfl, hk⟩
        have D2 := Lib.hid (DX.out.next hk)
        clear hk d0 d1
        obtain ⟨r0, r1⟩ := fcell D2.out.dc.res
        have g0 := D2.out.dc.res.frozen 0
        have g1 := D2.out.dc.res.frozen 1
        go_wp2_with fail
        rw [HD.out]
        refine bodyPost_ret (v := .tuple #[.int .i64 0, fagg 0 0, .int .i64 0, .int .i64 3]) (by simp [results, Try.results17, go_sem, r0, r1]) rfl ⟨rfl, ?_⟩
        repeat (first | exact D2.out.dc.keep | refine Keep.setN ?_ (Nat.le_refl _))
      · have hl : 1 + (C : Int) + (F : Int) ≤ (m : Int) := by omega
        have HL : Hid (¬ R.length < cOf x + fOf x) := Lib.hid (by rw [HCF.out.1, HCF.out.2]; exact hlen)
        have hlc : 1 + (C : Int) + (F : Int) ≤ (c : Int) := by omega
        go_wp2_with fail
        refine (csize_any _ C F (1 + (C : Int) + (F : Int)) HSZ.out).mono ?_
        rintro e w2 ⟨rfl, hk⟩
        have D2 := Lib.hid (DX.out.next hk)
        clear hk d0 d1
        obtain ⟨d0, d1⟩ := fcell D2.out.loc
        go_wp2_with fail
        refine (csize_any _ C F (1 + (C : Int) + (F : Int)) HSZ.out).mono ?_
        rintro e w3 ⟨rfl, hk⟩
        have D3 := Lib.hid (D2.out.next hk)
        clear hk d0 d1
        have HV3 : Hid (∀ n, n = C + F → Vw w3 (some ⟨b, o + 1, none⟩) n 1 (octs (R.take (C + F)))) := Lib.hid (fun n hn => by
          subst hn
          have h := ((D3.out.dc.vw.drop (k := 1) (by omega)).take (k := C + F) (by omega))
          simpa [octs, List.map_take] using h)
        go_wp2_with fail
        refine (rnew_any _ _ _ _ (R.take (C + F)) (by omega) (HV3.out _ (by omega))).mono ?_
        rintro e w4 ⟨g, A1, rfl, hr, hk, hg, _⟩
        have hvg : v < g := Nat.lt_of_lt_of_le D3.out.loc.lt hg
        have D4 : Hid (DG w w4 23 (some ⟨b, o, none⟩) m (x :: R) v C F g A1 (R.take (C + F))) := Lib.hid ⟨D3.out.next hk, hr, hvg⟩
        clear hr hk hg hvg D2 DX
        obtain ⟨d0, d1⟩ := fcell D4.out.dv.loc
        go_wp2_with fail
        refine (ruint_z _ g A1 _ C C rfl (oct_take HO.out _) (by omega) (by omega) (by simp; omega) D4.out.rd).mono ?_
        rintro e w5 ⟨rfl, A2, hr, hk, _⟩
        have D5 := Lib.hid (D4.out.next hr hk)
        obtain ⟨B, hB⟩ : ∃ B, beVal (R.take C) = B := ⟨_, rfl⟩
        obtain ⟨Lf, hLf⟩ : ∃ Lf, (R.drop C).take F = Lf := ⟨_, rfl⟩
        have hb1 : beVal (List.take C (List.take (C + F) R)) = B := by rw [List.take_take, Nat.min_eq_left (by omega)]; exact hB
        have hb2 : List.drop C (List.take (C + F) R) = Lf := by rw [List.drop_take, ← hLf]; congr 1; omega
        have hbb := beVal_bd C (R.take C) (oct_take HO.out C) (by simp; omega)
        rw [hB] at hbb
        have hB0 := hbb.1
        have hB1 : B < 4294967296 := by
          refine Int.lt_of_lt_of_le hbb.2 ?_
          have : C = 1 ∨ C = 2 ∨ C = 3 ∨ C = 4 := by omega
          rcases this with h | h | h | h <;> rw [h] <;> decide
        rw [hb2] at D5
        rw [hb1]
        have hLl : Lf.length = F := by rw [← hLf]; simp; omega
        have HLF : Hid (fineL x R = Lf) := Lib.hid (by unfold fineL; rw [HCF.out.1, HCF.out.2]; exact hLf)
        have HBT : Hid (decT x R = B * 256 + Lf.headD 0) := Lib.hid (by unfold decT; rw [HLF.out, HCF.out.1, hB])
        have HOf : Hid (Oct Lf) := Lib.hid (by rw [← hLf]; exact oct_take (oct_drop HO.out _) _)
        clear hr hk d0 d1 hB hLf hb1 hb2 hbb D4 D3
        obtain ⟨d0, d1⟩ := fcell D5.out.dv.loc
        go_wp2_with fail
        go_loopw [8, 9, 10, 52] (fun t _ _ j wr => ∃ (k : Nat) (X' : Option Addr) (τ : Int), k ≤ F ∧ j = .int .i64 k ∧ t = .int .i64 τ ∧ (τ = if k = 0 then B * 256 else B * 256 + Lf.headD 0) ∧ (∀ z ∈ (Lf.take k).drop 1, z = 0) ∧ DG w wr 23 (some ⟨b, o, none⟩) m (x :: R) v C F g X' (Lf.drop k)) (fun _ _ _ j _ => F - (intOf j).toNat)
        case atStart => exact ⟨0, A2, B * 256, Nat.zero_le _, rfl, rfl, rfl, by simp, D5.out⟩
        case round =>
          obtain ⟨k, X', τ, hkf, rfl, rfl, hτ, hall, hg⟩ := hrel
          have HT := Lib.hid hτ
          have HA := Lib.hid hall
          have G := Lib.hid hg
          clear hτ hall hg d0 d1
          by_cases hlt : k < F
          · have hkx : (k : Int) < (F : Int) := by omega
            obtain ⟨y, hy⟩ : ∃ y, Lf[k]? = some y := ⟨_, List.getElem?_eq_getElem (by omega)⟩
            have hyo := HOf.out y (List.mem_of_getElem? hy)
            obtain ⟨hy0, hy1⟩ := hyo
            have HY := Lib.hid hy
            clear hy
            go_wp2_with fail
            refine (ruint_z _ g X' _ 1 1 rfl (oct_drop HOf.out _) (by omega) (by omega) (by simp; omega) G.out.rd).mono ?_
            rintro e w6 ⟨rfl, X2, hr, hk, _⟩
            rw [take1 HY.out, beVal1]
            rw [List.drop_drop] at hr
            have G2 := Lib.hid (G.out.next hr hk)
            clear hr hk
            by_cases h0 : k = 0
            · subst h0
              have hτ0 : τ = B * 256 := HT.out
              subst hτ0
              go_wp2_with fail
              go_roundw
              case rel => exact ⟨1, X2, B * 256 + y, by omega, by go_num, rfl, by rw [headD_some HY.out]; rfl, take_one_drop _, G2.out⟩
              case measure => simp [intOf]; omega
            · have hk0 : ¬ (k : Int) = 0 := by omega
              by_cases hyz : y = 0
              · subst hyz
                go_wp2_with fail
                go_roundw
                case rel => exact ⟨k + 1, X2, τ, by omega, by go_num, rfl, by rw [HT.out, if_neg h0, if_neg (by omega)], take_next HY.out (by omega) rfl HA.out, G2.out⟩
                case measure => simp [intOf]; omega
              · have HD : Hid (decP (x :: R) = ⟨0, 0, 0, 0, 4⟩) := Lib.hid (decP_form hx0 hx1 HL.out (by rw [HLF.out]; exact fun h => hyz (h y (mem_drop1 HY.out (by omega)))))
                obtain ⟨r0, r1⟩ := fcell G2.out.dv.dc.res
                have g0 := G2.out.dv.dc.res.frozen 0
                have g1 := G2.out.dv.dc.res.frozen 1
                go_wp2_with fail
                rw [HD.out]
                refine bodyPost_ret (v := .tuple #[.int .i64 0, fagg 0 0, .int .i64 0, .int .i64 4]) (by simp [results, Try.results17, go_sem, r0, r1]) rfl ⟨rfl, ?_⟩
                repeat (first | exact G2.out.dv.dc.keep | refine Keep.setN ?_ (Nat.le_refl _))
          · obtain rfl : k = F := by omega
            have HD : Hid (decP (x :: R) = ⟨τ, (C : Int), (k : Int), 1 + (C : Int) + (k : Int), 0⟩) := Lib.hid (by
              have hz := HA.out
              rw [List.take_of_length_le (by omega)] at hz
              rw [decP_fine hx0 hx1 HL.out (by rw [HLF.out]; exact hz), HBT.out, HCF.out.1, HCF.out.2, HT.out]
              by_cases h0 : k = 0
              · rw [if_pos h0]
                have : Lf = [] := List.eq_nil_of_length_eq_zero (by omega)
                rw [this]; simp
              · rw [if_neg h0])
            have s0 := fcell G.out.dv.loc
            obtain ⟨r0, r1⟩ := fcell G.out.dv.dc.res
            go_wp2_with fail
            go_region_held3 (fun w' => w'.cell? ⟨v, 0, none⟩ = some (.int .i64 (C : Int)) ∧ w'.cell? ⟨v, 1, none⟩ = some (.int .i64 (k : Int)))
              (first | exact s0 | exact s9 | exact s10)
              (first
                | (go_at_call 14
                   refine (csize_any _ C k (1 + (C : Int) + (k : Int)) HSZ.out).mono ?_
                   rintro e w9 ⟨rfl, hk⟩
                   have D9 := Lib.hid (G.out.dv.next hk.undrew)
                   have s9 := fcell D9.out.loc
                   have g0 := D9.out.dc.res.frozen 0
                   have g1 := D9.out.dc.res.frozen 1
                   have q := fcell D9.out.dc.res
                   obtain ⟨q0, q1⟩ := q
                   have s10 : ((w9.setCell ⟨w.heap.size, 0, none⟩ (.int .i64 (C : Int))).setCell ⟨w.heap.size, 1, none⟩ (.int .i64 (k : Int))).cell? ⟨v, 0, none⟩ = some (.int .i64 (C : Int)) ∧ ((w9.setCell ⟨w.heap.size, 0, none⟩ (.int .i64 (C : Int))).setCell ⟨w.heap.size, 1, none⟩ (.int .i64 (k : Int))).cell? ⟨v, 1, none⟩ = some (.int .i64 (k : Int)) := fcell ((D9.out.loc.far (p := ⟨w.heap.size, 0, none⟩) (by have := D9.out.hv; simp only; omega) _).far (p := ⟨w.heap.size, 1, none⟩) (by have := D9.out.hv; simp only; omega) _)
                   clear hk))
            go_wp2_with fail
            rw [HD.out]
            refine bodyPost_ret (v := .tuple #[.int .i64 τ, fagg C k, .int .i64 (1 + (C : Int) + (k : Int)), .int .i64 0]) (by simp [results, Try.results17, go_sem, q0, q1]) rfl ⟨rfl, ?_⟩
            repeat (first | exact D9.out.dc.keep | refine Keep.setN ?_ (Nat.le_refl _))
  · go_simp
    first
      | have D7 := Lib.hid (D1.out.local HLT.out)
      | have D7 := Lib.hid (D0.out.drewC.localAt HLT.out (w.heap.size + 1) (by simp))
    have f0 := D7.out.loc.frozen 0
    have f1 := D7.out.loc.frozen 1
    refine hK.out _ _ (by first | exact vw_head DX.out.dc.vw | exact vw_head D7.out.dc.vw | exact vw_head E1.out.dc.vw | exact vw_head D1.out.vw) (fun hHeld => ?_)
    clear hK K
    (try simp only [Act.put, List.setIfInBounds_toArray, List.set_cons_zero, List.set_cons_succ])
    refine wpAnyH_ready (rs := [0]) (by kernel_rfl) (by simp) ?_
    refine (AllReadyH.cons (o := { dst := some 26, op := Op.call { callee := Callee.value (Operand.func 26), args := #[], argTypes := #[] }, type := 51, pos := _, after := #[], guard := none }) rfl (fun K hK => ?_) AllReadyH.nil)
    go_simp
    refine (all_any _).mono ?_
    rintro e w1 ⟨A, ca, rfl, hs, hk, hbl⟩
    first
      | have E1 := Lib.hid (D7.out.next hk)
      | have D1 := Lib.hid (D0.out.drewC.next hk)
    have hcap := hs.cap
    have hca1 : (16 : Int) ≤ (ca : Int) := by omega
    have hca2 : (ca : Int) ≤ 9223372036854775807 := by have := hcap.2; unfold maxLen at this; omega
    obtain ⟨ga, hAe, hga, e0⟩ := hs.cell (j := i * 2) (by omega)
    obtain ⟨gb, hBe, _, e1⟩ := hs.cell (j := i * 2 + 1) (by omega)
    have e2 := (hs.alloc (.cells #[.int .i64 0, .int .i64 0] 23)).cell (j := i * 2) (by omega)
    have e3 := (hs.alloc (.cells #[.int .i64 0, .int .i64 0] 23)).cell (j := i * 2 + 1) (by omega)
    subst hAe
    obtain rfl : ga = gb := by injection hBe with h; injection h
    obtain ⟨gc, hCe, _, e2⟩ := e2
    obtain rfl : ga = gc := by injection hCe with h; injection h
    obtain ⟨gd, hDe, _, e3⟩ := e3
    obtain rfl : ga = gd := by injection hDe with h; injection h
    rw [HAT.out.1] at e0 e2
    rw [HAT.out.2] at e1 e3
    first
      | (have f0 := E1.out.loc.frozen 0
         have f1 := E1.out.loc.frozen 1
         obtain ⟨q0, q1⟩ := fcell E1.out.loc)
      | skip
    clear hs hk hbl hcap hBe hCe hDe hga
    refine hK.out _ _ (by first | exact vw_head DX.out.dc.vw | exact vw_head D7.out.dc.vw | exact vw_head E1.out.dc.vw | exact vw_head D1.out.vw) (fun hHeld => ?_)
    clear hK K
    (try simp only [Act.put, List.setIfInBounds_toArray, List.set_cons_zero, List.set_cons_succ])
    refine wpAnyH_take (i := 5) (oi := { dst := some 31, op := Op.indexAddr 51 (Operand.tmp 26) (Operand.tmp 30), type := 0, pos := _, after := #[{ on := 0, ground := Ground.data }, { on := 4, ground := Ground.data }], guard := none }) (v := _) rfl (by kernel_rfl) (by kernel_rfl) (by kernel_rfl) (fun _ _ _ h => h) (Or.inl ⟨by rfl, by (intro wS hSw; (try dsimp only at hSw); go_simp; try with_reducible rfl)⟩) (by assumption) ?_
    (try simp only [Act.put, List.setIfInBounds_toArray, List.set_cons_zero, List.set_cons_succ])
    refine wpAnyH_ready (rs := [6]) (by kernel_rfl) (by simp) ?_
    refine (AllReadyH.cons (o := { dst := some 32, op := Op.load 23 (Operand.tmp 31), type := 23, pos := _, after := #[{ on := 5, ground := Ground.data }], guard := none }) rfl (fun K hK => ?_) AllReadyH.nil)
    go_simp
    refine hK.out _ _ (by first | exact vw_head DX.out.dc.vw | exact vw_head D7.out.dc.vw | exact vw_head E1.out.dc.vw | exact vw_head D1.out.vw) (fun hHeld => ?_)
    clear hK K
    (try simp only [Act.put, List.setIfInBounds_toArray, List.set_cons_zero, List.set_cons_succ])
    refine wpAnyH_ready (rs := [8]) (by kernel_rfl) (by simp) ?_
    refine (AllReadyH.cons (o := { dst := none, op := Op.store 23 (Operand.tmp 6) (Operand.tmp 32), type := 0, pos := _, after := #[{ on := 7, ground := Ground.data }, { on := 6, ground := Ground.data }, { on := 0, ground := Ground.chain }, { on := 0, ground := Ground.phase }, { on := 1, ground := Ground.phase }, { on := 2, ground := Ground.phase }, { on := 3, ground := Ground.phase }, { on := 4, ground := Ground.phase }, { on := 5, ground := Ground.phase }, { on := 6, ground := Ground.phase }, { on := 7, ground := Ground.phase }], guard := none }) rfl (fun K hK => ?_) AllReadyH.nil)
    go_simp
    first
      | have DX := Lib.hid (E1.out.set (C : Int) (F : Int))
      | have DX := Lib.hid (D1.out.localC HLT.out (C : Int) (F : Int))
    refine hK.out _ _ (by first | exact vw_head DX.out.dc.vw | exact vw_head D7.out.dc.vw | exact vw_head E1.out.dc.vw | exact vw_head D1.out.vw) (fun hHeld => ?_)
    clear hK K
    (try simp only [Act.put, List.setIfInBounds_toArray, List.set_cons_zero, List.set_cons_succ])
    refine wpAnyH_done (by kernel_rfl) ?_ _
    obtain ⟨v, hv⟩ : ∃ v, v = w.heap.size + 1 := ⟨_, rfl⟩
    obtain ⟨W, hW⟩ : ∃ W, W = ((w1.setCell ⟨w.heap.size + 1, 0, none⟩ (.int .i64 (C : Int))).setCell ⟨w.heap.size + 1, 1, none⟩ (.int .i64 (F : Int))) := ⟨_, rfl⟩
    rw [← hW] at DX ⊢
    rw [← hv] at DX ⊢
    clear hHeld hW hv f0 f1
    try clear e2 e3
    try clear e0 e1
    try clear q0 q1
    try clear D7
    try clear E1
    try clear D1
    obtain ⟨d0, d1⟩ := fcell DX.out.loc
    by_cases hlen : R.length < C + F
    · have HD : Hid (decP (x :: R) = ⟨0, 0, 0, 0, 3⟩) := Lib.hid (decP_short hx0 hx1 (by rw [HCF.out.1, HCF.out.2]; exact hlen))
      have hl : (m : Int) < 1 + (C : Int) + (F : Int) := by omega
      go_wp2_with fail
      refine (csize_any _ C F (1 + (C : Int) + (F : Int)) HSZ.out).mono ?_
      rintro e w2 ⟨rfl, hk⟩
      have D2 := Lib.hid (DX.out.next hk)
      clear hk d0 d1
      obtain ⟨r0, r1⟩ := fcell D2.out.dc.res
      have g0 := D2.out.dc.res.frozen 0
      have g1 := D2.out.dc.res.frozen 1
      go_wp2_with fail
      rw [HD.out]
      refine bodyPost_ret (v := .tuple #[.int .i64 0, fagg 0 0, .int .i64 0, .int .i64 3]) (by simp [results, Try.results17, go_sem, r0, r1]) rfl ⟨rfl, ?_⟩
      repeat (first | exact D2.out.dc.keep | refine Keep.setN ?_ (Nat.le_refl _))
    · have hl : 1 + (C : Int) + (F : Int) ≤ (m : Int) := by omega
      have HL : Hid (¬ R.length < cOf x + fOf x) := Lib.hid (by rw [HCF.out.1, HCF.out.2]; exact hlen)
      have hlc : 1 + (C : Int) + (F : Int) ≤ (c : Int) := by omega
      go_wp2_with fail
      refine (csize_any _ C F (1 + (C : Int) + (F : Int)) HSZ.out).mono ?_
      rintro e w2 ⟨rfl, hk⟩
      have D2 := Lib.hid (DX.out.next hk)
      clear hk d0 d1
      obtain ⟨d0, d1⟩ := fcell D2.out.loc
      go_wp2_with fail
      refine (csize_any _ C F (1 + (C : Int) + (F : Int)) HSZ.out).mono ?_
      rintro e w3 ⟨rfl, hk⟩
      have D3 := Lib.hid (D2.out.next hk)
      clear hk d0 d1
      have HV3 : Hid (∀ n, n = C + F → Vw w3 (some ⟨b, o + 1, none⟩) n 1 (octs (R.take (C + F)))) := Lib.hid (fun n hn => by
        subst hn
        have h := ((D3.out.dc.vw.drop (k := 1) (by omega)).take (k := C + F) (by omega))
        simpa [octs, List.map_take] using h)
      go_wp2_with fail
      refine (rnew_any _ _ _ _ (R.take (C + F)) (by omega) (HV3.out _ (by omega))).mono ?_
      rintro e w4 ⟨g, A1, rfl, hr, hk, hg, _⟩
      have hvg : v < g := Nat.lt_of_lt_of_le D3.out.loc.lt hg
      have D4 : Hid (DG w w4 23 (some ⟨b, o, none⟩) m (x :: R) v C F g A1 (R.take (C + F))) := Lib.hid ⟨D3.out.next hk, hr, hvg⟩
      clear hr hk hg hvg D2 DX
      obtain ⟨d0, d1⟩ := fcell D4.out.dv.loc
      go_wp2_with fail
      refine (ruint_z _ g A1 _ C C rfl (oct_take HO.out _) (by omega) (by omega) (by simp; omega) D4.out.rd).mono ?_
      rintro e w5 ⟨rfl, A2, hr, hk, _⟩
      have D5 := Lib.hid (D4.out.next hr hk)
      obtain ⟨B, hB⟩ : ∃ B, beVal (R.take C) = B := ⟨_, rfl⟩
      obtain ⟨Lf, hLf⟩ : ∃ Lf, (R.drop C).take F = Lf := ⟨_, rfl⟩
      have hb1 : beVal (List.take C (List.take (C + F) R)) = B := by rw [List.take_take, Nat.min_eq_left (by omega)]; exact hB
      have hb2 : List.drop C (List.take (C + F) R) = Lf := by rw [List.drop_take, ← hLf]; congr 1; omega
      have hbb := beVal_bd C (R.take C) (oct_take HO.out C) (by simp; omega)
      rw [hB] at hbb
      have hB0 := hbb.1
      have hB1 : B < 4294967296 := by
        refine Int.lt_of_lt_of_le hbb.2 ?_
        have : C = 1 ∨ C = 2 ∨ C = 3 ∨ C = 4 := by omega
        rcases this with h | h | h | h <;> rw [h] <;> decide
      rw [hb2] at D5
      rw [hb1]
      have hLl : Lf.length = F := by rw [← hLf]; simp; omega
      have HLF : Hid (fineL x R = Lf) := Lib.hid (by unfold fineL; rw [HCF.out.1, HCF.out.2]; exact hLf)
      have HBT : Hid (decT x R = B * 256 + Lf.headD 0) := Lib.hid (by unfold decT; rw [HLF.out, HCF.out.1, hB])
      have HOf : Hid (Oct Lf) := Lib.hid (by rw [← hLf]; exact oct_take (oct_drop HO.out _) _)
      clear hr hk d0 d1 hB hLf hb1 hb2 hbb D4 D3
      obtain ⟨d0, d1⟩ := fcell D5.out.dv.loc
      go_wp2_with fail
      go_loopw [8, 9, 10, 52] (fun t _ _ j wr => ∃ (k : Nat) (X' : Option Addr) (τ : Int), k ≤ F ∧ j = .int .i64 k ∧ t = .int .i64 τ ∧ (τ = if k = 0 then B * 256 else B * 256 + Lf.headD 0) ∧ (∀ z ∈ (Lf.take k).drop 1, z = 0) ∧ DG w wr 23 (some ⟨b, o, none⟩) m (x :: R) v C F g X' (Lf.drop k)) (fun _ _ _ j _ => F - (intOf j).toNat)
      case atStart => exact ⟨0, A2, B * 256, Nat.zero_le _, rfl, rfl, rfl, by simp, D5.out⟩
      case round =>
        obtain ⟨k, X', τ, hkf, rfl, rfl, hτ, hall, hg⟩ := hrel
        have HT := Lib.hid hτ
        have HA := Lib.hid hall
        have G := Lib.hid hg
        clear hτ hall hg d0 d1
        by_cases hlt : k < F
        · have hkx : (k : Int) < (F : Int) := by omega
          obtain ⟨y, hy⟩ : ∃ y, Lf[k]? = some y := ⟨_, List.getElem?_eq_getElem (by omega)⟩
          have hyo := HOf.out y (List.mem_of_getElem? hy)
          obtain ⟨hy0, hy1⟩ := hyo
          have HY := Lib.hid hy
          clear hy
          go_wp2_with fail
          refine (ruint_z _ g X' _ 1 1 rfl (oct_drop HOf.out _) (by omega) (by omega) (by simp; omega) G.out.rd).mono ?_
          rintro e w6 ⟨rfl, X2, hr, hk, _⟩
          rw [take1 HY.out, beVal1]
          rw [List.drop_drop] at hr
          have G2 := Lib.hid (G.out.next hr hk)
          clear hr hk
          by_cases h0 : k = 0
          · subst h0
            have hτ0 : τ = B * 256 := HT.out
            subst hτ0
            go_wp2_with fail
            go_roundw
            case rel => exact ⟨1, X2, B * 256 + y, by omega, by go_num, rfl, by rw [headD_some HY.out]; rfl, take_one_drop _, G2.out⟩
            case measure => simp [intOf]; omega
          · have hk0 : ¬ (k : Int) = 0 := by omega
            by_cases hyz : y = 0
            · subst hyz
              go_wp2_with fail
              go_roundw
              case rel => exact ⟨k + 1, X2, τ, by omega, by go_num, rfl, by rw [HT.out, if_neg h0, if_neg (by omega)], take_next HY.out (by omega) rfl HA.out, G2.out⟩
              case measure => simp [intOf]; omega
            · have HD : Hid (decP (x :: R) = ⟨0, 0, 0, 0, 4⟩) := Lib.hid (decP_form hx0 hx1 HL.out (by rw [HLF.out]; exact fun h => hyz (h y (mem_drop1 HY.out (by omega)))))
              obtain ⟨r0, r1⟩ := fcell G2.out.dv.dc.res
              have g0 := G2.out.dv.dc.res.frozen 0
              have g1 := G2.out.dv.dc.res.frozen 1
              go_wp2_with fail
              rw [HD.out]
              refine bodyPost_ret (v := .tuple #[.int .i64 0, fagg 0 0, .int .i64 0, .int .i64 4]) (by simp [results, Try.results17, go_sem, r0, r1]) rfl ⟨rfl, ?_⟩
              repeat (first | exact G2.out.dv.dc.keep | refine Keep.setN ?_ (Nat.le_refl _))
        · obtain rfl : k = F := by omega
          have HD : Hid (decP (x :: R) = ⟨τ, (C : Int), (k : Int), 1 + (C : Int) + (k : Int), 0⟩) := Lib.hid (by
            have hz := HA.out
            rw [List.take_of_length_le (by omega)] at hz
            rw [decP_fine hx0 hx1 HL.out (by rw [HLF.out]; exact hz), HBT.out, HCF.out.1, HCF.out.2, HT.out]
            by_cases h0 : k = 0
            · rw [if_pos h0]
              have : Lf = [] := List.eq_nil_of_length_eq_zero (by omega)
              rw [this]; simp
            · rw [if_neg h0])
          have s0 := fcell G.out.dv.loc
          obtain ⟨r0, r1⟩ := fcell G.out.dv.dc.res
          go_wp2_with fail
          go_region_held3 (fun w' => w'.cell? ⟨v, 0, none⟩ = some (.int .i64 (C : Int)) ∧ w'.cell? ⟨v, 1, none⟩ = some (.int .i64 (k : Int)))
            (first | exact s0 | exact s9 | exact s10)
            (first
              | (go_at_call 14
                 refine (csize_any _ C k (1 + (C : Int) + (k : Int)) HSZ.out).mono ?_
                 rintro e w9 ⟨rfl, hk⟩
                 have D9 := Lib.hid (G.out.dv.next hk.undrew)
                 have s9 := fcell D9.out.loc
                 have g0 := D9.out.dc.res.frozen 0
                 have g1 := D9.out.dc.res.frozen 1
                 have q := fcell D9.out.dc.res
                 obtain ⟨q0, q1⟩ := q
                 have s10 : ((w9.setCell ⟨w.heap.size, 0, none⟩ (.int .i64 (C : Int))).setCell ⟨w.heap.size, 1, none⟩ (.int .i64 (k : Int))).cell? ⟨v, 0, none⟩ = some (.int .i64 (C : Int)) ∧ ((w9.setCell ⟨w.heap.size, 0, none⟩ (.int .i64 (C : Int))).setCell ⟨w.heap.size, 1, none⟩ (.int .i64 (k : Int))).cell? ⟨v, 1, none⟩ = some (.int .i64 (k : Int)) := fcell ((D9.out.loc.far (p := ⟨w.heap.size, 0, none⟩) (by have := D9.out.hv; simp only; omega) _).far (p := ⟨w.heap.size, 1, none⟩) (by have := D9.out.hv; simp only; omega) _)
                 clear hk))
          go_wp2_with fail
          rw [HD.out]
          refine bodyPost_ret (v := .tuple #[.int .i64 τ, fagg C k, .int .i64 (1 + (C : Int) + (k : Int)), .int .i64 0]) (by simp [results, Try.results17, go_sem, q0, q1]) rfl ⟨rfl, ?_⟩
          repeat (first | exact D9.out.dc.keep | refine Keep.setN ?_ (Nat.le_refl _))

end Go.Proofs.Ytnneanbboooneaa
