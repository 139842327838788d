/- Encode, walked. -/
import Derived.Test.YtfkbcflgbjncdaaEccE
namespace Go.Proofs.Ytfkbcflgbjncdaa
set_option linter.unusedVariables false
set_option linter.unusedSimpArgs false
open Go.RowKit
set_option maxHeartbeats 4000000 in
theorem enc_w (w : World) (d : Nat) (hd : d < 4294967296) : Calls Try.prog 57 #[.int .u32 (d : Int)] w fun e w' => e = .returned (.int .u64 (encW d : Int)) ∧ Keep w.heap.size [] w w' := by
  go_enter Try.func57, Try.ntmps57
  go_wp2_with fail
  go_loopw [0, 3, 4] (fun dd ww aa wr => ∃ p : Nat, 3 ≤ p ∧ p ≤ 39 ∧ dd = .int .u32 ((d >>> cnt p : Nat) : Int) ∧ ww = .int .u64 (plc p d : Int) ∧ aa = .int .i64 p ∧ wr = w) (fun _ _ aa _ => 39 - (intOf aa).toNat)
  case atStart => exact ⟨3, by omega, by omega, by simp [cnt], by simp [plc], rfl, by first | rfl | trivial⟩
  case round =>
    obtain ⟨p, hp3, hp39, rfl, rfl, rfl, rfl⟩ := hrel
    by_cases hlt : p < 39
    · have hpi : (p : Int) < 39 := by omega
      obtain ⟨x, hx⟩ : ∃ x, x = d >>> cnt p := ⟨_, rfl⟩
      obtain ⟨y, hy⟩ : ∃ y, y = plc p d := ⟨_, rfl⟩
      have hxl : x < 4294967296 := by rw [hx, Nat.shiftRight_eq_div_pow]; exact Nat.lt_of_le_of_lt (Nat.div_le_self _ _) hd
      have hyl : y < 2 ^ p := by rw [hy]; exact plc_lt p d
      have hp64 : (2 : Nat) ^ p < 2 ^ 39 := Nat.pow_lt_pow_right (by decide) hlt
      rw [← hx, ← hy]
      cases hc : chk p with
      | true =>
        have s1 : cnt (p + 1) = cnt p := by rw [cnt, if_pos (.inr hc)]
        have s2 : plc (p + 1) d = plc p d := by rw [plc, if_pos (.inr hc)]
        have HX := Lib.hid hx
        have HY := Lib.hid hy
        clear hx hy
        go_wp2_with fail
        refine (check_w _ p true (by omega) (by omega) hc).mono ?_
        rintro e w' ⟨rfl, rfl⟩
        go_wp2_with fail
        go_roundw
        case rel => exact ⟨p + 1, by omega, by omega, by rw [s1, ← HX.out], by rw [s2, ← HY.out], by go_num, by first | rfl | trivial⟩
        case measure => simp [intOf] <;> omega
      | false =>
        have hn : ¬ (p < 3 ∨ chk p = true) := by rw [hc]; simp; omega
        have s1 : cnt (p + 1) = cnt p + 1 := by rw [cnt, if_neg hn]
        obtain ⟨b, hb⟩ : ∃ b, b = x &&& 1 := ⟨_, rfl⟩
        have hb1 : b ≤ 1 := by rw [hb]; exact Nat.and_le_right
        obtain ⟨v, hv⟩ : ∃ v, v = y ||| b * 2 ^ p := ⟨_, rfl⟩
        have s2 : plc (p + 1) d = v := by
          rw [hv, or_shl hyl, plc, if_neg hn, ← hy, Nat.shiftLeft_eq, ← hx, ← hb]
        have s3 : d >>> cnt (p + 1) = x / 2 := by
          rw [s1, hx, Nat.shiftRight_eq_div_pow, Nat.shiftRight_eq_div_pow, Nat.pow_succ, ← Nat.div_div_eq_div_mul]
        have hbp : b * 2 ^ p < 18446744073709551616 := by
          have : (2 : Nat) ^ 39 < 18446744073709551616 := by decide
          rcases (by omega : b = 0 ∨ b = 1) with h | h <;> rw [h] <;> omega
        have e1 : bits .and .u32 (x : Int) 1 = (b : Int) := by rw [hb]; exact u32_and_nat x 1 hxl (by decide)
        have e2 : IntKind.u64.wrap (b : Int) = (b : Int) := u64w b (by omega)
        have e3 : IntKind.u64.wrap ((b : Int) * 2 ^ p) = (b : Int) * 2 ^ p := by
          have := u64w (b * 2 ^ p) hbp
          simpa using this
        have e4 : bits .or .u64 (y : Int) ((b : Int) * 2 ^ p) = (v : Int) := by
          have := u64_or_nat y (b * 2 ^ p) (Nat.lt_trans hyl (Nat.lt_of_lt_of_le hp64 (by decide))) hbp
          rw [← hv] at this
          simpa using this
        have HX := Lib.hid s3
        have HY := Lib.hid s2
        clear hx hy hb hv s1 s2 s3 hn hyl hp64 hbp
        go_wp2_with fail
        refine (check_w _ p false (by omega) (by omega) hc).mono ?_
        rintro e w' ⟨rfl, rfl⟩
        go_wp2_with fail
        go_roundw
        case rel => exact ⟨p + 1, by omega, by omega, by rw [HX.out]; simp, by rw [HY.out], by go_num, by first | rfl | trivial⟩
        case measure => simp [intOf] <;> omega
    · obtain rfl : p = 39 := by omega
      obtain ⟨y, hy⟩ : ∃ y, y = plc 39 d := ⟨_, rfl⟩
      have hy39 : y < 2 ^ 39 := by rw [hy]; exact plc_lt 39 d
      have hyl : y < 18446744073709551616 := Nat.lt_trans hy39 (by decide)
      rw [← hy]
      obtain ⟨s, hs⟩ : ∃ s, s = syn y := ⟨_, rfl⟩
      have hsl : s < 64 := by rw [hs, ← synU_syn]; exact synU_lt 6 y
      have hE : encW d = (y ^^^ cks 6 s) ^^^ par39 (y ^^^ cks 6 s) := by rw [hs, hy]; rfl
      have h0 : (y ^^^ cks 6 s) >>> 0 &&& 1 = 0 := by rw [hs, hy]; exact enc0_free hd
      have hfr : ∀ k, k < 6 → (y ^^^ cks k s) >>> 2 ^ k &&& 1 = 0 := fun k hk => by rw [hy]; exact enc_free hd hsl hk
      have HS := Lib.hid hs
      have HE := Lib.hid hE
      have H0 := Lib.hid h0
      have HF := Lib.hid hfr
      clear hy hs hE h0 hfr
      go_wp2_with fail
      refine (syn_w _ y hyl).mono ?_
      rw [← HS.out]
      rintro e W1 ⟨rfl, hk⟩
      have K1 := Lib.hid hk
      clear hk
      go_wp2_with fail
      go_loopw [3, 25] (fun ww kk wr => ∃ k : Nat, k ≤ 6 ∧ kk = .int .i64 k ∧ ww = .int .u64 ((y ^^^ cks k s : Nat) : Int) ∧ Keep W1.heap.size [] W1 wr) (fun _ kk _ => 6 - (intOf kk).toNat)
      case atStart => exact ⟨0, by omega, rfl, by simp [cks], Keep.refl _ _ _⟩
      case round =>
        obtain ⟨k, hk6, rfl, rfl, hkw⟩ := hrel
        have KW := Lib.hid hkw
        clear hkw
        by_cases hkl : k < 6
        · obtain ⟨z, hz⟩ : ∃ z, z = y ^^^ cks k s := ⟨_, rfl⟩
          obtain ⟨v, hv⟩ : ∃ v, v = y ^^^ cks (k + 1) s := ⟨_, rfl⟩
          obtain ⟨b, hb⟩ : ∃ b, b = s >>> k &&& 1 := ⟨_, rfl⟩
          have hb1 : b ≤ 1 := by rw [hb]; exact Nat.and_le_right
          have hvz : z ||| b * 2 ^ 2 ^ k = v := by
            rw [hv, cks, ← Nat.xor_assoc, ← hz, ← hb, Nat.shiftLeft_eq]
            exact or_bit (by rw [hz]; exact HF.out k hkl) hb1
          have hzl : z < 18446744073709551616 := by rw [hz]; exact Nat.lt_trans (Nat.xor_lt_two_pow hy39 (cks_lt k hk6 s)) (by decide)
          have HVZ := Lib.hid hv
          rw [← hz]
          clear hz hv
          obtain ⟨kc, hkc⟩ : ∃ kc : Int, (k : Int) = kc := ⟨_, rfl⟩
          rw [hkc]
          rcases (by omega : k = 0 ∨ k = 1 ∨ k = 2 ∨ k = 3 ∨ k = 4 ∨ k = 5) with rfl | rfl | rfl | rfl | rfl | rfl
          · obtain rfl : kc = 0 := by omega
            have eq0 : (s : Int) = ((s >>> 0 : Nat) : Int) := by rw [Nat.shiftRight_eq_div_pow]; simp
            have e1 : bits .and .i64 (s : Int) 1 = (b : Int) := by
              rw [eq0, hb]
              exact i64_and_nat (s >>> 0) 1 (by rw [Nat.shiftRight_eq_div_pow]; exact Nat.lt_of_le_of_lt (Nat.div_le_self _ _) (by omega)) (by decide)
            have e2 : IntKind.u64.wrap (b : Int) = (b : Int) := u64w b (by omega)
            have e3 : IntKind.u64.wrap ((b : Int) * 2) = (b : Int) * 2 := by rw [IntKind.wrap_u64]; omega
            have e4 : bits .or .u64 (z : Int) ((b : Int) * 2) = (v : Int) := by
              have h := u64_or_nat z (b * 2) hzl (by omega)
              rw [show z ||| b * 2 = v from hvz] at h
              simpa using h
            clear eq0 hb hvz hkc
            go_wp2_with fail
            go_region
            all_goals go_wp2_with fail
            go_roundw
            case rel => exact ⟨1, by omega, by go_num, by rw [← HVZ.out], KW.out.drew⟩
            case measure => simp [intOf]
          · obtain rfl : kc = 1 := by omega
            have eq0 : ((s : Int) / (2 : Int)) = ((s >>> 1 : Nat) : Int) := by rw [Nat.shiftRight_eq_div_pow]; simp
            have e1 : bits .and .i64 ((s : Int) / (2 : Int)) 1 = (b : Int) := by
              rw [eq0, hb]
              exact i64_and_nat (s >>> 1) 1 (by rw [Nat.shiftRight_eq_div_pow]; exact Nat.lt_of_le_of_lt (Nat.div_le_self _ _) (by omega)) (by decide)
            have e2 : IntKind.u64.wrap (b : Int) = (b : Int) := u64w b (by omega)
            have e3 : IntKind.u64.wrap ((b : Int) * 4) = (b : Int) * 4 := by rw [IntKind.wrap_u64]; omega
            have e4 : bits .or .u64 (z : Int) ((b : Int) * 4) = (v : Int) := by
              have h := u64_or_nat z (b * 4) hzl (by omega)
              rw [show z ||| b * 4 = v from hvz] at h
              simpa using h
            clear eq0 hb hvz hkc
            go_wp2_with fail
            go_region
            all_goals go_wp2_with fail
            go_roundw
            case rel => exact ⟨2, by omega, by go_num, by rw [← HVZ.out], KW.out.drew⟩
            case measure => simp [intOf]
          · obtain rfl : kc = 2 := by omega
            have eq0 : ((s : Int) / (4 : Int)) = ((s >>> 2 : Nat) : Int) := by rw [Nat.shiftRight_eq_div_pow]; simp
            have e1 : bits .and .i64 ((s : Int) / (4 : Int)) 1 = (b : Int) := by
              rw [eq0, hb]
              exact i64_and_nat (s >>> 2) 1 (by rw [Nat.shiftRight_eq_div_pow]; exact Nat.lt_of_le_of_lt (Nat.div_le_self _ _) (by omega)) (by decide)
            have e2 : IntKind.u64.wrap (b : Int) = (b : Int) := u64w b (by omega)
            have e3 : IntKind.u64.wrap ((b : Int) * 16) = (b : Int) * 16 := by rw [IntKind.wrap_u64]; omega
            have e4 : bits .or .u64 (z : Int) ((b : Int) * 16) = (v : Int) := by
              have h := u64_or_nat z (b * 16) hzl (by omega)
              rw [show z ||| b * 16 = v from hvz] at h
              simpa using h
            clear eq0 hb hvz hkc
            go_wp2_with fail
            go_region
            all_goals go_wp2_with fail
            go_roundw
            case rel => exact ⟨3, by omega, by go_num, by rw [← HVZ.out], KW.out.drew⟩
            case measure => simp [intOf]
          · obtain rfl : kc = 3 := by omega
            have eq0 : ((s : Int) / (8 : Int)) = ((s >>> 3 : Nat) : Int) := by rw [Nat.shiftRight_eq_div_pow]; simp
            have e1 : bits .and .i64 ((s : Int) / (8 : Int)) 1 = (b : Int) := by
              rw [eq0, hb]
              exact i64_and_nat (s >>> 3) 1 (by rw [Nat.shiftRight_eq_div_pow]; exact Nat.lt_of_le_of_lt (Nat.div_le_self _ _) (by omega)) (by decide)
            have e2 : IntKind.u64.wrap (b : Int) = (b : Int) := u64w b (by omega)
            have e3 : IntKind.u64.wrap ((b : Int) * 256) = (b : Int) * 256 := by rw [IntKind.wrap_u64]; omega
            have e4 : bits .or .u64 (z : Int) ((b : Int) * 256) = (v : Int) := by
              have h := u64_or_nat z (b * 256) hzl (by omega)
              rw [show z ||| b * 256 = v from hvz] at h
              simpa using h
            clear eq0 hb hvz hkc
            go_wp2_with fail
            go_region
            all_goals go_wp2_with fail
            go_roundw
            case rel => exact ⟨4, by omega, by go_num, by rw [← HVZ.out], KW.out.drew⟩
            case measure => simp [intOf]
          · obtain rfl : kc = 4 := by omega
            have eq0 : ((s : Int) / (16 : Int)) = ((s >>> 4 : Nat) : Int) := by rw [Nat.shiftRight_eq_div_pow]; simp
            have e1 : bits .and .i64 ((s : Int) / (16 : Int)) 1 = (b : Int) := by
              rw [eq0, hb]
              exact i64_and_nat (s >>> 4) 1 (by rw [Nat.shiftRight_eq_div_pow]; exact Nat.lt_of_le_of_lt (Nat.div_le_self _ _) (by omega)) (by decide)
            have e2 : IntKind.u64.wrap (b : Int) = (b : Int) := u64w b (by omega)
            have e3 : IntKind.u64.wrap ((b : Int) * 65536) = (b : Int) * 65536 := by rw [IntKind.wrap_u64]; omega
            have e4 : bits .or .u64 (z : Int) ((b : Int) * 65536) = (v : Int) := by
              have h := u64_or_nat z (b * 65536) hzl (by omega)
              rw [show z ||| b * 65536 = v from hvz] at h
              simpa using h
            clear eq0 hb hvz hkc
            go_wp2_with fail
            go_region
            all_goals go_wp2_with fail
            go_roundw
            case rel => exact ⟨5, by omega, by go_num, by rw [← HVZ.out], KW.out.drew⟩
            case measure => simp [intOf]
          · obtain rfl : kc = 5 := by omega
            have eq0 : ((s : Int) / (32 : Int)) = ((s >>> 5 : Nat) : Int) := by rw [Nat.shiftRight_eq_div_pow]; simp
            have e1 : bits .and .i64 ((s : Int) / (32 : Int)) 1 = (b : Int) := by
              rw [eq0, hb]
              exact i64_and_nat (s >>> 5) 1 (by rw [Nat.shiftRight_eq_div_pow]; exact Nat.lt_of_le_of_lt (Nat.div_le_self _ _) (by omega)) (by decide)
            have e2 : IntKind.u64.wrap (b : Int) = (b : Int) := u64w b (by omega)
            have e3 : IntKind.u64.wrap ((b : Int) * 4294967296) = (b : Int) * 4294967296 := by rw [IntKind.wrap_u64]; omega
            have e4 : bits .or .u64 (z : Int) ((b : Int) * 4294967296) = (v : Int) := by
              have h := u64_or_nat z (b * 4294967296) hzl (by omega)
              rw [show z ||| b * 4294967296 = v from hvz] at h
              simpa using h
            clear eq0 hb hvz hkc
            go_wp2_with fail
            go_region
            all_goals go_wp2_with fail
            go_roundw
            case rel => exact ⟨6, by omega, by go_num, by rw [← HVZ.out], KW.out.drew⟩
            case measure => simp [intOf]
        · obtain rfl : k = 6 := by omega
          obtain ⟨z, hz⟩ : ∃ z, z = y ^^^ cks 6 s := ⟨_, rfl⟩
          have hz39 : z < 2 ^ 39 := by rw [hz]; exact Nat.xor_lt_two_pow hy39 (cks_lt 6 (by omega) s)
          have hzl : z < 18446744073709551616 := Nat.lt_trans hz39 (by decide)
          have hp1 : par39 z ≤ 1 := parN_le _ _
          obtain ⟨q, hq⟩ : ∃ q, q = par39 z := ⟨_, rfl⟩
          rw [← hq] at hp1
          have e1 : IntKind.u64.wrap (q : Int) = (q : Int) := u64w q (by omega)
          have hor : z ||| q = encW d := by
            rw [HE.out, ← hz, ← hq]
            have := or_bit (q := 0) (b := q) (a := z) (by rw [hz]; exact H0.out) hp1
            simpa using this
          have e2 : bits .or .u64 (z : Int) (q : Int) = (encW d : Int) := by rw [← hor]; exact u64_or_nat z q hzl (by omega)
          have HQ := Lib.hid hq
          rw [← hz]
          clear hz hq hor hz39
          go_wp2_with fail
          refine (parity_w _ z hzl).mono ?_
          rw [← HQ.out]
          rintro e w' ⟨rfl, rfl⟩
          go_wp2_with fail
          go_ret
          exact ⟨by rw [← e2]; rfl, K1.out.chain0 (Nat.le_refl _) KW.out⟩
end Go.Proofs.Ytfkbcflgbjncdaa
