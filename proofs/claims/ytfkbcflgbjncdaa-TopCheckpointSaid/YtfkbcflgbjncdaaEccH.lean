/- Repair, Decode, walked. -/
import Derived.Test.YtfkbcflgbjncdaaEccG
namespace Go.Proofs.Ytfkbcflgbjncdaa
set_option linter.unusedVariables false
set_option linter.unusedSimpArgs false
open Go.RowKit
theorem enc_u64 {d : Nat} (h : d < 4294967296) : encW d < 18446744073709551616 := Nat.lt_trans (enc_lt h) (by decide)
theorem flip_u64 {d b : Nat} (h : d < 4294967296) (hb : b < 39) : encW d ^^^ 2 ^ b < 18446744073709551616 :=
  Nat.lt_trans (Nat.xor_lt_two_pow (enc_lt h) (Nat.pow_lt_pow_right (by decide) hb)) (by decide)
theorem flip_back (x b : Nat) : (x ^^^ 2 ^ b) ^^^ 2 ^ b = x := by rw [Nat.xor_assoc, Nat.xor_self, Nat.xor_zero]
set_option maxHeartbeats 2000000 in
theorem repair_clean (w : World) (d : Nat) (h : d < 4294967296) : Calls Try.prog 147 #[.int .u64 (encW d : Int)] w fun e w' => e = .returned (.tuple #[.int .u64 (encW d : Int), .int .i64 0]) ∧ Keep w.heap.size [] w w' := by
  have h1 := syn_enc h
  have h2 := par_enc h
  have h3 := high_enc h
  obtain ⟨x, hx⟩ : ∃ x, x = encW d := ⟨_, rfl⟩
  have hxl : x < 18446744073709551616 := by rw [hx]; exact enc_u64 h
  rw [← hx] at h1 h2 h3 ⊢
  have e0 : ((x : Int) / 549755813888) = 0 := by rw [Nat.shiftRight_eq_div_pow] at h3; omega
  have H1 := Lib.hid h1
  have H2 := Lib.hid h2
  clear h1 h2 h3 hx
  go_enter Try.func147, Try.ntmps147
  go_wp2_with fail
  refine (syn_w _ x hxl).mono ?_
  rw [H1.out]
  rintro e W1 ⟨rfl, hk⟩
  have K1 := Lib.hid hk
  clear hk
  go_wp2_with fail
  refine (parity_w _ x hxl).mono ?_
  rw [H2.out]
  rintro e w' ⟨rfl, rfl⟩
  go_wp2_with fail
  go_ret2
  exact ⟨rfl, K1.out⟩
set_option maxHeartbeats 2000000 in
theorem repair_fix (w : World) (d b : Nat) (h : d < 4294967296) (hb : b < 39) : Calls Try.prog 147 #[.int .u64 ((encW d ^^^ 2 ^ b : Nat) : Int)] w fun e w' => e = .returned (.tuple #[.int .u64 (encW d : Int), .int .i64 1]) ∧ Keep w.heap.size [] w w' := by
  have h1 := syn_flip h hb
  have h2 := par_flip h hb
  have h3 := high_flip h hb
  have h4 := flip_back (encW d) b
  obtain ⟨x, hx⟩ : ∃ x, x = encW d ^^^ 2 ^ b := ⟨_, rfl⟩
  have hxl : x < 18446744073709551616 := by rw [hx]; exact flip_u64 h hb
  rw [← hx] at h1 h2 h3 h4 ⊢
  have e0 : ((x : Int) / 549755813888) = 0 := by rw [Nat.shiftRight_eq_div_pow] at h3; omega
  have hbi : (b : Int) < 39 := by omega
  have hbn : ¬ (39 : Int) ≤ (b : Int) := by omega
  have H1 := Lib.hid h1
  have H2 := Lib.hid h2
  have H4 := Lib.hid h4
  clear h1 h2 h3 h4 hx
  go_enter Try.func147, Try.ntmps147
  go_wp2_with fail
  refine (syn_w _ x hxl).mono ?_
  rw [H1.out]
  rintro e W1 ⟨rfl, hk⟩
  have K1 := Lib.hid hk
  clear hk
  go_wp2_with fail
  refine (parity_w _ x hxl).mono ?_
  rw [H2.out]
  rintro e w' ⟨rfl, rfl⟩
  go_wp2_with fail
  refine (parity_w _ x hxl).mono ?_
  rw [H2.out]
  rintro e w' ⟨rfl, rfl⟩
  go_wp2_with fail
  refine (flip_w _ x b hxl hb).mono ?_
  rw [H4.out]
  rintro e w' ⟨rfl, rfl⟩
  go_wp2_with fail
  go_ret2
  exact ⟨rfl, K1.out⟩
set_option maxHeartbeats 2000000 in
theorem decode_clean (w : World) (d : Nat) (h : d < 4294967296) : Calls Try.prog 115 #[.int .u64 (encW d : Int)] w fun e w' => e = .returned (.tuple #[.int .u32 (d : Int), .int .i64 0]) ∧ Keep w.heap.size [] w w' := by
  go_enter Try.func115, Try.ntmps115
  go_wp2_with fail
  refine (repair_clean _ d h).mono ?_
  rintro e W1 ⟨rfl, hk⟩
  have K1 := Lib.hid hk
  clear hk
  go_wp2_with fail
  refine (data_w _ (encW d) (enc_u64 h)).mono ?_
  rw [dat_enc h]
  rintro e w' ⟨rfl, rfl⟩
  go_wp2_with fail
  go_ret2
  exact ⟨rfl, K1.out⟩
end Go.Proofs.Ytfkbcflgbjncdaa
