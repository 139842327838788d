/- The syndrome. -/
import Derived.Test.YtfkbcflgbjncdaaEccC
namespace Go.Proofs.Ytfkbcflgbjncdaa
set_option linter.unusedVariables false
set_option linter.unusedSimpArgs false
open Go.RowKit
theorem or_shl {a b k : Nat} (h : a < 2 ^ k) : a ||| b * 2 ^ k = a ^^^ b * 2 ^ k := by
  apply Nat.eq_of_testBit_eq
  intro i
  rw [Nat.testBit_or, Nat.testBit_xor, Nat.testBit_mul_two_pow]
  by_cases hi : k ≤ i
  · have : a.testBit i = false := Nat.testBit_lt_two_pow (Nat.lt_of_lt_of_le h (Nat.pow_le_pow_right (by decide) hi))
    rw [this]; simp
  · simp [hi]
theorem or_lt {a b k : Nat} (h : a < 2 ^ k) (hb : b ≤ 1) : a ||| b * 2 ^ k < 2 ^ (k + 1) := by
  have h2 : (2 : Nat) ^ k < 2 ^ (k + 1) := Nat.pow_lt_pow_right (by decide) (by omega)
  refine Nat.or_lt_two_pow (by omega) ?_
  rcases (by omega : b = 0 ∨ b = 1) with rfl | rfl
  · rw [Nat.zero_mul]; exact Nat.two_pow_pos _
  · rw [Nat.one_mul]; exact h2
theorem parN_le (n x : Nat) : parN n x ≤ 1 := by unfold parN; cases parB n x <;> decide
def synU : Nat → Nat → Nat
  | 0, _ => 0
  | k + 1, w => synU k w ||| parN 64 (w &&& mk k) * 2 ^ k
theorem synU_lt : ∀ (k w : Nat), synU k w < 2 ^ k
  | 0, w => by simp [synU]
  | k + 1, w => or_lt (synU_lt k w) (parN_le _ _)
theorem synU_step (k w : Nat) : synU (k + 1) w = synU k w ^^^ sbit k w := by
  rw [synU, or_shl (synU_lt k w)]
  unfold sbit
  rw [Nat.shiftLeft_eq]
theorem synU_syn (w : Nat) : synU 6 w = syn w := by
  have h0 : synU 0 w = 0 := rfl
  rw [synU_step, synU_step, synU_step, synU_step, synU_step, synU_step, h0, Nat.zero_xor]
  unfold syn
  simp only [Nat.xor_assoc]
theorem i64_or_nat (a b : Nat) (ha : a < 9223372036854775808) (hb : b < 9223372036854775808) : bits .or .i64 (a : Int) (b : Int) = ((a ||| b : Nat) : Int) := by
  have hx : a ||| b < 2 ^ 63 := Nat.or_lt_two_pow (by omega) (by omega)
  show IntKind.i64.wrap ((BitVec.ofInt 64 (a : Int) ||| BitVec.ofInt 64 (b : Int)).toNat : Int) = _
  have e1 : (BitVec.ofInt 64 (a : Int)).toNat = a := by rw [BitVec.toNat_ofInt]; omega
  have e2 : (BitVec.ofInt 64 (b : Int)).toNat = b := by rw [BitVec.toNat_ofInt]; omega
  rw [BitVec.toNat_or, e1, e2, IntKind.wrap_i64]
  omega
theorem mk_lt : ∀ k, k < 6 → mk k < 18446744073709551616 := by decide
theorem i64w' (n : Nat) (h : n < 9223372036854775808) : IntKind.i64.wrap (n : Int) = (n : Int) := by rw [IntKind.wrap_i64]; omega
theorem infoU64 : (Try.prog.info? 95).map (fun i => (i.zero, i.size, i.bytes)) = some (some (.int .u64 0), 1, 8) := by kernel_rfl
/-- an element of an array of numbers -/
theorem run_index_one (P : Program) (w : World) (t e : TypeId) (n : Nat) (i : TypeInfo) (cs : Array Value) (k : Nat) (v : Value) (hk : k < n) (ht : P.underlying t = some (.array n e)) (he : P.underlying e = some (.int .u64)) (hi : P.info? e = some i) (hsz : i.size = 1) (hv : cs[k]? = some v) :
    (Instr.index t (.agg cs) (.int .i64 (k : Int))).run P w = .ok v w := by
  have h1 : (0 : Int) ≤ (k : Int) ∧ (k : Int) < (n : Int) := by omega
  simp [Instr.index, run_underlying ht, asIntOf, h1, part, isAgg, run_underlying he, sizeOf, typeInfo, hi, hsz, hk, hv]
set_option maxHeartbeats 2000000 in
theorem syn_w (w : World) (x : Nat) (hx : x < 18446744073709551616) : Calls Try.prog 112 #[.int .u64 (x : Int)] w fun e w' => e = .returned (.int .i64 (syn x : Int)) ∧ Keep w.heap.size [] w w' := by
  rw [← synU_syn]
  obtain ⟨i0, hi0, hz0, hz1, hz2⟩ := info_parts infoU64
  go_enter Try.func112, Try.ntmps112
  go_wp2_with fail
  refine (masks_w _).mono ?_
  rintro e W1 ⟨rfl, hk⟩
  have K1 := Lib.hid hk
  clear hk
  go_wp2_with fail
  go_loopw [3, 7] (fun s kk wr => ∃ k : Nat, k ≤ 6 ∧ kk = .int .i64 k ∧ s = .int .i64 (synU k x : Int) ∧ wr = W1) (fun _ kk _ => 6 - (intOf kk).toNat)
  case atStart => exact ⟨0, by omega, rfl, rfl, by first | rfl | trivial⟩
  case round =>
    obtain ⟨k, hk6, rfl, rfl, rfl⟩ := hrel
    by_cases hkl : k < 6
    · have hki : (k : Int) < 6 := by omega
      have hix : ∀ W : World, (Instr.index 200 (.agg (cM mk)) (.int .i64 (k : Int))).run Try.prog W = .ok (.int .u64 (mk k : Int)) W := fun W => by
        exact run_index_one Try.prog W 200 95 6 i0 (cM mk) k _ hkl Try.underlying200 Try.underlying95 hi0 hz1 (cM_at mk k hkl)
      have e1 := u64_and_nat x (mk k) hx (mk_lt k hkl)
      have hl : x &&& mk k < 18446744073709551616 := Nat.lt_of_le_of_lt Nat.and_le_left hx
      have e2 := ones_par hl
      obtain ⟨p, hp⟩ : ∃ p, p = parN 64 (x &&& mk k) := ⟨_, rfl⟩
      rw [← hp] at e2
      have hp1 : p ≤ 1 := by rw [hp]; exact parN_le _ _
      have hpk : p * 2 ^ k < 64 := by
        have : (2 : Nat) ^ k ≤ 32 := by have := Nat.pow_le_pow_right (n := 2) (by decide) (by omega : k ≤ 5); simpa using this
        rcases (by omega : p = 0 ∨ p = 1) with h | h <;> rw [h] <;> omega
      have e3 : IntKind.i64.wrap ((p : Int) * 2 ^ k) = ((p * 2 ^ k : Nat) : Int) := by
        rw [← i64w' (p * 2 ^ k) (by omega)]; simp
      have hsl := synU_lt k x
      have hs2 : (2 : Nat) ^ k ≤ 64 := by have := Nat.pow_le_pow_right (n := 2) (by decide) hk6; simpa using this
      have e4 := i64_or_nat (synU k x) (p * 2 ^ k) (by omega) (by omega)
      have e5 : synU (k + 1) x = synU k x ||| p * 2 ^ k := by rw [hp]; rfl
      rw [← e5] at e4
      have ec : ((p * 2 ^ k : Nat) : Int) = (p : Int) * 2 ^ k := by simp
      rw [ec] at e4 e3
      clear ec
      obtain ⟨y, hy⟩ : ∃ y, y = x &&& mk k := ⟨_, rfl⟩
      rw [← hy] at e1 e2 hl
      have HL := Lib.hid hl
      clear hp hp1 hpk hsl hs2 e5 hy hl
      go_wp2_with fail
      refine (ones_w _ y HL.out).mono ?_
      rintro e w' ⟨rfl, rfl⟩
      go_wp2_with fail
      go_roundw
      case rel => exact ⟨k + 1, by omega, by go_num, rfl, by first | rfl | trivial⟩
      case measure => simp [intOf] <;> omega
    · obtain rfl : k = 6 := by omega
      go_wp2_with fail
      go_ret
      exact ⟨rfl, K1.out⟩
end Go.Proofs.Ytfkbcflgbjncdaa
