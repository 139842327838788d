/- Encode. -/
import Derived.Test.YtfkbcflgbjncdaaEccD
namespace Go.Proofs.Ytfkbcflgbjncdaa
set_option linter.unusedVariables false
set_option linter.unusedSimpArgs false
open Go.RowKit
theorem i64_and_nat (a b : Nat) (ha : a < 9223372036854775808) (hb : b < 9223372036854775808) : bits .and .i64 (a : Int) (b : Int) = ((a &&& b : Nat) : Int) := by
  have hx : a &&& b < 2 ^ 63 := Nat.and_lt_two_pow _ (by omega)
  show IntKind.i64.wrap ((BitVec.ofInt 64 (a : Int) &&& BitVec.ofInt 64 (b : Int)).toNat : Int) = _
  have e1 : (BitVec.ofInt 64 (a : Int)).toNat = a := by rw [BitVec.toNat_ofInt]; omega
  have e2 : (BitVec.ofInt 64 (b : Int)).toNat = b := by rw [BitVec.toNat_ofInt]; omega
  rw [BitVec.toNat_and, e1, e2, IntKind.wrap_i64]
  omega
set_option maxHeartbeats 1000000 in
theorem check_w (w : World) (p : Nat) (v : Bool) (h1 : 1 ≤ p) (h2 : p ≤ 39) (hv : chk p = v) : Calls Try.prog 111 #[.int .i64 (p : Int)] w fun e w' => e = .returned (.bool v) ∧ w = w' := by
  have e1 : ((p : Int) - 1) = ((p - 1 : Nat) : Int) := by omega
  have e2 := i64_and_nat p (p - 1) (by omega) (by omega)
  rw [← e1] at e2
  obtain ⟨y, hy⟩ : ∃ y, y = p &&& (p - 1) := ⟨_, rfl⟩
  rw [← hy] at e2
  unfold chk at hv
  rw [← hy] at hv
  have h3 : (p : Int) ≤ 39 := by omega
  have h4 : (1 : Int) ≤ (p : Int) := by omega
  have e3 : ((y : Int) == 0) = v := by
    rw [← hv]
    by_cases h : y = 0
    · subst h; rfl
    · have a1 : ((y : Int) == 0) = false := by rw [beq_eq_false_iff_ne]; omega
      have a2 : (y == 0) = false := by rw [beq_eq_false_iff_ne]; exact h
      rw [a1, a2]
  clear hv hy e1
  go_enter Try.func111, Try.ntmps111
  go_wp2_with fail
  go_ret
  exact ⟨by rw [← e3]; rfl, rfl⟩
theorem plc_lt : ∀ (p d : Nat), plc p d < 2 ^ p
  | 0, d => by simp [plc]
  | p + 1, d => by
    have h := plc_lt p d
    have h2 : (2 : Nat) ^ p < 2 ^ (p + 1) := Nat.pow_lt_pow_right (by decide) (by omega)
    rw [plc]
    split
    · omega
    · rw [Nat.shiftLeft_eq, ← or_shl h]
      exact or_lt h (by have := Nat.and_le_right (n := d >>> cnt p) (m := 1); exact this)
theorem or_bit {a b q : Nat} (h : a >>> q &&& 1 = 0) (hb : b ≤ 1) : a ||| b * 2 ^ q = a ^^^ b * 2 ^ q := by
  apply Nat.eq_of_testBit_eq
  intro i
  rw [Nat.testBit_or, Nat.testBit_xor, Nat.testBit_mul_two_pow]
  by_cases hi : i = q
  · subst hi
    have : a.testBit i = false := by
      rw [Nat.testBit_eq_decide_div_mod_eq]
      rw [Nat.shiftRight_eq_div_pow, Nat.and_one_is_mod] at h
      simp [h]
    rw [this]; simp
  · have h0 : (decide (q ≤ i) && b.testBit (i - q)) = false := by
      by_cases h1 : q ≤ i
      · have : b.testBit (i - q) = false := Nat.testBit_lt_two_pow (Nat.lt_of_le_of_lt hb (Nat.one_lt_two_pow (by omega)))
        simp [this]
      · simp [h1]
    rw [h0]; simp
theorem plc_free {d k : Nat} (h : d < 2 ^ 32) (hk : k < 6) : plc 39 d >>> 2 ^ k &&& 1 = 0 := by
  have key : ∀ k, k < 6 → ∀ i, i < 32 → plc 39 (2 ^ i) >>> 2 ^ k &&& 1 = 0 := by decide +kernel
  exact Lin.iff (fun x => plc 39 x >>> 2 ^ k &&& 1) (fun _ => 0) ((Lin.and 1).comp ((Lin.shr _).comp (plc_lin 39))) Lin.zero' 32 (key k hk) d h
theorem cks_free {s k : Nat} (h : s < 2 ^ 6) (hk : k < 6) : cks k s >>> 2 ^ k &&& 1 = 0 := by
  have key : ∀ k, k < 6 → ∀ i, i < 6 → cks k (2 ^ i) >>> 2 ^ k &&& 1 = 0 := by decide +kernel
  exact Lin.iff (fun x => cks k x >>> 2 ^ k &&& 1) (fun _ => 0) ((Lin.and 1).comp ((Lin.shr _).comp (cks_lin k))) Lin.zero' 6 (key k hk) s h
theorem enc_free {d s k : Nat} (h : d < 2 ^ 32) (hs : s < 2 ^ 6) (hk : k < 6) : (plc 39 d ^^^ cks k s) >>> 2 ^ k &&& 1 = 0 := by
  rw [(Lin.shr (2 ^ k)).xor, (Lin.and 1).xor, plc_free h hk, cks_free hs hk]; rfl
theorem enc0_free {d : Nat} (h : d < 2 ^ 32) : enc0 d >>> 0 &&& 1 = 0 := by
  have key : ∀ i, i < 32 → enc0 (2 ^ i) >>> 0 &&& 1 = 0 := by decide +kernel
  exact Lin.iff (fun x => enc0 x >>> 0 &&& 1) (fun _ => 0) ((Lin.and 1).comp ((Lin.shr _).comp enc0_lin)) Lin.zero' 32 key d h
theorem cks_lt : ∀ k, k ≤ 6 → ∀ s, cks k s < 2 ^ 39
  | 0, _, s => by simp [cks]
  | k + 1, hk, s => by
    rw [cks]
    refine Nat.xor_lt_two_pow (cks_lt k (by omega) s) ?_
    rw [Nat.shiftLeft_eq]
    have h1 : s >>> k &&& 1 ≤ 1 := Nat.and_le_right
    have h2 : (2 : Nat) ^ (2 ^ k) < 2 ^ 39 := by
      have : ∀ k, k < 6 → (2 : Nat) ^ (2 ^ k) < 2 ^ 39 := by decide
      exact this k (by omega)
    rcases (by omega : s >>> k &&& 1 = 0 ∨ s >>> k &&& 1 = 1) with h | h <;> rw [h]
    · simp
    · rw [Nat.one_mul]; exact h2
theorem cnt_39 : ∀ p, p ≤ 39 → cnt p ≤ 32 := by decide
theorem u32w (n : Nat) (h : n < 4294967296) : IntKind.u32.wrap (n : Int) = (n : Int) := by rw [IntKind.wrap_u32]; omega
end Go.Proofs.Ytfkbcflgbjncdaa
