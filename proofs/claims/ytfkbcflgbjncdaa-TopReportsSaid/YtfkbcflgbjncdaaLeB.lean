/- The ledger's records, plainly: what Mark does to the bits; a ledger's image is read back. -/
import Derived.Test.YtfkbcflgbjncdaaLeA
namespace Go.Proofs.Ytfkbcflgbjncdaa
set_option linter.unusedVariables false
set_option linter.unusedSimpArgs false
theorem bitAt_nat (x k : Nat) : bitAt (x : Int) k = x.testBit k := by
  rw [Nat.testBit_eq_decide_div_mod_eq]
  unfold bitAt
  have e : ((x : Int) / 2 ^ k % 2) = ((x / 2 ^ k % 2 : Nat) : Int) := by simp
  rw [e]
  by_cases h : x / 2 ^ k % 2 = 1
  · rw [h]; decide
  · rw [decide_eq_false h]
    exact beq_false_of_ne (by omega)
theorem orU_nat (x y : Nat) (hx : x < 18446744073709551616) (hy : y < 18446744073709551616) : orU (x : Int) (y : Int) = ((x ||| y : Nat) : Int) := by
  unfold orU; exact u64_or_nat x y hx hy
theorem shlU_nat (x d : Nat) : shlU (x : Int) d = ((x * 2 ^ d % 18446744073709551616 : Nat) : Int) := by
  unfold shlU; simp
theorem pow2_nat (d : Nat) : (2 : Int) ^ d = ((2 ^ d : Nat) : Int) := by simp
theorem shl_bit (x d j : Nat) : (x * 2 ^ d % 18446744073709551616).testBit j = (decide (j < 64) && (decide (d ≤ j) && x.testBit (j - d))) := by
  have e : (18446744073709551616 : Nat) = 2 ^ 64 := rfl
  rw [e, Nat.testBit_mod_two_pow, ← Nat.shiftLeft_eq, Nat.testBit_shiftLeft]
structure MkR (r : Rc) (n : Int) : Prop where
  ok : RcOk r
  hn : 1 ≤ n ∧ n ≤ 65535
  ns : seenB r n = false
theorem mark_up {r : Rc} {n : Int} (h : MkR r n) (hlt : r.n < n) {x d : Nat} (hx : r.m = (x : Int)) (hd : n - r.n = (d : Int)) :
    markR r n = ⟨n, ((x * 2 ^ d % 18446744073709551616 ||| 1 : Nat) : Int)⟩ := by
  unfold markR
  rw [if_pos hlt, hx, hd, Int.toNat_natCast, shlU_nat, show (1 : Int) = ((1 : Nat) : Int) from rfl, orU_nat _ _ (Nat.mod_lt _ (by decide)) (by decide)]
theorem mark_in {r : Rc} {n : Int} (h : MkR r n) (hlt : ¬ r.n < n) {x d : Nat} (hx : r.m = (x : Int)) (hd : r.n - n = (d : Int)) :
    d < 64 ∧ markR r n = ⟨r.n, ((x ||| 2 ^ d : Nat) : Int)⟩ := by
  have hd64 : d < 64 := by
    have := h.ns
    unfold seenB at this
    simp only [Bool.or_eq_false_iff, decide_eq_false_iff_not] at this
    omega
  refine ⟨hd64, ?_⟩
  unfold markR
  have hxb : x < 18446744073709551616 := by have := h.ok.2; omega
  have hp : 2 ^ d < 18446744073709551616 := by
    have : 2 ^ d ≤ 2 ^ 63 := Nat.pow_le_pow_right (by decide) (by omega)
    omega
  rw [if_neg hlt, hx, hd, Int.toNat_natCast, pow2_nat, orU_nat _ _ hxb hp]
theorem seenB_nat {r : Rc} {x : Nat} (hx : r.m = (x : Int)) (k : Int) : seenB r k = (decide (64 ≤ r.n - k) || (decide (0 ≤ r.n - k) && x.testBit (r.n - k).toNat)) := by
  unfold seenB; rw [hx, bitAt_nat]
theorem seen_marked {r : Rc} {n : Int} (h : MkR r n) : seenB (markR r n) n = true := by
  obtain ⟨x, hx⟩ := Int.eq_ofNat_of_zero_le h.ok.2.1
  by_cases hlt : r.n < n
  · obtain ⟨d, hd⟩ := Int.eq_ofNat_of_zero_le (show 0 ≤ n - r.n by omega)
    rw [mark_up h hlt hx hd, seenB_nat rfl]
    simp
  · obtain ⟨d, hd⟩ := Int.eq_ofNat_of_zero_le (show 0 ≤ r.n - n by omega)
    obtain ⟨hd64, e⟩ := mark_in h hlt hx hd
    rw [e, seenB_nat rfl]
    simp only [hd, Int.toNat_natCast, Nat.testBit_or, Nat.testBit_two_pow_self, Bool.or_true, Bool.and_true]
    simp
theorem seen_mono {r : Rc} {n k : Int} (h : MkR r n) (hk : seenB r k = true) : seenB (markR r n) k = true := by
  obtain ⟨x, hx⟩ := Int.eq_ofNat_of_zero_le h.ok.2.1
  rw [seenB_nat hx] at hk
  by_cases hlt : r.n < n
  · obtain ⟨d, hd⟩ := Int.eq_ofNat_of_zero_le (show 0 ≤ n - r.n by omega)
    rw [mark_up h hlt hx hd, seenB_nat rfl]
    simp only
    by_cases h64 : 64 ≤ n - k
    · rw [decide_eq_true h64]; rfl
    · have h1 : ¬ 64 ≤ r.n - k := by omega
      rw [decide_eq_false h1, Bool.false_or, Bool.and_eq_true] at hk
      have h2 := of_decide_eq_true hk.1
      obtain ⟨a, ha⟩ := Int.eq_ofNat_of_zero_le h2
      have hk2 := hk.2
      rw [ha, Int.toNat_natCast] at hk2
      have e : n - k = ((a + d : Nat) : Int) := by omega
      rw [e, Int.toNat_natCast, Nat.testBit_or, shl_bit, decide_eq_true (show a + d < 64 by omega), decide_eq_true (show d ≤ a + d by omega), show a + d - d = a by omega, hk2]
      simp
      omega
  · obtain ⟨d, hd⟩ := Int.eq_ofNat_of_zero_le (show 0 ≤ r.n - n by omega)
    obtain ⟨hd64, e⟩ := mark_in h hlt hx hd
    rw [e, seenB_nat rfl]
    simp only
    by_cases h64 : 64 ≤ r.n - k
    · rw [decide_eq_true h64]; rfl
    · rw [decide_eq_false h64, Bool.false_or, Bool.and_eq_true] at hk
      rw [hk.1, Nat.testBit_or, hk.2]
      simp
/-! ### the image read back -/
end Go.Proofs.Ytfkbcflgbjncdaa
