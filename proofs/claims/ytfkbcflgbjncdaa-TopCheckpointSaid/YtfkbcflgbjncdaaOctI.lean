/- zigzag and (*Writer).Int: their contracts. -/
import Derived.Test.YtfkbcflgbjncdaaOctW
namespace Go.Proofs.Ytfkbcflgbjncdaa
set_option linter.unusedVariables false
set_option linter.unusedSimpArgs false
open Go.RowKit
/-- the unsigned number of a signed one -/
def zz (n : Int) : Int := if n < 0 then -2 * n - 1 else 2 * n
theorem zz_eq (n : Int) (h0 : -9223372036854775808 ≤ n) (h1 : n ≤ 9223372036854775807) :
    bits BinOp.xor IntKind.u64 (IntKind.u64.wrap (IntKind.u64.wrap n * 2)) (IntKind.u64.wrap (n / 9223372036854775808)) = zz n := by
  by_cases h : n < 0
  · have e1 : IntKind.u64.wrap (n / 9223372036854775808) = 18446744073709551615 := by rw [IntKind.wrap_u64]; omega
    have e2 : IntKind.u64.wrap (IntKind.u64.wrap n * 2) = 2 * n + 18446744073709551616 := by simp only [IntKind.wrap_u64]; omega
    rw [e1, e2, zz, if_pos h]
    have hx : BitVec.ofInt 64 18446744073709551615 = BitVec.allOnes 64 := by decide
    have hb : (BitVec.ofInt 64 (2 * n + 18446744073709551616)).toNat = (2 * n + 18446744073709551616).toNat := by
      rw [BitVec.toNat_ofInt]; omega
    show IntKind.u64.wrap ((BitVec.ofInt 64 (2 * n + 18446744073709551616) ^^^ BitVec.ofInt 64 18446744073709551615).toNat : Int) = _
    rw [hx, BitVec.xor_allOnes, BitVec.toNat_not, hb, IntKind.wrap_u64]
    omega
  · have e1 : IntKind.u64.wrap (n / 9223372036854775808) = 0 := by rw [IntKind.wrap_u64]; omega
    have e2 : IntKind.u64.wrap (IntKind.u64.wrap n * 2) = 2 * n := by simp only [IntKind.wrap_u64]; omega
    rw [e1, e2, zz, if_neg h]
    have hx : BitVec.ofInt 64 0 = 0#64 := by decide
    have hb : (BitVec.ofInt 64 (2 * n)).toNat = (2 * n).toNat := by
      rw [BitVec.toNat_ofInt]; omega
    show IntKind.u64.wrap ((BitVec.ofInt 64 (2 * n) ^^^ BitVec.ofInt 64 0).toNat : Int) = _
    rw [hx, BitVec.xor_zero, hb, IntKind.wrap_u64]
    omega
set_option maxHeartbeats 1000000 in
theorem zigzag_any (w : World) (n : Int) (h0 : -9223372036854775808 ≤ n) (h1 : n ≤ 9223372036854775807) :
    Calls Try.prog 144 #[.int .i64 n] w fun e w' => e = .returned (.int .u64 (zz n)) ∧ w = w' := by
  have HZ := Lib.hid (zz_eq n h0 h1)
  go_enter Try.func144, Try.ntmps144
  go_wp2_with fail
  go_ret
  exact ⟨by rw [HZ.out]; rfl, rfl⟩

/-- the octets of a number in groups of seven bits -/
def vn (z : Nat) : List Int := if z < 128 then [(z : Int)] else ((z % 128 + 128 : Nat) : Int) :: vn (z / 128)
termination_by z
decreasing_by omega
theorem vn_small {z : Nat} (h : z < 128) : vn z = [(z : Int)] := by rw [vn, if_pos h]
theorem vn_big {z : Nat} (h : ¬ z < 128) : vn z = ((z % 128 + 128 : Nat) : Int) :: vn (z / 128) := by rw [vn, if_neg h]
theorem or128 (y : Fin 256) : y.val ||| 128 = y.val % 128 + 128 := by revert y; decide +kernel
theorem u8_or128 (z : Nat) : bits .or .u8 (IntKind.u8.wrap (z : Int)) 128 = ((z % 128 + 128 : Nat) : Int) := by
  have e : IntKind.u8.wrap (z : Int) = ((z % 256 : Nat) : Int) := by rw [IntKind.wrap_u8]; omega
  rw [e, u8_or _ _ (by omega) (by omega) (by decide) (by decide)]
  have := or128 ⟨z % 256, by omega⟩
  simp only at this
  have e2 : ((z % 256 : Nat) : Int).toNat = z % 256 := by omega
  rw [e2]
  show ((z % 256 ||| 128 : Nat) : Int) = _
  rw [this]
  omega
theorem zz_nonneg (n : Int) (h0 : -9223372036854775808 ≤ n) (h1 : n ≤ 9223372036854775807) : 0 ≤ zz n ∧ zz n < 18446744073709551616 := by
  unfold zz; split <;> omega
end Go.Proofs.Ytfkbcflgbjncdaa
