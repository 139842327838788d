/- bits.OnesCount64; parity. -/
import Derived.Test.YtfkbcflgbjncdaaEccA
import Derived.Laws.Bits128
import Derived.Laws.BitsAllLaws
namespace Go.Proofs.Ytfkbcflgbjncdaa
set_option linter.unusedVariables false
set_option linter.unusedSimpArgs false
open Go.RowKit
theorem bitsN (x y : Nat) (Y : Int) (hY : Y = (y : Int)) (hx : x < 18446744073709551616) (hy : y < 18446744073709551616) : bits BinOp.and IntKind.u64 (x : Int) Y = ((x &&& y : Nat) : Int) := hY ▸ u64_and_nat x y hx hy
theorem u64w (x : Nat) (h : x < 18446744073709551616) : IntKind.u64.wrap (x : Int) = (x : Int) := by rw [IntKind.wrap_u64]; omega
set_option maxHeartbeats 1000000 in
theorem ones_w (w : World) (x : Nat) (hx : x < 18446744073709551616) : Calls Try.prog 146 #[.int .u64 (x : Int)] w fun e w' => e = .returned (.int .i64 (ones x : Int)) ∧ w = w' := by
  obtain ⟨b1, b2, b3, b4, b5, b6, _, _⟩ := ones_all x hx
  obtain ⟨y1, hy1⟩ : ∃ y, y = o1 x := ⟨_, rfl⟩
  obtain ⟨y2, hy2⟩ : ∃ y, y = o2 y1 := ⟨_, rfl⟩
  obtain ⟨y3, hy3⟩ : ∃ y, y = o3 y2 := ⟨_, rfl⟩
  obtain ⟨y4, hy4⟩ : ∃ y, y = o4 y3 := ⟨_, rfl⟩
  obtain ⟨y5, hy5⟩ : ∃ y, y = o5 y4 := ⟨_, rfl⟩
  obtain ⟨y6, hy6⟩ : ∃ y, y = o6 y5 := ⟨_, rfl⟩
  have hon : ones x = y6 % 128 := by rw [hy6, hy5, hy4, hy3, hy2, hy1]; rfl
  rw [← hy1] at b1 b2 b3 b4 b5 b6
  rw [← hy2] at b2 b3 b4 b5 b6
  rw [← hy3] at b4 b5 b6
  rw [← hy4] at b4 b5 b6
  rw [← hy5] at b5 b6
  rw [← hy6] at b6
  have w1 : IntKind.u64.wrap (bits BinOp.and IntKind.u64 ((x : Int) / 2) 6148914691236517205 + bits BinOp.and IntKind.u64 (x : Int) 6148914691236517205) = (y1 : Int) := by
    have e1 := bitsN (x / 2) 6148914691236517205 6148914691236517205 rfl (by omega) (by decide)
    have e2 := bitsN x 6148914691236517205 6148914691236517205 rfl hx (by decide)
    have e3 : ((x : Int) / 2) = ((x / 2 : Nat) : Int) := by omega
    rw [e3, e1, e2, ← Int.natCast_add]
    have : (x / 2 &&& 6148914691236517205) + (x &&& 6148914691236517205) = y1 := by rw [hy1]; rfl
    rw [this, u64w _ b1]
  have w2 : IntKind.u64.wrap (bits BinOp.and IntKind.u64 ((y1 : Int) / 4) 3689348814741910323 + bits BinOp.and IntKind.u64 (y1 : Int) 3689348814741910323) = (y2 : Int) := by
    have e1 := bitsN (y1 / 4) 3689348814741910323 3689348814741910323 rfl (by omega) (by decide)
    have e2 := bitsN y1 3689348814741910323 3689348814741910323 rfl b1 (by decide)
    have e3 : ((y1 : Int) / 4) = ((y1 / 4 : Nat) : Int) := by omega
    rw [e3, e1, e2, ← Int.natCast_add]
    have : (y1 / 4 &&& 3689348814741910323) + (y1 &&& 3689348814741910323) = y2 := by rw [hy2]; rfl
    rw [this, u64w _ b2]
  have w3 : bits BinOp.and IntKind.u64 (IntKind.u64.wrap ((y2 : Int) / 16 + (y2 : Int))) 1085102592571150095 = (y3 : Int) := by
    have e3 : ((y2 : Int) / 16 + (y2 : Int)) = ((y2 / 16 + y2 : Nat) : Int) := by omega
    have e1 := bitsN (y2 / 16 + y2) 1085102592571150095 1085102592571150095 rfl b3 (by decide)
    rw [e3, u64w _ b3, e1, hy3]; rfl
  have w4 : IntKind.u64.wrap ((y3 : Int) + (y3 : Int) / 256) = (y4 : Int) := by
    have e3 : ((y3 : Int) + (y3 : Int) / 256) = (y4 : Int) := by rw [hy4]; unfold o4; omega
    rw [e3, u64w _ b4]
  have w5 : IntKind.u64.wrap ((y4 : Int) + (y4 : Int) / 65536) = (y5 : Int) := by
    have e3 : ((y4 : Int) + (y4 : Int) / 65536) = (y5 : Int) := by rw [hy5]; unfold o5; omega
    rw [e3, u64w _ b5]
  have w6 : IntKind.u64.wrap ((y5 : Int) + (y5 : Int) / 4294967296) = (y6 : Int) := by
    have e3 : ((y5 : Int) + (y5 : Int) / 4294967296) = (y6 : Int) := by rw [hy6]; unfold o6; omega
    rw [e3, u64w _ (by omega)]
  have w7 : IntKind.i64.wrap (y6 : Int) = (y6 : Int) := by rw [IntKind.wrap_i64]; omega
  have w8 := i64_and127 (y6 : Int)
  have HON := Lib.hid hon
  clear hy1 hy2 hy3 hy4 hy5 hy6 hon b1 b2 b3 b4 b5
  go_enter Try.func146, Try.ntmps146
  go_wp2_with fail
  go_ret
  rw [HON.out]
  exact ⟨by congr 2, rfl⟩
theorem i64_and1 (n : Nat) (h : n < 9223372036854775808) : bits .and .i64 (n : Int) 1 = ((n % 2 : Nat) : Int) := by
  have h1 : (BitVec.ofInt 64 1).toNat = 2 ^ 1 - 1 := by decide
  have key : (BitVec.ofInt 64 (n : Int) &&& BitVec.ofInt 64 1).toNat = ((n : Int) % ((2 ^ 64 : Nat) : Int)).toNat % 2 ^ 1 := by
    rw [BitVec.toNat_and, BitVec.toNat_ofInt, h1, Nat.and_two_pow_sub_one_eq_mod]
  show IntKind.i64.wrap ((BitVec.ofInt 64 (n : Int) &&& BitVec.ofInt 64 1).toNat : Nat) = _
  rw [key, IntKind.wrap_i64]
  omega
theorem ones_par {x : Nat} (hx : x < 18446744073709551616) : bits .and .i64 (ones x : Int) 1 = (parN 64 x : Int) := by
  obtain ⟨_, _, _, _, _, _, h1, h2⟩ := ones_all x hx
  rw [i64_and1 _ (by omega), h1]
set_option maxHeartbeats 1000000 in
theorem parity_w (w : World) (x : Nat) (hx : x < 18446744073709551616) : Calls Try.prog 113 #[.int .u64 (x : Int)] w fun e w' => e = .returned (.int .i64 (par39 x : Int)) ∧ w = w' := by
  have e1 := bitsN x 549755813887 549755813887 rfl hx (by decide)
  have hl : x &&& 549755813887 < 18446744073709551616 := Nat.lt_of_le_of_lt Nat.and_le_left hx
  have e2 := ones_par hl
  have h3 : (parN 64 (x &&& 549755813887) : Int) = (par39 x : Int) := rfl
  rw [h3] at e2
  have HL := Lib.hid hl
  clear hl h3
  go_enter Try.func113, Try.ntmps113
  go_wp2_with fail
  refine (ones_w _ (x &&& 549755813887) HL.out).mono ?_
  rintro e w' ⟨rfl, rfl⟩
  go_wp2_with fail
  go_ret
  exact ⟨rfl, rfl⟩
end Go.Proofs.Ytfkbcflgbjncdaa
