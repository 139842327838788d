/- Knuth's division of two words by one, plainly. -/
import Derived.Test.YtdckpamempejgaaTBits
namespace Go.Proofs.Ytdckpamempejgaa
set_option linter.unusedVariables false
set_option linter.unusedSimpArgs false
open Go.RowKit
theorem bitLenAux_bd : ∀ (f x : Nat), x < 2 ^ f → x < 2 ^ Lib.bitLenAux f x ∧ (x ≠ 0 → 2 ^ Lib.bitLenAux f x ≤ 2 * x)
  | 0, x, h => by
    have : x = 0 := by simpa using h
    subst this
    exact ⟨by simp [Lib.bitLenAux], fun h => absurd rfl h⟩
  | f + 1, x, h => by
    unfold Lib.bitLenAux
    by_cases h0 : x = 0
    · rw [if_pos h0]; subst h0; exact ⟨by simp, fun h => absurd rfl h⟩
    · rw [if_neg h0]
      have ih := bitLenAux_bd f (x / 2) (by rw [Nat.pow_succ] at h; omega)
      rw [Nat.add_comm 1, Nat.pow_succ]
      refine ⟨by omega, fun _ => ?_⟩
      by_cases h1 : x / 2 = 0
      · have : x = 1 := by omega
        subst this
        have hz : Lib.bitLenAux f 0 = 0 := by cases f <;> simp [Lib.bitLenAux]
        rw [show 1 / 2 = 0 from rfl, hz]; decide
      · have := ih.2 h1
        omega
/-- how far y is shifted -/
theorem norm (y : Int) (h1 : 1 ≤ y) (h2 : y < 18446744073709551616) : ∃ s : Nat, s ≤ 63 ∧ 64 - (Lib.bitLen y.toNat : Int) = s ∧ 9223372036854775808 ≤ y * 2 ^ s ∧ y * 2 ^ s < 18446744073709551616 := by
  obtain ⟨n, rfl⟩ := Int.eq_ofNat_of_zero_le (show 0 ≤ y by omega)
  have hb := bitLenAux_bd 64 n (by omega)
  obtain ⟨L, hL⟩ : ∃ L, Lib.bitLenAux 64 n = L := ⟨_, rfl⟩
  rw [hL] at hb
  obtain ⟨hb1, hb2⟩ := hb
  have hb2 := hb2 (by omega)
  have hL64 : L ≤ 64 := by
    rcases Nat.lt_or_ge 64 L with h | h
    · have : 2 ^ 65 ≤ 2 ^ L := Nat.pow_le_pow_right (by decide) h
      omega
    · exact h
  have hL1 : 1 ≤ L := by
    rcases Nat.eq_zero_or_pos L with h | h
    · subst h; omega
    · exact h
  have hp : 2 ^ L * 2 ^ (64 - L) = 2 ^ 64 := by rw [← Nat.pow_add]; congr 1; omega
  obtain ⟨P, hP⟩ : ∃ P, 2 ^ (64 - L) = P := ⟨_, rfl⟩
  obtain ⟨M, hM⟩ : ∃ M, 2 ^ L = M := ⟨_, rfl⟩
  rw [hP, hM] at hp
  rw [hM] at hb1 hb2
  have hPp : 0 < P := by rw [← hP]; exact Nat.pow_pos (by decide)
  have e1 : n * P < M * P := Nat.mul_lt_mul_of_pos_right hb1 hPp
  have e2 : M * P ≤ 2 * n * P := Nat.mul_le_mul_right P hb2
  rw [Nat.mul_assoc] at e2
  refine ⟨64 - L, by omega, ?_, ?_, ?_⟩
  · have : Lib.bitLen (n : Int).toNat = L := by rw [← hL]; rfl
    rw [this]; omega
  · rw [show (2 : Int) ^ (64 - L) = ((2 ^ (64 - L) : Nat) : Int) from by rw [Int.natCast_pow]; rfl, hP, ← Int.natCast_mul]; omega
  · rw [show (2 : Int) ^ (64 - L) = ((2 ^ (64 - L) : Nat) : Int) from by rw [Int.natCast_pow]; rfl, hP, ← Int.natCast_mul]; omega
/-- the two words shifted -/
theorem shifted (hi lo y : Int) (s : Nat) (hs : s ≤ 63) (h0 : 0 ≤ hi) (h1 : hi < y) (l0 : 0 ≤ lo) (l1 : lo < 18446744073709551616) (Y : Int) (hY : y * 2 ^ s = Y) :
    (hi * 2 ^ s + lo / 2 ^ (64 - s)) * 18446744073709551616 + lo * 2 ^ s % 18446744073709551616 = (hi * 18446744073709551616 + lo) * 2 ^ s ∧ 0 ≤ lo / 2 ^ (64 - s) ∧ lo / 2 ^ (64 - s) < 2 ^ s ∧ hi * 2 ^ s + lo / 2 ^ (64 - s) < Y ∧ 0 ≤ hi * 2 ^ s ∧ hi * 2 ^ s ≤ Y - 2 ^ s := by
  have hp : (2 : Int) ^ s * 2 ^ (64 - s) = 18446744073709551616 := by rw [← Int.pow_add, show s + (64 - s) = 64 from by omega]; rfl
  obtain ⟨P, hP⟩ : ∃ P : Int, 2 ^ s = P := ⟨_, rfl⟩
  obtain ⟨M, hM⟩ : ∃ M : Int, 2 ^ (64 - s) = M := ⟨_, rfl⟩
  have hPp : 0 < P := by rw [← hP]; exact Int.pow_pos (by decide)
  have hMp : 0 < M := by rw [← hM]; exact Int.pow_pos (by decide)
  rw [hP] at hY ⊢
  rw [hM]
  rw [hP, hM] at hp
  have e1 : lo * P / 18446744073709551616 = lo / M := by
    rw [← hp, Int.mul_comm P M]
    exact Int.mul_ediv_mul_of_pos_left _ _ hPp
  have e2 := Int.mul_ediv_add_emod (lo * P) 18446744073709551616
  rw [e1] at e2
  have e3 : lo / M < P := by
    apply Int.ediv_lt_of_lt_mul hMp
    omega
  have e4 : 0 ≤ lo / M := Int.ediv_nonneg l0 (by omega)
  have e5 : (hi + 1) * P ≤ y * P := Int.mul_le_mul_of_nonneg_right (by omega) (by omega)
  rw [Int.add_mul, hY] at e5
  have e6 : 0 ≤ hi * P := Int.mul_nonneg h0 (by omega)
  refine ⟨?_, e4, e3, by omega, e6, by omega⟩
  rw [Int.add_mul, Int.add_mul (hi * 18446744073709551616)]
  have e7 : hi * 18446744073709551616 * P = hi * P * 18446744073709551616 := by rw [Int.mul_assoc, Int.mul_assoc, Int.mul_comm 18446744073709551616]
  rw [e7]
  omega
/-- the division's end -/
theorem fin (N y : Int) (s : Nat) (hy : 1 ≤ y) (q R Y : Int) (hY : y * 2 ^ s = Y) (h : N * 2 ^ s = q * Y + R) (h0 : 0 ≤ R) (h1 : R < Y) : q = N / y ∧ R / 2 ^ s = N % y := by
  obtain ⟨P, hP⟩ : ∃ P : Int, 2 ^ s = P := ⟨_, rfl⟩
  have hPp : 0 < P := by rw [← hP]; exact Int.pow_pos (by decide)
  rw [hP] at hY h ⊢
  have hR : R = (N - q * y) * P := by
    rw [Int.sub_mul, Int.mul_assoc, hY]; omega
  have hr : R / P = N - q * y := by rw [hR]; exact Int.mul_ediv_cancel _ (by omega)
  have r0 : 0 ≤ N - q * y := by rw [← hr]; exact Int.ediv_nonneg h0 (by omega)
  have r1 : N - q * y < y := by
    rw [← hr]
    apply Int.ediv_lt_of_lt_mul hPp
    rw [hY]; exact h1
  have hd : N / y = q := by
    have : N = (N - q * y) + q * y := by omega
    rw [this, Int.add_mul_ediv_right _ _ (by omega), Int.ediv_eq_zero_of_lt r0 r1]
    omega
  refine ⟨hd.symm, ?_⟩
  rw [hr, Int.emod_def, hd, Int.mul_comm]
/-- one digit: the numbers that the loop turns over -/
structure Dig (Y Y1 Y0 U u q : Int) : Prop where
  y : Y = Y1 * 4294967296 + Y0
  y1 : 2147483648 ≤ Y1
  y2 : Y1 < 4294967296
  y0 : 0 ≤ Y0
  y3 : Y0 < 4294967296
  u0 : 0 ≤ U
  u1 : U < Y
  v0 : 0 ≤ u
  v1 : u < 4294967296
  q : (U * 4294967296 + u) / Y = q
theorem Dig.q_bd {Y Y1 Y0 U u q : Int} (d : Dig Y Y1 Y0 U u q) : 0 ≤ q ∧ q < 4294967296 ∧ 0 ≤ U * 4294967296 + u - q * Y ∧ U * 4294967296 + u - q * Y < Y := by
  have h := d.q
  have hy := d.y
  have y1 := d.y1; have y0 := d.y0; have u0 := d.u0; have u1 := d.u1; have v0 := d.v0; have v1 := d.v1
  have hYp : 0 < Y := by omega
  have a := Int.mul_ediv_add_emod (U * 4294967296 + u) Y
  have b := Int.emod_nonneg (U * 4294967296 + u) (show Y ≠ 0 by omega)
  have c := Int.emod_lt_of_pos (U * 4294967296 + u) hYp
  rw [h, Int.mul_comm] at a
  refine ⟨?_, ?_, by omega, by omega⟩
  · rw [← h]; exact Int.ediv_nonneg (by omega) (by omega)
  · rw [← h]
    apply Int.ediv_lt_of_lt_mul hYp
    omega
/-- the loop's head: an estimate not below the digit -/
structure Est (Y1 U q p r : Int) : Prop where
  ge : q ≤ p
  le : p ≤ 4294967297
  r0 : 0 ≤ r
  r1 : r < 4294967296
  eq : p * Y1 + r = U
theorem Dig.start {Y Y1 Y0 U u q : Int} (d : Dig Y Y1 Y0 U u q) : Est Y1 U q (U / Y1) (U - U / Y1 * Y1) := by
  have hb := d.q_bd
  have hy := d.y
  have y1 := d.y1; have y2 := d.y2; have y0 := d.y0; have y3 := d.y3; have u0 := d.u0; have u1 := d.u1; have v0 := d.v0; have v1 := d.v1
  have a := Int.mul_ediv_add_emod U Y1
  have b := Int.emod_nonneg U (show Y1 ≠ 0 by omega)
  have c := Int.emod_lt_of_pos U (show 0 < Y1 by omega)
  rw [Int.mul_comm] at a
  obtain ⟨p, hp⟩ : ∃ p, U / Y1 = p := ⟨_, rfl⟩
  rw [hp] at a ⊢
  refine ⟨?_, ?_, by omega, by omega, by omega⟩
  · rcases Int.lt_or_le p q with h | h
    · exfalso
      have h1 : (p + 1) * Y ≤ q * Y := Int.mul_le_mul_of_nonneg_right (by omega) (by omega)
      have h2 : (p + 1) * Y1 * 4294967296 + (p + 1) * Y0 = (p + 1) * Y := by rw [hy, Int.mul_add, Int.mul_assoc]
      have h3 : (p + 1) * Y1 = p * Y1 + Y1 := by rw [Int.add_mul]; omega
      have hp0 : 0 ≤ p := by rw [← hp]; exact Int.ediv_nonneg u0 (by omega)
      have h4 : 0 ≤ (p + 1) * Y0 := Int.mul_nonneg (by omega) y0
      omega
    · exact h
  · rcases Int.lt_or_le 4294967297 p with h | h
    · exfalso
      have h1 : 4294967298 * Y1 ≤ p * Y1 := Int.mul_le_mul_of_nonneg_right (by omega) (by omega)
      omega
    · exact h
/-- an estimate that is too great -/
theorem Dig.big {Y Y1 Y0 U u q p r : Int} (d : Dig Y Y1 Y0 U u q) (e : Est Y1 U q p r) (h : 4294967296 ≤ p ∨ 4294967296 * r + u < p * Y0) : q < p := by
  have hb := d.q_bd
  have hy := d.y
  have he := e.eq
  rcases h with h | h
  · omega
  · rcases Int.lt_or_le q p with h2 | h2
    · exact h2
    · have h3 : p = q := by have := e.ge; omega
      subst h3
      have h4 : p * Y = p * Y1 * 4294967296 + p * Y0 := by rw [hy, Int.mul_add, Int.mul_assoc]
      omega
/-- one that is right -/
theorem Dig.right {Y Y1 Y0 U u q p r : Int} (d : Dig Y Y1 Y0 U u q) (ge : q ≤ p) (eq : p * Y1 + r = U) (h : p * Y0 ≤ 4294967296 * r + u) : p = q := by
  have hb := d.q_bd
  have hy := d.y
  have y1 := d.y1; have y0 := d.y0
  rcases Int.lt_or_le q p with h2 | h2
  · exfalso
    have h4 : p * Y = p * Y1 * 4294967296 + p * Y0 := by rw [hy, Int.mul_add, Int.mul_assoc]
    have h5 : (q + 1) * Y ≤ p * Y := Int.mul_le_mul_of_nonneg_right (by omega) (by omega)
    rw [Int.add_mul] at h5
    omega
  · omega
/-- the loop's step -/
theorem Dig.step {Y Y1 Y0 U u q p r : Int} (d : Dig Y Y1 Y0 U u q) (e : Est Y1 U q p r) (h : q < p) : q ≤ p - 1 ∧ (p - 1) * Y1 + (r + Y1) = U ∧ 0 ≤ r + Y1 ∧ r + Y1 < 8589934592 ∧ (r + Y1 < 4294967296 → Est Y1 U q (p - 1) (r + Y1)) ∧ (4294967296 ≤ r + Y1 → p - 1 = q) := by
  have y1 := d.y1; have y2 := d.y2; have y0 := d.y0; have y3 := d.y3; have v0 := d.v0; have v1 := d.v1
  have r0 := e.r0; have r1 := e.r1; have he := e.eq; have le := e.le
  have hb := d.q_bd
  have h1 : (p - 1) * Y1 + (r + Y1) = U := by rw [Int.sub_mul]; omega
  refine ⟨by omega, h1, by omega, by omega, fun h2 => ⟨by omega, by omega, by omega, h2, h1⟩, fun h2 => ?_⟩
  refine d.right (by omega) h1 ?_
  have h3 : (p - 1) * Y0 ≤ 4294967296 * Y0 := Int.mul_le_mul_of_nonneg_right (by omega) y0
  omega
end Go.Proofs.Ytdckpamempejgaa
