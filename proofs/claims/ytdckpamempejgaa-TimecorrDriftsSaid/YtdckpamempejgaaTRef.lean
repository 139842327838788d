/- The reference's division, digit by digit, and its scale. -/
import Derived.Test.YtdckpamempejgaaTDiv
namespace Go.Proofs.Ytdckpamempejgaa
set_option linter.unusedVariables false
set_option linter.unusedSimpArgs false
open Go.RowKit
def much : Int := 4398046511104
def maxT : Int := 1099511627776
theorem div_digit (X Z c : Int) (hc : 0 < c) : (2 * X + Z) / c = 2 * (X / c) + (2 * (X % c) + Z) / c ∧ (2 * X + Z) % c = (2 * (X % c) + Z) % c := by
  have h := Int.mul_ediv_add_emod X c
  have e : 2 * X + Z = (2 * (X % c) + Z) + 2 * (X / c) * c := by
    rw [Int.mul_assoc, Int.mul_comm (X / c)]; omega
  rw [e, Int.add_mul_ediv_right _ _ (by omega), Int.add_mul_emod_self_right]
  constructor
  · omega
  · rfl
def DivR (w : World) (q r : Int) (e : Ending) (w' : World) : Prop := e = .returned (.tuple #[.int .i64 q, .int .i64 r]) ∧ w' = w
theorem i64w (n : Int) (h0 : -9223372036854775808 ≤ n) (h1 : n ≤ 9223372036854775807) : IntKind.i64.wrap n = n := by
  rw [IntKind.wrap_i64]; omega
set_option maxHeartbeats 2000000 in
theorem divide_any (w : World) (a b c q r : Int) (ha : 0 ≤ a) (ha1 : a ≤ 1099511627776) (hb : 0 ≤ b) (hb1 : b ≤ 1099511627776) (hc : 1 ≤ c) (hc1 : c ≤ 1099511627776) (hq : min (a * b / c) much = q) (hr : a * b % c = r) :
    Calls Try.prog 30 #[.int .i64 a, .int .i64 b, .int .i64 c] w (DivR w q r) := by
  have HQ := Lib.hid (And.intro hq hr)
  clear hq hr
  go_enter Try.func30, Try.ntmps30
  go_wp2_with fail
  go_loop [8, 9, 10] (fun x y i => ∃ (j : Nat) (q' r' : Int), j ≤ 41 ∧ i = .int .i64 ((j : Int) - 1) ∧ x = .int .i64 q' ∧ y = .int .i64 r' ∧ min (a / 2 ^ j * b / c) much = q' ∧ a / 2 ^ j * b % c = r') (fun _ _ i => (intOf i + 1).toNat)
  case atStart =>
    have h0 : a / 2 ^ 41 = 0 := Int.ediv_eq_zero_of_lt ha (by omega)
    exact ⟨41, 0, 0, Nat.le_refl _, rfl, rfl, rfl, by rw [h0, Int.zero_mul, Int.zero_ediv]; rfl, by rw [h0, Int.zero_mul, Int.zero_emod]⟩
  case round =>
    obtain ⟨j, q', r', hj, rfl, rfl, rfl, hq, hr⟩ := hrel
    cases j with
    | zero =>
      rw [Int.pow_zero, Int.ediv_one] at hq hr
      have HE := Lib.hid (And.intro hq hr)
      clear hq hr
      go_wp2_with fail
      go_ret2
      exact ⟨by rw [← HQ.out.1, ← HQ.out.2, HE.out.1, HE.out.2]; rfl, rfl⟩
    | succ n =>
      obtain ⟨T, hT⟩ : ∃ T, a / 2 ^ n = T := ⟨_, rfl⟩
      have hT0 : 0 ≤ T := by rw [← hT]; exact Int.ediv_nonneg ha (Int.le_of_lt (Int.pow_pos (by decide)))
      have hA : a / 2 ^ (n + 1) = T / 2 := by rw [Int.pow_succ, ← Int.ediv_ediv_of_nonneg (Int.le_of_lt (Int.pow_pos (by decide))), hT]
      have hTa : T ≤ 1099511627776 := by rw [← hT]; exact Int.le_trans (Int.ediv_le_self _ ha) ha1
      rw [hA] at hq hr
      have hX0 : 0 ≤ T / 2 * b := Int.mul_nonneg (by omega) hb
      have hr0 : 0 ≤ r' := by rw [← hr]; exact Int.emod_nonneg _ (by omega)
      have hr1 : r' < c := by rw [← hr]; exact Int.emod_lt_of_pos _ (by omega)
      have hQ0 : 0 ≤ T / 2 * b / c := Int.ediv_nonneg hX0 (by omega)
      have hq0 : 0 ≤ q' ∧ q' ≤ 4398046511104 := by rw [← hq]; unfold much; omega
      obtain ⟨hq1, hq2⟩ := hq0
      have ht2 : T.tmod 2 = T % 2 := Int.tmod_eq_emod_of_nonneg hT0
      have hidx : (((n + 1 : Nat) : Int) - 1) = (n : Int) := by omega
      have hn41 : (n : Int) ≤ 40 := by omega
      have hbit : T % 2 = 0 ∨ T % 2 = 1 := by omega
      have key : ∀ Z : Int, T % 2 * b = Z → T * b = 2 * (T / 2 * b) + Z := fun Z hZ => by
        have : T = 2 * (T / 2) + T % 2 := by omega
        rw [← hZ, ← Int.mul_assoc, ← Int.add_mul, ← this]
      obtain ⟨Z, hZ⟩ : ∃ Z, T % 2 * b = Z := ⟨_, rfl⟩
      have hZb : 0 ≤ Z ∧ Z ≤ 1099511627776 := by
        rcases hbit with h | h <;> rw [h] at hZ <;> omega
      obtain ⟨hZ0, hZ1⟩ := hZb
      have hk := key Z hZ
      obtain ⟨d1, d2⟩ := div_digit (T / 2 * b) Z c (by omega)
      rw [← hk, hr] at d1 d2
      have e1 : (2 * r' + Z).tdiv c = (2 * r' + Z) / c := Int.tdiv_eq_ediv_of_nonneg (by omega)
      have e2 : (2 * r' + Z).tmod c = (2 * r' + Z) % c := Int.tmod_eq_emod_of_nonneg (by omega)
      obtain ⟨D, hD⟩ : ∃ D, (2 * r' + Z) / c = D := ⟨_, rfl⟩
      obtain ⟨S, hS⟩ : ∃ S, (2 * r' + Z) % c = S := ⟨_, rfl⟩
      have hD0 : 0 ≤ D := by rw [← hD]; exact Int.ediv_nonneg (by omega) (by omega)
      have hD1 : D ≤ 2 * r' + Z := by rw [← hD]; exact Int.ediv_le_self _ (by omega)
      rw [hD] at d1 e1
      rw [hS] at d2 e2
      have hmin : min (2 * (T / 2 * b / c) + D) much = min (2 * q' + D) much := by rw [← hq]; unfold much; omega
      have HN := Lib.hid (And.intro (d1 ▸ hmin) d2)
      have hwz := i64w Z (by omega) (by omega)
      have hz1 : IntKind.i64.wrap (T % 2 * b) = Z := by rw [hZ]; exact hwz
      clear hq hr hA d1 d2 hk key hD hS hmin
      rw [hidx]
      by_cases hm : 2 * q' + D ≤ 4398046511104
      · go_wp2_with fail
        go_round
        case rel => exact ⟨n, _, _, by omega, rfl, rfl, rfl, by rw [hT, HN.out.1]; unfold much; omega, by rw [hT, HN.out.2]⟩
        case measure => simp [intOf] <;> omega
      · go_wp2_with fail
        go_round
        case rel => exact ⟨n, _, _, by omega, rfl, rfl, rfl, by rw [hT, HN.out.1]; unfold much; omega, by rw [hT, HN.out.2]⟩
        case measure => simp [intOf] <;> omega
/-- the integer nearest to d b / c; the quotient may be held below a bound -/
def nearB (cut : Int → Int) (d b c : Int) : Int :=
  if 0 ≤ d then (if c ≤ 2 * (d * b % c) then cut (d * b / c) + 1 else cut (d * b / c))
  else (if c < 2 * (-d * b % c) then -cut (-d * b / c) - 1 else -cut (-d * b / c))
def near (d b c : Int) : Int := nearB id d b c
def nearM (d b c : Int) : Int := nearB (min · much) d b c
set_option maxHeartbeats 1000000 in
theorem rscale_any (w : World) (d b c z : Int) (hd0 : -1099511627776 ≤ d) (hd1 : d ≤ 1099511627776) (hb : 0 ≤ b) (hb1 : b ≤ 1099511627776) (hc : 1 ≤ c) (hc1 : c ≤ 1099511627776) (hz : nearM d b c = z) :
    Calls Try.prog 27 #[.int .i64 d, .int .i64 b, .int .i64 c] w fun e w' => e = .returned (.int .i64 z) ∧ w' = w := by
  by_cases h0 : 0 ≤ d
  · obtain ⟨q, hq⟩ : ∃ q, min (d * b / c) much = q := ⟨_, rfl⟩
    obtain ⟨r, hr⟩ : ∃ r, d * b % c = r := ⟨_, rfl⟩
    have hr0 : 0 ≤ r := by rw [← hr]; exact Int.emod_nonneg _ (by omega)
    have hr1 : r < c := by rw [← hr]; exact Int.emod_lt_of_pos _ (by omega)
    have hq0 : 0 ≤ q := by rw [← hq]; have : 0 ≤ d * b / c := Int.ediv_nonneg (Int.mul_nonneg h0 hb) (by omega); unfold much; omega
    have hq1 : q ≤ 4398046511104 := by rw [← hq]; unfold much; omega
    have hz' : (if c ≤ 2 * r then q + 1 else q) = z := by
      rw [← hz]; unfold nearM nearB; rw [if_pos h0, hr]; simp only [hq]
    have HQ := Lib.hid (And.intro hq hr)
    clear hq hr hz
    by_cases h1 : c ≤ 2 * r
    · rw [if_pos h1] at hz'
      go_enter Try.func27, Try.ntmps27
      go_wp2_with fail
      refine (divide_any _ d b c q r h0 hd1 hb hb1 hc hc1 HQ.out.1 HQ.out.2).mono ?_
      rintro e w' ⟨rfl, rfl⟩
      go_wp2_with fail
      go_ret
      exact ⟨by rw [← hz']; rfl, rfl⟩
    · rw [if_neg h1] at hz'
      go_enter Try.func27, Try.ntmps27
      go_wp2_with fail
      refine (divide_any _ d b c q r h0 hd1 hb hb1 hc hc1 HQ.out.1 HQ.out.2).mono ?_
      rintro e w' ⟨rfl, rfl⟩
      go_wp2_with fail
      go_ret
      exact ⟨by rw [← hz']; rfl, rfl⟩
  · obtain ⟨q, hq⟩ : ∃ q, min (-d * b / c) much = q := ⟨_, rfl⟩
    obtain ⟨r, hr⟩ : ∃ r, -d * b % c = r := ⟨_, rfl⟩
    have hr0 : 0 ≤ r := by rw [← hr]; exact Int.emod_nonneg _ (by omega)
    have hr1 : r < c := by rw [← hr]; exact Int.emod_lt_of_pos _ (by omega)
    have hq0 : 0 ≤ q := by rw [← hq]; have : 0 ≤ -d * b / c := Int.ediv_nonneg (Int.mul_nonneg (by omega) hb) (by omega); unfold much; omega
    have hq1 : q ≤ 4398046511104 := by rw [← hq]; unfold much; omega
    have hz' : (if c < 2 * r then -q - 1 else -q) = z := by
      rw [← hz]; unfold nearM nearB; rw [if_neg h0, hr]; simp only [hq]
    have HQ := Lib.hid (And.intro hq hr)
    clear hq hr hz
    by_cases h1 : c < 2 * r
    · rw [if_pos h1] at hz'
      go_enter Try.func27, Try.ntmps27
      go_wp2_with fail
      refine (divide_any _ (-d) b c q r (by omega) (by omega) hb hb1 hc hc1 HQ.out.1 HQ.out.2).mono ?_
      rintro e w' ⟨rfl, rfl⟩
      go_wp2_with fail
      go_ret
      exact ⟨by rw [← hz']; rfl, rfl⟩
    · rw [if_neg h1] at hz'
      go_enter Try.func27, Try.ntmps27
      go_wp2_with fail
      refine (divide_any _ (-d) b c q r (by omega) (by omega) hb hb1 hc hc1 HQ.out.1 HQ.out.2).mono ?_
      rintro e w' ⟨rfl, rfl⟩
      go_wp2_with fail
      go_ret
      exact ⟨by rw [← hz']; rfl, rfl⟩
/-- where the quotient is held, both are out of reach -/
theorem nearM_ok (d b c : Int) (hb : 0 ≤ b) (hc : 1 ≤ c) : (near d b c = nearM d b c) ∨ (0 ≤ d ∧ 4398046511104 ≤ near d b c ∧ 4398046511104 ≤ nearM d b c ∧ nearM d b c ≤ 4398046511105) ∨ (d < 0 ∧ near d b c ≤ -4398046511104 ∧ nearM d b c ≤ -4398046511104 ∧ -4398046511105 ≤ nearM d b c) := by
  unfold near nearM nearB much
  simp only [id]
  by_cases h0 : 0 ≤ d
  · simp only [if_pos h0]
    split <;> omega
  · simp only [if_neg h0]
    split <;> omega
/-- what a conversion answers -/
def convP (x x0 y0 b c : Int) : Int × Int :=
  if 0 ≤ x ∧ x ≤ 1099511627776 ∧ 0 ≤ y0 + near (x - x0) b c ∧ y0 + near (x - x0) b c ≤ 1099511627776 then (y0 + near (x - x0) b c, 0) else (0, 10)
theorem nearM_bd (d b c : Int) (hb : 0 ≤ b) (hc : 1 ≤ c) : -4398046511105 ≤ nearM d b c ∧ nearM d b c ≤ 4398046511105 := by
  simp only [nearM, nearB, much]
  by_cases h0 : 0 ≤ d
  · rw [if_pos h0]
    have h : 0 ≤ d * b / c := Int.ediv_nonneg (Int.mul_nonneg h0 hb) (by omega)
    split <;> omega
  · rw [if_neg h0]
    have h : 0 ≤ -d * b / c := Int.ediv_nonneg (Int.mul_nonneg (by omega) hb) (by omega)
    split <;> omega
end Go.Proofs.Ytdckpamempejgaa
