/- math/bits.Div64. -/
import Derived.Test.YtdckpamempejgaaTMath
import Derived.Test.YtdckpamempejgaaSl
import Derived.Deep.RegionHeld3
import Derived.Deep.RegionLaw
import Derived.BigQuiet
import Derived.BigRegion
namespace Go.Proofs.Ytdckpamempejgaa
set_option linter.unusedVariables false
set_option linter.unusedSimpArgs false
open Go.RowKit
theorem run_shrI (P : Program) (w : World) (k yk : IntKind) (x c z : Int) (n : Nat) (hc : c = (n : Int)) (hn : n ≤ k.bits) (hz : x / 2 ^ n = z) : (Op.shift .shr k x yk c).run P w = .ok (.int k z) w := by
  subst hc; subst hz
  have h1 : ¬ ((n : Int) < 0) := by omega
  have h2 : min (n : Int).toNat k.bits = n := by simp; omega
  simp only [Op.shift, h1, if_false, h2]
  rw [Int.fdiv_eq_ediv_of_nonneg _ (Int.le_of_lt (Int.pow_pos (by decide)))]
  rfl
theorem run_shlI (P : Program) (w : World) (k yk : IntKind) (x c z : Int) (n : Nat) (hc : c = (n : Int)) (hn : n ≤ k.bits) (hz : k.wrap (x * 2 ^ n) = z) : (Op.shift .shl k x yk c).run P w = .ok (.int k z) w := by
  subst hc; subst hz
  have h1 : ¬ ((n : Int) < 0) := by omega
  have h2 : min (n : Int).toNat k.bits = n := by simp; omega
  simp only [Op.shift, h1, if_false, h2]
  rfl
theorem mask32 (x : Int) (h0 : 0 ≤ x) (h1 : x < 18446744073709551616) : bits .and .u64 x 4294967295 = x % 4294967296 := by
  obtain ⟨a, rfl⟩ := Int.eq_ofNat_of_zero_le h0
  have h := Mul64.maskN a (by omega)
  rw [h]; omega
theorem or_shift (a b : Int) (s : Nat) (hs : s ≤ 63) (h0 : 0 ≤ a) (h1 : a * 2 ^ s < 18446744073709551616) (b0 : 0 ≤ b) (b1 : b < 2 ^ s) : bits .or .u64 (a * 2 ^ s) b = a * 2 ^ s + b := by
  obtain ⟨a, rfl⟩ := Int.eq_ofNat_of_zero_le h0
  obtain ⟨b, rfl⟩ := Int.eq_ofNat_of_zero_le b0
  have e1 : (2 : Int) ^ s = ((2 ^ s : Nat) : Int) := by rw [Int.natCast_pow]; rfl
  have hp : 2 ^ s ≤ 2 ^ 63 := Nat.pow_le_pow_right (by decide) hs
  rw [e1, ← Int.natCast_mul] at h1
  rw [e1] at b1
  rw [e1, ← Int.natCast_mul, u64_or_nat (a * 2 ^ s) b (by omega) (by omega)]
  have h := Nat.two_pow_add_eq_or_of_lt (i := s) (b := b) (by omega) a
  rw [Nat.mul_comm (2 ^ s)] at h
  rw [← h]
  omega
theorem uwrap (n : Int) (h0 : 0 ≤ n) (h1 : n < 18446744073709551616) : IntKind.u64.wrap n = n := by rw [IntKind.wrap_u64]; omega
def DivPost (w : World) (q r : Int) (e : Ending) (w' : World) : Prop := e = .returned (.tuple #[.int .u64 q, .int .u64 r]) ∧ Keep w.heap.size [] w w'
set_option maxHeartbeats 1000000 in
theorem div64_lo (w : World) (lo y q r : Int) (l0 : 0 ≤ lo) (l1 : lo < 18446744073709551616) (hy : 1 ≤ y) (hy2 : y < 18446744073709551616) (hq : lo / y = q) (hr : lo % y = r) :
    Calls Try.prog 29 #[.int .u64 0, .int .u64 lo, .int .u64 y] w (DivPost w q r) := by
  have e1 : lo.tdiv y = q := by rw [Int.tdiv_eq_ediv_of_nonneg l0]; exact hq
  have e2 : lo.tmod y = r := by rw [Int.tmod_eq_emod_of_nonneg l0]; exact hr
  have q0 : 0 ≤ q := by rw [← hq]; exact Int.ediv_nonneg l0 (by omega)
  have q1 : q ≤ lo := by rw [← hq]; exact Int.ediv_le_self _ l0
  have HQ := Lib.hid (And.intro hq hr)
  clear hq hr
  go_enter Try.func29, Try.ntmps29
  go_wp2_with fail
  go_quiet (fail)
  go_wp2_with fail
  go_ret2
  exact ⟨rfl, (Keep.refl _ _ w).drewN _⟩
set_option maxHeartbeats 4000000 in
theorem div64_hi (w : World) (hi lo y N q r : Int) (hN : hi * 18446744073709551616 + lo = N) (h0 : 1 ≤ hi) (h1 : hi < y) (l0 : 0 ≤ lo) (l1 : lo < 18446744073709551616) (hy2 : y < 18446744073709551616) (hq : N / y = q) (hr : N % y = r) :
    Calls Try.prog 29 #[.int .u64 hi, .int .u64 lo, .int .u64 y] w (DivPost w q r) := by
  obtain ⟨s, hs, hlz, hY0, hY1⟩ := norm y (by omega) hy2
  obtain ⟨Y, hY⟩ : ∃ Y, y * 2 ^ s = Y := ⟨_, rfl⟩
  rw [hY] at hY0 hY1
  obtain ⟨sh1, sh2, sh3, sh4, sh5, sh6⟩ := shifted hi lo y s hs (by omega) h1 l0 l1 Y hY
  obtain ⟨A, hA⟩ : ∃ A, hi * 2 ^ s = A := ⟨_, rfl⟩
  obtain ⟨B, hB⟩ : ∃ B, lo / 2 ^ (64 - s) = B := ⟨_, rfl⟩
  have hor := or_shift hi B s hs (by omega) (by omega) (by omega) (by omega)
  have hPp : (0 : Int) < 2 ^ s := Int.pow_pos (by decide)
  rw [hA, hB] at sh1 sh4
  rw [hB] at sh2 sh3
  rw [hA] at sh5 sh6 hor
  obtain ⟨H, hH⟩ : ∃ H, A + B = H := ⟨_, rfl⟩
  rw [hH] at sh1 sh4 hor
  obtain ⟨L, hL⟩ : ∃ L, lo * 2 ^ s % 18446744073709551616 = L := ⟨_, rfl⟩
  rw [hL] at sh1
  have hLb : 0 ≤ L ∧ L < 18446744073709551616 := by omega
  obtain ⟨hL0, hL1⟩ := hLb
  obtain ⟨Y1, hY1e⟩ : ∃ Y1, Y / 4294967296 = Y1 := ⟨_, rfl⟩
  obtain ⟨Y0, hY0e⟩ : ∃ Y0, Y % 4294967296 = Y0 := ⟨_, rfl⟩
  obtain ⟨u1, hu1⟩ : ∃ u1, L / 4294967296 = u1 := ⟨_, rfl⟩
  obtain ⟨u0, hu0⟩ : ∃ u0, L % 4294967296 = u0 := ⟨_, rfl⟩
  obtain ⟨Q1, hQ1⟩ : ∃ Q, (H * 4294967296 + u1) / Y = Q := ⟨_, rfl⟩
  have D1 : Dig Y Y1 Y0 H u1 Q1 := ⟨by omega, by omega, by omega, by omega, by omega, by omega, by omega, by omega, by omega, hQ1⟩
  obtain ⟨b10, b11, b12, b13⟩ := D1.q_bd
  obtain ⟨R1, hR1⟩ : ∃ R, H * 4294967296 + u1 - Q1 * Y = R := ⟨_, rfl⟩
  rw [hR1] at b12 b13
  obtain ⟨Q0, hQ0⟩ : ∃ Q, (R1 * 4294967296 + u0) / Y = Q := ⟨_, rfl⟩
  have D0 : Dig Y Y1 Y0 R1 u0 Q0 := ⟨by omega, by omega, by omega, by omega, by omega, by omega, by omega, by omega, by omega, hQ0⟩
  obtain ⟨b00, b01, b02, b03⟩ := D0.q_bd
  obtain ⟨R0, hR0⟩ : ∃ R, R1 * 4294967296 + u0 - Q0 * Y = R := ⟨_, rfl⟩
  rw [hR0] at b02 b03
  have hfin := fin N y s (by omega) (Q1 * 4294967296 + Q0) R0 Y hY (by
    rw [← hN, ← sh1, Int.add_mul]
    have : Q1 * 4294967296 * Y = Q1 * Y * 4294967296 := by rw [Int.mul_assoc, Int.mul_assoc, Int.mul_comm 4294967296]
    omega) b02 b03
  rw [hq, hr] at hfin
  have E1 := D1.start
  have E0 := D0.start
  have hp1 : 0 ≤ H / Y1 * Y1 ∧ H / Y1 * Y1 ≤ H := by have := E1.eq; have := E1.r0; have h : 0 ≤ H / Y1 * Y1 := Int.mul_nonneg (Int.ediv_nonneg (by omega) (by omega)) (by omega); omega
  have hp0 : 0 ≤ R1 / Y1 * Y1 ∧ R1 / Y1 * Y1 ≤ R1 := by have := E0.eq; have := E0.r0; have h : 0 ≤ R1 / Y1 * Y1 := Int.mul_nonneg (Int.ediv_nonneg (by omega) (by omega)) (by omega); omega
  have hd1 : H.tdiv Y1 = H / Y1 := Int.tdiv_eq_ediv_of_nonneg (by omega)
  have hd0 : R1.tdiv Y1 = R1 / Y1 := Int.tdiv_eq_ediv_of_nonneg (by omega)
  obtain ⟨p1, hp1e⟩ : ∃ p, H / Y1 = p := ⟨_, rfl⟩
  obtain ⟨p0, hp0e⟩ : ∃ p, R1 / Y1 = p := ⟨_, rfl⟩
  rw [hp1e] at E1 hp1 hd1
  rw [hp0e] at E0 hp0 hd0
  have w1 := uwrap (p1 * Y1) hp1.1 (by omega)
  have w0 := uwrap (p0 * Y1) hp0.1 (by omega)
  have w3 : IntKind.u64.wrap (H - p1 * Y1) = H - p1 * Y1 := uwrap _ (by omega) (by omega)
  have w4 : IntKind.u64.wrap (R1 - p0 * Y1) = R1 - p0 * Y1 := uwrap _ (by omega) (by omega)
  have DD := Lib.hid D1
  have DE := Lib.hid D0
  have EE1 := Lib.hid E1
  have EE0 := Lib.hid E0
  have HF := Lib.hid hfin
  have wA : IntKind.u64.wrap (hi * 2 ^ s) = A := by rw [hA]; exact uwrap _ sh5 (by omega)
  have wY : IntKind.u64.wrap (y * 2 ^ s) = Y := by rw [hY]; exact uwrap _ (by omega) hY1
  have wL : IntKind.u64.wrap (lo * 2 ^ s) = L := by rw [IntKind.wrap_u64]; exact hL
  have wp1 : IntKind.u64.wrap p1 = p1 := uwrap _ (by have := E1.ge; omega) (by have := E1.le; omega)
  have wp0 : IntKind.u64.wrap p0 = p0 := uwrap _ (by have := E0.ge; omega) (by have := E0.le; omega)
  have wR1 : IntKind.u64.wrap (IntKind.u64.wrap (IntKind.u64.wrap (H * 4294967296) + u1) - IntKind.u64.wrap (Q1 * Y)) = R1 := by
    simp only [IntKind.wrap_u64]; omega
  have wR0 : IntKind.u64.wrap (IntKind.u64.wrap (IntKind.u64.wrap (R1 * 4294967296) + u0) - IntKind.u64.wrap (Q0 * Y)) = R0 := by
    simp only [IntKind.wrap_u64]; omega
  have m1 := mask32 Y (by omega) hY1
  have m2 := mask32 L hL0 hL1
  rw [hY0e] at m1
  rw [hu0] at m2
  have ks := uwrap (s : Int) (by omega) (by omega)
  have y1a := D1.y1; have y1b := D1.y2
  have hLZ := Lib.hid hlz
  clear D1 D0 E1 E0 hfin hQ1 hQ0 hq hr hN sh1 sh2 sh3 hp1e hp0e hA hH hL hPp sh4 sh5 sh6
  go_enter Try.func29, Try.ntmps29
  go_wp2_with fail
  refine (lz64_any y _ (by omega) (by omega)).mono ?_
  rintro e w' ⟨rfl, rfl⟩
  rw [hLZ.out]
  go_wp2_with fail
  go_loop [15, 16] (fun p r => ∃ p' r', p = .int .u64 p' ∧ r = .int .u64 r' ∧ Est Y1 H Q1 p' r') (fun p _ => (intOf p).toNat)
  case atStart => exact ⟨_, _, rfl, rfl, EE1.out⟩
  case round =>
    obtain ⟨p, r, rfl, rfl, he⟩ := hrel
    have ge := he.ge; have le := he.le; have r0 := he.r0; have r1 := he.r1
    have HE := Lib.hid he
    clear he
    by_cases hc : 4294967296 ≤ p
    · have hq := DD.out.big HE.out (.inl hc)
      obtain ⟨t1, t2, t3, t4, t5, t6⟩ := DD.out.step HE.out hq
      by_cases hb : 4294967296 ≤ r + Y1
      · have hpq := t6 hb
        clear t5 t6
        go_wp2_with fail
        go_loop [16, 18] (fun r p => ∃ p' r', p = .int .u64 p' ∧ r = .int .u64 r' ∧ Est Y1 R1 Q0 p' r') (fun _ p => (intOf p).toNat)
        case atStart => exact ⟨_, _, rfl, rfl, EE0.out⟩
        case round =>
          obtain ⟨p, r, rfl, rfl, he⟩ := hrel
          have ge := he.ge; have le := he.le; have r0 := he.r0; have r1 := he.r1
          have HE := Lib.hid he
          clear he
          by_cases hc : 4294967296 ≤ p
          · have hq := DE.out.big HE.out (.inl hc)
            obtain ⟨t1, t2, t3, t4, t5, t6⟩ := DE.out.step HE.out hq
            by_cases hb : 4294967296 ≤ r + Y1
            · have hpq := t6 hb
              clear t5 t6
              go_wp2_with fail
              go_ret2
              exact ⟨by rw [← HF.out.1, ← HF.out.2]; rfl, Keep.refl _ _ _⟩
            · have T5 := Lib.hid (t5 (by omega))
              clear t5 t6
              go_wp2_with fail
              go_round
              case rel => exact ⟨_, _, rfl, rfl, T5.out⟩
              case measure => simp [intOf]; omega
          · have z1 : p * Y0 ≤ 4294967295 * Y0 := Int.mul_le_mul_of_nonneg_right (by omega) (by omega)
            have z2 : 0 ≤ p * Y0 := Int.mul_nonneg (by omega) (by omega)
            have z3 : IntKind.u64.wrap (p * Y0) = p * Y0 := uwrap _ z2 (by omega)
            by_cases hd : 4294967296 * r + u0 < p * Y0
            · have hq := DE.out.big HE.out (.inr hd)
              obtain ⟨t1, t2, t3, t4, t5, t6⟩ := DE.out.step HE.out hq
              by_cases hb : 4294967296 ≤ r + Y1
              · have hpq := t6 hb
                clear t5 t6
                go_wp2_with fail
                go_ret2
                exact ⟨by rw [← HF.out.1, ← HF.out.2]; rfl, Keep.refl _ _ _⟩
              · have T5 := Lib.hid (t5 (by omega))
                clear t5 t6
                go_wp2_with fail
                go_round
                case rel => exact ⟨_, _, rfl, rfl, T5.out⟩
                case measure => simp [intOf]; omega
            · have hpq := DE.out.right ge HE.out.eq (by omega)
              clear z1 z2
              subst hpq
              go_wp2_with fail
              go_ret2
              exact ⟨by rw [← HF.out.1, ← HF.out.2]; rfl, Keep.refl _ _ _⟩
      · have T5 := Lib.hid (t5 (by omega))
        clear t5 t6
        go_wp2_with fail
        go_round
        case rel => exact ⟨_, _, rfl, rfl, T5.out⟩
        case measure => simp [intOf]; omega
    · have z1 : p * Y0 ≤ 4294967295 * Y0 := Int.mul_le_mul_of_nonneg_right (by omega) (by omega)
      have z2 : 0 ≤ p * Y0 := Int.mul_nonneg (by omega) (by omega)
      have z3 : IntKind.u64.wrap (p * Y0) = p * Y0 := uwrap _ z2 (by omega)
      by_cases hd : 4294967296 * r + u1 < p * Y0
      · have hq := DD.out.big HE.out (.inr hd)
        obtain ⟨t1, t2, t3, t4, t5, t6⟩ := DD.out.step HE.out hq
        by_cases hb : 4294967296 ≤ r + Y1
        · have hpq := t6 hb
          clear t5 t6
          go_wp2_with fail
          go_loop [16, 18] (fun r p => ∃ p' r', p = .int .u64 p' ∧ r = .int .u64 r' ∧ Est Y1 R1 Q0 p' r') (fun _ p => (intOf p).toNat)
          case atStart => exact ⟨_, _, rfl, rfl, EE0.out⟩
          case round =>
            obtain ⟨p, r, rfl, rfl, he⟩ := hrel
            have ge := he.ge; have le := he.le; have r0 := he.r0; have r1 := he.r1
            have HE := Lib.hid he
            clear he
            by_cases hc : 4294967296 ≤ p
            · have hq := DE.out.big HE.out (.inl hc)
              obtain ⟨t1, t2, t3, t4, t5, t6⟩ := DE.out.step HE.out hq
              by_cases hb : 4294967296 ≤ r + Y1
              · have hpq := t6 hb
                clear t5 t6
                go_wp2_with fail
                go_ret2
                exact ⟨by rw [← HF.out.1, ← HF.out.2]; rfl, Keep.refl _ _ _⟩
              · have T5 := Lib.hid (t5 (by omega))
                clear t5 t6
                go_wp2_with fail
                go_round
                case rel => exact ⟨_, _, rfl, rfl, T5.out⟩
                case measure => simp [intOf]; omega
            · have z1 : p * Y0 ≤ 4294967295 * Y0 := Int.mul_le_mul_of_nonneg_right (by omega) (by omega)
              have z2 : 0 ≤ p * Y0 := Int.mul_nonneg (by omega) (by omega)
              have z3 : IntKind.u64.wrap (p * Y0) = p * Y0 := uwrap _ z2 (by omega)
              by_cases hd : 4294967296 * r + u0 < p * Y0
              · have hq := DE.out.big HE.out (.inr hd)
                obtain ⟨t1, t2, t3, t4, t5, t6⟩ := DE.out.step HE.out hq
                by_cases hb : 4294967296 ≤ r + Y1
                · have hpq := t6 hb
                  clear t5 t6
                  go_wp2_with fail
                  go_ret2
                  exact ⟨by rw [← HF.out.1, ← HF.out.2]; rfl, Keep.refl _ _ _⟩
                · have T5 := Lib.hid (t5 (by omega))
                  clear t5 t6
                  go_wp2_with fail
                  go_round
                  case rel => exact ⟨_, _, rfl, rfl, T5.out⟩
                  case measure => simp [intOf]; omega
              · have hpq := DE.out.right ge HE.out.eq (by omega)
                clear z1 z2
                subst hpq
                go_wp2_with fail
                go_ret2
                exact ⟨by rw [← HF.out.1, ← HF.out.2]; rfl, Keep.refl _ _ _⟩
        · have T5 := Lib.hid (t5 (by omega))
          clear t5 t6
          go_wp2_with fail
          go_round
          case rel => exact ⟨_, _, rfl, rfl, T5.out⟩
          case measure => simp [intOf]; omega
      · have hpq := DD.out.right ge HE.out.eq (by omega)
        clear z1 z2
        subst hpq
        go_wp2_with fail
        go_loop [16, 18] (fun r p => ∃ p' r', p = .int .u64 p' ∧ r = .int .u64 r' ∧ Est Y1 R1 Q0 p' r') (fun _ p => (intOf p).toNat)
        case atStart => exact ⟨_, _, rfl, rfl, EE0.out⟩
        case round =>
          obtain ⟨p, r, rfl, rfl, he⟩ := hrel
          have ge := he.ge; have le := he.le; have r0 := he.r0; have r1 := he.r1
          have HE := Lib.hid he
          clear he
          by_cases hc : 4294967296 ≤ p
          · have hq := DE.out.big HE.out (.inl hc)
            obtain ⟨t1, t2, t3, t4, t5, t6⟩ := DE.out.step HE.out hq
            by_cases hb : 4294967296 ≤ r + Y1
            · have hpq := t6 hb
              clear t5 t6
              go_wp2_with fail
              go_ret2
              exact ⟨by rw [← HF.out.1, ← HF.out.2]; rfl, Keep.refl _ _ _⟩
            · have T5 := Lib.hid (t5 (by omega))
              clear t5 t6
              go_wp2_with fail
              go_round
              case rel => exact ⟨_, _, rfl, rfl, T5.out⟩
              case measure => simp [intOf]; omega
          · have z1 : p * Y0 ≤ 4294967295 * Y0 := Int.mul_le_mul_of_nonneg_right (by omega) (by omega)
            have z2 : 0 ≤ p * Y0 := Int.mul_nonneg (by omega) (by omega)
            have z3 : IntKind.u64.wrap (p * Y0) = p * Y0 := uwrap _ z2 (by omega)
            by_cases hd : 4294967296 * r + u0 < p * Y0
            · have hq := DE.out.big HE.out (.inr hd)
              obtain ⟨t1, t2, t3, t4, t5, t6⟩ := DE.out.step HE.out hq
              by_cases hb : 4294967296 ≤ r + Y1
              · have hpq := t6 hb
                clear t5 t6
                go_wp2_with fail
                go_ret2
                exact ⟨by rw [← HF.out.1, ← HF.out.2]; rfl, Keep.refl _ _ _⟩
              · have T5 := Lib.hid (t5 (by omega))
                clear t5 t6
                go_wp2_with fail
                go_round
                case rel => exact ⟨_, _, rfl, rfl, T5.out⟩
                case measure => simp [intOf]; omega
            · have hpq := DE.out.right ge HE.out.eq (by omega)
              clear z1 z2
              subst hpq
              go_wp2_with fail
              go_ret2
              exact ⟨by rw [← HF.out.1, ← HF.out.2]; rfl, Keep.refl _ _ _⟩
theorem div64_any (w : World) (hi lo y N q r : Int) (hN : hi * 18446744073709551616 + lo = N) (h0 : 0 ≤ hi) (h1 : hi < y) (l0 : 0 ≤ lo) (l1 : lo < 18446744073709551616) (hy2 : y < 18446744073709551616) (hq : N / y = q) (hr : N % y = r) :
    Calls Try.prog 29 #[.int .u64 hi, .int .u64 lo, .int .u64 y] w (DivPost w q r) := by
  by_cases h : hi = 0
  · subst h
    have : N = lo := by omega
    subst this
    exact div64_lo w N y q r l0 l1 (by omega) hy2 hq hr
  · exact div64_hi w hi lo y N q r hN (by omega) h1 l0 l1 hy2 hq hr
end Go.Proofs.Ytdckpamempejgaa
