/- The program's scale and conversion, and the reference's. -/
import Derived.Test.YtdckpamempejgaaTRef
namespace Go.Proofs.Ytdckpamempejgaa
set_option linter.unusedVariables false
set_option linter.unusedSimpArgs false
open Go.RowKit
def okT (t : Int) : Bool := decide (0 ≤ t ∧ t ≤ 1099511627776)
theorem okT_big {t : Int} (h : 1099511627776 < t) : okT t = false := decide_eq_false (fun h2 => by omega)
theorem okT_neg {t : Int} (h : t < 0) : okT t = false := decide_eq_false (fun h2 => by omega)
set_option maxHeartbeats 1000000 in
theorem valid_any (w : World) (t : Int) (v : Bool) (hv : okT t = v) : Calls Try.prog 23 #[.int .i64 t] w fun e w' => e = .returned (.bool v) ∧ w' = w := by
  have HV := Lib.hid hv
  clear hv
  by_cases h : 0 ≤ t
  · have e0 : v = decide (t ≤ 1099511627776) := by rw [← HV.out]; simp [okT, h]
    go_enter Try.func23, Try.ntmps23
    go_wp2_with fail
    go_ret
    exact ⟨by first | rfl | (rw [e0]; rfl), rfl⟩
  · have e0 : v = false := by rw [← HV.out]; simp [okT, h]
    go_enter Try.func23, Try.ntmps23
    go_wp2_with fail
    go_ret
    exact ⟨by first | rfl | (rw [e0]; rfl), rfl⟩
theorem mul64_u (w : World) (A U H L : Nat) (hA : A < 18446744073709551616) (hU : U < 18446744073709551616) (hH : A * U / 18446744073709551616 = H) (hL : A * U % 18446744073709551616 = L) :
    Calls Try.prog 28 #[.int .u64 A, .int .u64 U] w fun e w' => e = .returned (.tuple #[.int .u64 (H : Int), .int .u64 (L : Int)]) ∧ w' = w := by
  subst hH; subst hL; exact mul64_any A U hA hU w
def ScPost (w : World) (x : Int) (e : Ending) (w' : World) : Prop := ∃ v ok, e = .returned (.tuple #[.int .i64 v, .bool ok]) ∧ okT x = ok ∧ (ok = true → v = x) ∧ Keep w.heap.size [] w w'
/-- the numbers of a scaling: the distance A is not negative -/
structure Sc (A U D H L : Nat) (q r : Int) : Prop where
  eH : A * U / 18446744073709551616 = H
  eL : A * U % 18446744073709551616 = L
  eN : (H : Int) * 18446744073709551616 + (L : Int) = (A : Int) * (U : Int)
  eq : (A : Int) * (U : Int) / (D : Int) = q
  er : (A : Int) * (U : Int) % (D : Int) = r
  L1 : L < 18446744073709551616
  q0 : 0 ≤ q
  r0 : 0 ≤ r
  r1 : r < D
  big : D ≤ H → 18446744073709551616 ≤ q
theorem sc_of (A U D : Nat) (hD : 1 ≤ D) : ∃ H L q r, Sc A U D H L q r := by
  obtain ⟨X, hX⟩ : ∃ X, A * U = X := ⟨_, rfl⟩
  have e : (A : Int) * (U : Int) = (X : Int) := by rw [← hX, Int.natCast_mul]
  have h1 := Nat.div_add_mod X 18446744073709551616
  have h2 := Nat.mod_lt X (show 18446744073709551616 > 0 by decide)
  obtain ⟨H, hH⟩ : ∃ H, X / 18446744073709551616 = H := ⟨_, rfl⟩
  obtain ⟨L, hL⟩ : ∃ L, X % 18446744073709551616 = L := ⟨_, rfl⟩
  rw [hH, hL] at h1
  rw [hL] at h2
  refine ⟨H, L, X / (D : Int), X % (D : Int), by rw [hX, hH], by rw [hX, hL], by rw [e]; omega, by rw [e], by rw [e], h2, Int.ediv_nonneg (by omega) (by omega), Int.emod_nonneg _ (by omega), Int.emod_lt_of_pos _ (by omega), fun h => ?_⟩
  apply Int.le_ediv_of_mul_le (by omega)
  omega
set_option maxHeartbeats 4000000 in
theorem scale_pos (w : World) (y0 : Int) (A U D : Nat) (hA : A ≤ 1099511627776) (hU : U ≤ 1099511627776) (hD : 1 ≤ D) (hD1 : D ≤ 1099511627776) (hy0 : 0 ≤ y0) (hy1 : y0 ≤ 1099511627776) :
    Calls Try.prog 26 #[.int .i64 y0, .int .i64 A, .int .i64 U, .int .i64 D] w (ScPost w (y0 + near A U D)) := by
  obtain ⟨H, L, q, r, sc⟩ := sc_of A U D hD
  have hn : near (A : Int) U D = if (D : Int) ≤ 2 * r then q + 1 else q := by
    unfold near nearB; rw [if_pos (by omega), sc.er]; simp only [sc.eq, id]
  obtain ⟨N, hN⟩ : ∃ N, near (A : Int) U D = N := ⟨_, rfl⟩
  rw [hN] at hn ⊢
  have HN := Lib.hid hn
  have HS := Lib.hid sc
  have L1 := sc.L1; have q0 := sc.q0; have r0 := sc.r0; have r1 := sc.r1; have big := sc.big
  clear sc hn hN
  have hmx : max (A : Int) (-(A : Int)) = A := by omega
  have hc1 : IntKind.u64.wrap (A : Int) = A := uwrap _ (by omega) (by omega)
  have hc2 : IntKind.u64.wrap (U : Int) = U := uwrap _ (by omega) (by omega)
  have hc3 : IntKind.u64.wrap (D : Int) = D := uwrap _ (by omega) (by omega)
  by_cases hb : D ≤ H
  · have hbI : (D : Int) ≤ (H : Int) := by omega
    have hq := big hb
    have hof : Hid (okT (y0 + N) = false) := Lib.hid (okT_big (by have h := HN.out; by_cases h2 : (D : Int) ≤ 2 * r
                                                                  · rw [if_pos h2] at h; omega
                                                                  · rw [if_neg h2] at h; omega))
    clear big
    go_enter Try.func26, Try.ntmps26
    go_wp2_with fail
    refine (mul64_u _ A U H L (by omega) (by omega) HS.out.eH HS.out.eL).mono ?_
    rintro e w' ⟨rfl, rfl⟩
    go_wp2_with fail
    go_ret2
    exact ⟨_, _, rfl, hof.out, fun h => (by cases h), Keep.refl _ _ _⟩
  have hbI : (H : Int) < (D : Int) := by omega
  clear big
  by_cases hq : 1099511627776 < q
  · have hof : Hid (okT (y0 + N) = false) := Lib.hid (okT_big (by have h := HN.out; by_cases h2 : (D : Int) ≤ 2 * r
                                                                  · rw [if_pos h2] at h; omega
                                                                  · rw [if_neg h2] at h; omega))
    go_enter Try.func26, Try.ntmps26
    go_wp2_with fail
    refine (mul64_u _ A U H L (by omega) (by omega) HS.out.eH HS.out.eL).mono ?_
    rintro e w' ⟨rfl, rfl⟩
    go_wp2_with fail
    refine (div64_any _ H L D _ q r HS.out.eN (by omega) (by omega) (by omega) (by omega) (by omega) HS.out.eq HS.out.er).mono ?_
    rintro e w1 ⟨rfl, hk⟩
    have K1 := Lib.hid hk
    clear hk
    go_wp2_with fail
    go_ret2
    exact ⟨_, _, rfl, hof.out, fun h => (by cases h), K1.out⟩
  have hi1 := i64w q (by omega) (by omega)
  have hi2 := i64w r (by omega) (by omega)
  by_cases ht : (D : Int) ≤ 2 * r
  · have HT : Hid (N = q + 1) := Lib.hid (by rw [HN.out, if_pos ht])
    obtain ⟨v, hv⟩ : ∃ v, okT (y0 + (q + 1)) = v := ⟨_, rfl⟩
    have HV := Lib.hid hv
    clear hv
    go_enter Try.func26, Try.ntmps26
    go_wp2_with fail
    refine (mul64_u _ A U H L (by omega) (by omega) HS.out.eH HS.out.eL).mono ?_
    rintro e w' ⟨rfl, rfl⟩
    go_wp2_with fail
    refine (div64_any _ H L D _ q r HS.out.eN (by omega) (by omega) (by omega) (by omega) (by omega) HS.out.eq HS.out.er).mono ?_
    rintro e w1 ⟨rfl, hk⟩
    have K1 := Lib.hid hk
    clear hk
    go_wp2_with fail
    refine (valid_any _ (y0 + (q + 1)) v HV.out).mono ?_
    rintro e w2 ⟨rfl, rfl⟩
    go_wp2_with fail
    go_ret2
    exact ⟨_, _, rfl, by rw [HT.out]; exact HV.out, fun _ => by rw [HT.out], K1.out⟩
  · have HT : Hid (N = q) := Lib.hid (by rw [HN.out, if_neg ht])
    obtain ⟨v, hv⟩ : ∃ v, okT (y0 + q) = v := ⟨_, rfl⟩
    have HV := Lib.hid hv
    clear hv
    go_enter Try.func26, Try.ntmps26
    go_wp2_with fail
    refine (mul64_u _ A U H L (by omega) (by omega) HS.out.eH HS.out.eL).mono ?_
    rintro e w' ⟨rfl, rfl⟩
    go_wp2_with fail
    refine (div64_any _ H L D _ q r HS.out.eN (by omega) (by omega) (by omega) (by omega) (by omega) HS.out.eq HS.out.er).mono ?_
    rintro e w1 ⟨rfl, hk⟩
    have K1 := Lib.hid hk
    clear hk
    go_wp2_with fail
    refine (valid_any _ (y0 + q) v HV.out).mono ?_
    rintro e w2 ⟨rfl, rfl⟩
    go_wp2_with fail
    go_ret2
    exact ⟨_, _, rfl, by rw [HT.out]; exact HV.out, fun _ => by rw [HT.out], K1.out⟩
set_option maxHeartbeats 4000000 in
theorem scale_neg (w : World) (y0 : Int) (A U D : Nat) (hA0 : 1 ≤ A) (hA : A ≤ 1099511627776) (hU : U ≤ 1099511627776) (hD : 1 ≤ D) (hD1 : D ≤ 1099511627776) (hy0 : 0 ≤ y0) (hy1 : y0 ≤ 1099511627776) :
    Calls Try.prog 26 #[.int .i64 y0, .int .i64 (-(A : Int)), .int .i64 U, .int .i64 D] w (ScPost w (y0 + near (-(A : Int)) U D)) := by
  obtain ⟨H, L, q, r, sc⟩ := sc_of A U D hD
  have hn : near (-(A : Int)) U D = if (D : Int) < 2 * r then -q - 1 else -q := by
    unfold near nearB; rw [if_neg (by omega), Int.neg_neg, sc.er]; simp only [sc.eq, id]
  obtain ⟨N, hN⟩ : ∃ N, near (-(A : Int)) U D = N := ⟨_, rfl⟩
  rw [hN] at hn ⊢
  have HN := Lib.hid hn
  have HS := Lib.hid sc
  have L1 := sc.L1; have q0 := sc.q0; have r0 := sc.r0; have r1 := sc.r1; have big := sc.big
  clear sc hn hN
  have hmx : max (-(A : Int)) (A : Int) = A := by omega
  have hc1 : IntKind.u64.wrap (A : Int) = A := uwrap _ (by omega) (by omega)
  have hc2 : IntKind.u64.wrap (U : Int) = U := uwrap _ (by omega) (by omega)
  have hc3 : IntKind.u64.wrap (D : Int) = D := uwrap _ (by omega) (by omega)
  by_cases hb : D ≤ H
  · have hbI : (D : Int) ≤ (H : Int) := by omega
    have hq := big hb
    have hof : Hid (okT (y0 + N) = false) := Lib.hid (okT_neg (by have h := HN.out; by_cases h2 : (D : Int) < 2 * r
                                                                  · rw [if_pos h2] at h; omega
                                                                  · rw [if_neg h2] at h; omega))
    clear big
    go_enter Try.func26, Try.ntmps26
    go_wp2_with fail
    refine (mul64_u _ A U H L (by omega) (by omega) HS.out.eH HS.out.eL).mono ?_
    rintro e w' ⟨rfl, rfl⟩
    go_wp2_with fail
    go_ret2
    exact ⟨_, _, rfl, hof.out, fun h => (by cases h), Keep.refl _ _ _⟩
  have hbI : (H : Int) < (D : Int) := by omega
  clear big
  by_cases hq : 1099511627776 < q
  · have hof : Hid (okT (y0 + N) = false) := Lib.hid (okT_neg (by have h := HN.out; by_cases h2 : (D : Int) < 2 * r
                                                                  · rw [if_pos h2] at h; omega
                                                                  · rw [if_neg h2] at h; omega))
    go_enter Try.func26, Try.ntmps26
    go_wp2_with fail
    refine (mul64_u _ A U H L (by omega) (by omega) HS.out.eH HS.out.eL).mono ?_
    rintro e w' ⟨rfl, rfl⟩
    go_wp2_with fail
    refine (div64_any _ H L D _ q r HS.out.eN (by omega) (by omega) (by omega) (by omega) (by omega) HS.out.eq HS.out.er).mono ?_
    rintro e w1 ⟨rfl, hk⟩
    have K1 := Lib.hid hk
    clear hk
    go_wp2_with fail
    go_ret2
    exact ⟨_, _, rfl, hof.out, fun h => (by cases h), K1.out⟩
  have hi1 := i64w q (by omega) (by omega)
  have hi2 := i64w r (by omega) (by omega)
  by_cases ht : (D : Int) < 2 * r
  · have HT : Hid (N = -(q + 1)) := Lib.hid (by rw [HN.out, if_pos ht]; omega)
    obtain ⟨v, hv⟩ : ∃ v, okT (y0 + -(q + 1)) = v := ⟨_, rfl⟩
    have HV := Lib.hid hv
    clear hv
    go_enter Try.func26, Try.ntmps26
    go_wp2_with fail
    refine (mul64_u _ A U H L (by omega) (by omega) HS.out.eH HS.out.eL).mono ?_
    rintro e w' ⟨rfl, rfl⟩
    go_wp2_with fail
    refine (div64_any _ H L D _ q r HS.out.eN (by omega) (by omega) (by omega) (by omega) (by omega) HS.out.eq HS.out.er).mono ?_
    rintro e w1 ⟨rfl, hk⟩
    have K1 := Lib.hid hk
    clear hk
    go_wp2_with fail
    refine (valid_any _ (y0 + -(q + 1)) v HV.out).mono ?_
    rintro e w2 ⟨rfl, rfl⟩
    go_wp2_with fail
    go_ret2
    exact ⟨_, _, rfl, by rw [HT.out]; exact HV.out, fun _ => by rw [HT.out], K1.out⟩
  · have HT : Hid (N = -q) := Lib.hid (by rw [HN.out, if_neg ht])
    obtain ⟨v, hv⟩ : ∃ v, okT (y0 + -q) = v := ⟨_, rfl⟩
    have HV := Lib.hid hv
    clear hv
    go_enter Try.func26, Try.ntmps26
    go_wp2_with fail
    refine (mul64_u _ A U H L (by omega) (by omega) HS.out.eH HS.out.eL).mono ?_
    rintro e w' ⟨rfl, rfl⟩
    go_wp2_with fail
    refine (div64_any _ H L D _ q r HS.out.eN (by omega) (by omega) (by omega) (by omega) (by omega) HS.out.eq HS.out.er).mono ?_
    rintro e w1 ⟨rfl, hk⟩
    have K1 := Lib.hid hk
    clear hk
    go_wp2_with fail
    refine (valid_any _ (y0 + -q) v HV.out).mono ?_
    rintro e w2 ⟨rfl, rfl⟩
    go_wp2_with fail
    go_ret2
    exact ⟨_, _, rfl, by rw [HT.out]; exact HV.out, fun _ => by rw [HT.out], K1.out⟩
end Go.Proofs.Ytdckpamempejgaa
