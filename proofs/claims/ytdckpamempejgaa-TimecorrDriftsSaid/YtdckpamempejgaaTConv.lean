/- Board, Ground, Drift. -/
import Derived.Test.YtdckpamempejgaaTAdd
namespace Go.Proofs.Ytdckpamempejgaa
set_option linter.unusedVariables false
set_option linter.unusedSimpArgs false
open Go.RowKit
def PairPost (w : World) (y z : Int) (e : Ending) (w' : World) : Prop := e = .returned (.tuple #[.int .i64 y, .int .i64 z]) ∧ Keep w.heap.size [] w w'
theorem scale_any (w : World) (y0 n up down : Int) (h0 : -1099511627776 ≤ n) (h1 : n ≤ 1099511627776) (u0 : 1 ≤ up) (u1 : up ≤ 1099511627776) (d0 : 1 ≤ down) (d1 : down ≤ 1099511627776) (hy0 : 0 ≤ y0) (hy1 : y0 ≤ 1099511627776) :
    Calls Try.prog 26 #[.int .i64 y0, .int .i64 n, .int .i64 up, .int .i64 down] w (ScPost w (y0 + near n up down)) := by
  obtain ⟨U, rfl⟩ : ∃ U : Nat, up = U := ⟨up.toNat, by omega⟩
  obtain ⟨D, rfl⟩ : ∃ D : Nat, down = D := ⟨down.toNat, by omega⟩
  by_cases h : 0 ≤ n
  · obtain ⟨A, rfl⟩ : ∃ A : Nat, n = A := ⟨n.toNat, by omega⟩
    exact scale_pos w y0 A U D (by omega) (by omega) (by omega) (by omega) hy0 hy1
  · obtain ⟨A, rfl⟩ : ∃ A : Nat, n = -(A : Int) := ⟨(-n).toNat, by omega⟩
    exact scale_neg w y0 A U D (by omega) (by omega) (by omega) (by omega) (by omega) hy0 hy1
theorem okT_iff (t : Int) : okT t = true ↔ 0 ≤ t ∧ t ≤ 1099511627776 := by simp [okT]
theorem okT_no {t : Int} (h : okT t = false) : ¬ (0 ≤ t ∧ t ≤ 1099511627776) := by
  intro h2; rw [(okT_iff t).2 h2] at h; cases h
theorem convP_bad {x x0 y0 b c : Int} (h : okT x = false) : convP x x0 y0 b c = (0, 10) := by
  have := okT_no h
  unfold convP; rw [if_neg (by omega)]
theorem convP_out {x x0 y0 b c : Int} (h : okT (y0 + near (x - x0) b c) = false) : convP x x0 y0 b c = (0, 10) := by
  have := okT_no h
  unfold convP; rw [if_neg (by omega)]
theorem convP_in {x x0 y0 b c : Int} (h0 : okT x = true) (h : okT (y0 + near (x - x0) b c) = true) : convP x x0 y0 b c = (y0 + near (x - x0) b c, 0) := by
  rw [okT_iff] at h0 h
  unfold convP; rw [if_pos (by omega)]
set_option maxHeartbeats 1000000 in
theorem convert_any (w : World) (p : Value) (x x0 y0 b c y z : Int) (hx0 : 0 ≤ x0) (hx1 : x0 ≤ 1099511627776) (hy0 : 0 ≤ y0) (hy1 : y0 ≤ 1099511627776) (u0 : 1 ≤ b) (u1 : b ≤ 1099511627776) (d0 : 1 ≤ c) (d1 : c ≤ 1099511627776) (h : convP x x0 y0 b c = (y, z)) :
    Calls Try.prog 24 #[p, .int .i64 x, .int .i64 x0, .int .i64 y0, .int .i64 b, .int .i64 c] w (PairPost w y z) := by
  cases hv : okT x with
  | false =>
    have HR : Hid (y = 0 ∧ z = 10) := by rw [convP_bad hv] at h; exact Lib.hid ⟨(Prod.mk.inj h).1.symm, (Prod.mk.inj h).2.symm⟩
    clear h
    go_enter Try.func24, Try.ntmps24
    go_wp2_with fail
    refine (valid_any _ x false hv).mono ?_
    rintro e w' ⟨rfl, rfl⟩
    go_wp2_with fail
    go_ret2
    exact ⟨by rw [HR.out.1, HR.out.2]; rfl, Keep.refl _ _ _⟩
  | true =>
    have hx := (okT_iff x).1 hv
    obtain ⟨hx2, hx3⟩ := hx
    obtain ⟨N, hN⟩ : ∃ N, y0 + near (x - x0) b c = N := ⟨_, rfl⟩
    cases hn : okT N with
    | false =>
      have HR : Hid (y = 0 ∧ z = 10) := by rw [convP_out (by rw [hN]; exact hn)] at h; exact Lib.hid ⟨(Prod.mk.inj h).1.symm, (Prod.mk.inj h).2.symm⟩
      have HN := Lib.hid hN
      clear h hN
      go_enter Try.func24, Try.ntmps24
      go_wp2_with fail
      refine (valid_any _ x true hv).mono ?_
      rintro e w' ⟨rfl, rfl⟩
      go_wp2_with fail
      refine (scale_any _ y0 (x - x0) b c (by omega) (by omega) u0 u1 d0 d1 hy0 hy1).mono ?_
      rintro e w1 ⟨v, ok, rfl, hok, hvv, hk⟩
      rw [HN.out, hn] at hok
      subst hok
      have K1 := Lib.hid hk
      clear hvv hk
      go_wp2_with fail
      go_ret2
      exact ⟨by rw [HR.out.1, HR.out.2]; rfl, K1.out⟩
    | true =>
      have HR : Hid (y = N ∧ z = 0) := by rw [convP_in hv (by rw [hN]; exact hn), hN] at h; exact Lib.hid ⟨(Prod.mk.inj h).1.symm, (Prod.mk.inj h).2.symm⟩
      have HN := Lib.hid hN
      clear h hN
      go_enter Try.func24, Try.ntmps24
      go_wp2_with fail
      refine (valid_any _ x true hv).mono ?_
      rintro e w' ⟨rfl, rfl⟩
      go_wp2_with fail
      refine (scale_any _ y0 (x - x0) b c (by omega) (by omega) u0 u1 d0 d1 hy0 hy1).mono ?_
      rintro e w1 ⟨v, ok, rfl, hok, hvv, hk⟩
      rw [HN.out, hn] at hok
      subst hok
      have HV : Hid (v = N) := Lib.hid ((hvv rfl).trans HN.out)
      have K1 := Lib.hid hk
      clear hvv hk
      go_wp2_with fail
      go_ret2
      exact ⟨by rw [HR.out.1, HR.out.2, HV.out]; rfl, K1.out⟩
def boardP (f : Ft) (x : Int) : Int × Int := if f.n < 2 then (0, 12) else convP x f.g0 f.b0 (f.b1 - f.b0) (f.g1 - f.g0)
def groundP (f : Ft) (x : Int) : Int × Int := if f.n < 2 then (0, 12) else convP x f.b0 f.g0 (f.g1 - f.g0) (f.b1 - f.b0)
set_option maxHeartbeats 2000000 in
theorem board_any (w : World) (g : Nat) (f : Ft) (x y z : Int) (hf : Fo f) (h : boardP f x = (y, z)) (hb : Blk w g 51 (fcells f)) : Calls Try.prog 14 #[pf g, .int .i64 x] w (PairPost w y z) := by
  obtain ⟨h1, h2, h3, h4, h5⟩ := fcell6 hb
  have HB := Lib.hid hb
  by_cases hn : f.n < 2
  · have HR : Hid (y = 0 ∧ z = 12) := by unfold boardP at h; rw [if_pos hn] at h; exact Lib.hid ⟨(Prod.mk.inj h).1.symm, (Prod.mk.inj h).2.symm⟩
    clear h hb hf
    go_enter Try.func14, Try.ntmps14
    go_wp2_with fail
    refine (state_any _ g f 12 (by unfold stP; rw [if_pos (by omega)]) HB.out).mono ?_
    rintro e w' ⟨rfl, rfl⟩
    go_wp2_with fail
    go_ret2
    exact ⟨by rw [HR.out.1, HR.out.2]; rfl, Keep.refl _ _ _⟩
  · have HR : Hid (convP x f.g0 f.b0 (f.b1 - f.b0) (f.g1 - f.g0) = (y, z)) := by unfold boardP at h; rw [if_neg hn] at h; exact Lib.hid h
    have tw := hf.two (by omega)
    obtain ⟨t1, t2⟩ := tw
    have a0 := hf.a0; have a1 := hf.a1; have c0 := hf.c0; have c1 := hf.c1; have d0 := hf.d0; have d1 := hf.d1; have e0 := hf.e0; have e1 := hf.e1
    have s0 := And.intro h1 (And.intro h2 (And.intro h3 h4))
    have i1 := i64w (f.b1 - f.b0) (by omega) (by omega)
    have i2 := i64w (f.g1 - f.g0) (by omega) (by omega)
    clear h hb hf
    go_enter Try.func14, Try.ntmps14
    go_wp2_with fail
    refine (state_any _ g f 0 (by unfold stP; rw [if_neg (by omega)]) HB.out).mono ?_
    rintro e w' ⟨rfl, rfl⟩
    go_wp2_with fail
    go_region_held3 (fun w' => w'.cell? ⟨g, 1, none⟩ = some (.int .i64 f.g0) ∧ w'.cell? ⟨g, 2, none⟩ = some (.int .i64 f.b0) ∧ w'.cell? ⟨g, 3, none⟩ = some (.int .i64 f.g1) ∧ w'.cell? ⟨g, 4, none⟩ = some (.int .i64 f.b1))
      (first | exact s0 | exact s1)
      (first
        | (go_at_call 24
           refine (convert_any _ _ x f.g0 f.b0 (f.b1 - f.b0) (f.g1 - f.g0) y z (by omega) (by omega) (by omega) (by omega) (by omega) (by omega) (by omega) (by omega) HR.out).mono ?_
           rintro e w1 ⟨rfl, hk⟩
           have hb1 := fcell6 (HB.out.drew.keepS hk (by simp))
           have s1 := And.intro hb1.1 (And.intro hb1.2.1 (And.intro hb1.2.2.1 hb1.2.2.2.1))
           have K1 := Lib.hid hk.undrew
           clear hk hb1))
    go_wp2_with fail
    go_ret2
    exact ⟨rfl, K1.out⟩
set_option maxHeartbeats 400000 in
theorem board_nil (w : World) (x : Int) : Calls Try.prog 14 #[.pointer none, .int .i64 x] w fun e w' => e = .returned (.tuple #[.int .i64 0, .int .i64 2]) ∧ w' = w := by
  go_enter Try.func14, Try.ntmps14
  go_wp2_with fail
  refine (state_nil _).mono ?_
  rintro e w' ⟨rfl, rfl⟩
  go_wp2_with fail
  go_ret2
  exact ⟨rfl, rfl⟩
set_option maxHeartbeats 2000000 in
theorem ground_any (w : World) (g : Nat) (f : Ft) (x y z : Int) (hf : Fo f) (h : groundP f x = (y, z)) (hb : Blk w g 51 (fcells f)) : Calls Try.prog 15 #[pf g, .int .i64 x] w (PairPost w y z) := by
  obtain ⟨h1, h2, h3, h4, h5⟩ := fcell6 hb
  have HB := Lib.hid hb
  by_cases hn : f.n < 2
  · have HR : Hid (y = 0 ∧ z = 12) := by unfold groundP at h; rw [if_pos hn] at h; exact Lib.hid ⟨(Prod.mk.inj h).1.symm, (Prod.mk.inj h).2.symm⟩
    clear h hb hf
    go_enter Try.func15, Try.ntmps15
    go_wp2_with fail
    refine (state_any _ g f 12 (by unfold stP; rw [if_pos (by omega)]) HB.out).mono ?_
    rintro e w' ⟨rfl, rfl⟩
    go_wp2_with fail
    go_ret2
    exact ⟨by rw [HR.out.1, HR.out.2]; rfl, Keep.refl _ _ _⟩
  · have HR : Hid (convP x f.b0 f.g0 (f.g1 - f.g0) (f.b1 - f.b0) = (y, z)) := by unfold groundP at h; rw [if_neg hn] at h; exact Lib.hid h
    have tw := hf.two (by omega)
    obtain ⟨t1, t2⟩ := tw
    have a0 := hf.a0; have a1 := hf.a1; have c0 := hf.c0; have c1 := hf.c1; have d0 := hf.d0; have d1 := hf.d1; have e0 := hf.e0; have e1 := hf.e1
    have s0 := And.intro h1 (And.intro h2 (And.intro h3 h4))
    have i1 := i64w (f.b1 - f.b0) (by omega) (by omega)
    have i2 := i64w (f.g1 - f.g0) (by omega) (by omega)
    clear h hb hf
    go_enter Try.func15, Try.ntmps15
    go_wp2_with fail
    refine (state_any _ g f 0 (by unfold stP; rw [if_neg (by omega)]) HB.out).mono ?_
    rintro e w' ⟨rfl, rfl⟩
    go_wp2_with fail
    go_region_held3 (fun w' => w'.cell? ⟨g, 1, none⟩ = some (.int .i64 f.g0) ∧ w'.cell? ⟨g, 2, none⟩ = some (.int .i64 f.b0) ∧ w'.cell? ⟨g, 3, none⟩ = some (.int .i64 f.g1) ∧ w'.cell? ⟨g, 4, none⟩ = some (.int .i64 f.b1))
      (first | exact s0 | exact s1)
      (first
        | (go_at_call 24
           refine (convert_any _ _ x f.b0 f.g0 (f.g1 - f.g0) (f.b1 - f.b0) y z (by omega) (by omega) (by omega) (by omega) (by omega) (by omega) (by omega) (by omega) HR.out).mono ?_
           rintro e w1 ⟨rfl, hk⟩
           have hb1 := fcell6 (HB.out.drew.keepS hk (by simp))
           have s1 := And.intro hb1.1 (And.intro hb1.2.1 (And.intro hb1.2.2.1 hb1.2.2.2.1))
           have K1 := Lib.hid hk.undrew
           clear hk hb1))
    go_wp2_with fail
    go_ret2
    exact ⟨rfl, K1.out⟩
set_option maxHeartbeats 400000 in
theorem ground_nil (w : World) (x : Int) : Calls Try.prog 15 #[.pointer none, .int .i64 x] w fun e w' => e = .returned (.tuple #[.int .i64 0, .int .i64 2]) ∧ w' = w := by
  go_enter Try.func15, Try.ntmps15
  go_wp2_with fail
  refine (state_nil _).mono ?_
  rintro e w' ⟨rfl, rfl⟩
  go_wp2_with fail
  go_ret2
  exact ⟨rfl, rfl⟩
/-- division downwards, as both reckon it -/
theorem tdiv_floor (n m : Int) (hm : 0 < m) : (n.tmod m < 0 → n / m = n.tdiv m - 1) ∧ (¬ n.tmod m < 0 → n / m = n.tdiv m) := by
  have h := Int.mul_tdiv_add_tmod n m
  have a := Int.mul_ediv_add_emod n m
  have b := Int.emod_nonneg n (show m ≠ 0 by omega)
  have c := Int.emod_lt_of_pos n hm
  have l1 : -m < n.tmod m := by
    by_cases hn : 0 ≤ n
    · have := Int.tmod_nonneg m hn; omega
    · have h1 := Int.neg_tmod n m
      have h2 := Int.tmod_lt_of_pos (-n) hm
      omega
  have l2 : n.tmod m < m := Int.tmod_lt_of_pos n hm
  have key : ∀ d : Int, m * d < m → -m < m * d → d = 0 := fun d h1 h2 => by
    rcases Int.lt_trichotomy d 0 with h3 | h3 | h3
    · exfalso
      have : m * d ≤ m * (-1) := Int.mul_le_mul_of_nonneg_left (by omega) (by omega)
      omega
    · exact h3
    · exfalso
      have : m * 1 ≤ m * d := Int.mul_le_mul_of_nonneg_left (by omega) (by omega)
      omega
  constructor
  · intro h0
    have h1 : m * (n / m - (n.tdiv m - 1)) = n.tmod m + m - n % m := by rw [Int.mul_sub, Int.mul_sub]; omega
    have := key (n / m - (n.tdiv m - 1)) (by omega) (by omega)
    omega
  · intro h0
    have h1 : m * (n / m - n.tdiv m) = n.tmod m - n % m := by rw [Int.mul_sub]; omega
    have := key (n / m - n.tdiv m) (by omega) (by omega)
    omega
def driftP (f : Ft) : Int × Int := if f.n < 2 then (0, 12) else ((2000000 * ((f.b1 - f.b0) - (f.g1 - f.g0)) + (f.g1 - f.g0)) / (2 * (f.g1 - f.g0)), 0)
set_option maxHeartbeats 2000000 in
theorem drift_any (w : World) (g : Nat) (f : Ft) (y z : Int) (hf : Fo f) (h : driftP f = (y, z)) (hb : Blk w g 51 (fcells f)) : Calls Try.prog 10 #[pf g] w (PairPost w y z) := by
  obtain ⟨h1, h2, h3, h4, h5⟩ := fcell6 hb
  have HB := Lib.hid hb
  by_cases hn : f.n < 2
  · have HR : Hid (y = 0 ∧ z = 12) := by unfold driftP at h; rw [if_pos hn] at h; exact Lib.hid ⟨(Prod.mk.inj h).1.symm, (Prod.mk.inj h).2.symm⟩
    clear h hb hf
    go_enter Try.func10, Try.ntmps10
    go_wp2_with fail
    refine (state_any _ g f 12 (by unfold stP; rw [if_pos (by omega)]) HB.out).mono ?_
    rintro e w' ⟨rfl, rfl⟩
    go_wp2_with fail
    go_ret2
    exact ⟨by rw [HR.out.1, HR.out.2]; rfl, Keep.refl _ _ _⟩
  · have tw := hf.two (by omega)
    obtain ⟨t1, t2⟩ := tw
    have a0 := hf.a0; have a1 := hf.a1; have c0 := hf.c0; have c1 := hf.c1; have d0 := hf.d0; have d1 := hf.d1; have e0 := hf.e0; have e1 := hf.e1
    have i1 := i64w (f.b1 - f.b0) (by omega) (by omega)
    have i2 := i64w (f.g1 - f.g0) (by omega) (by omega)
    obtain ⟨G, hG⟩ : ∃ G, f.g1 - f.g0 = G := ⟨_, rfl⟩
    obtain ⟨B, hB⟩ : ∃ B, f.b1 - f.b0 = B := ⟨_, rfl⟩
    have hG0 : 1 ≤ G := by omega
    have hG1 : G ≤ 1099511627776 := by omega
    have hB0 : 1 ≤ B := by omega
    have hB1 : B ≤ 1099511627776 := by omega
    have HR : Hid ((2000000 * (B - G) + G) / (2 * G) = y ∧ z = 0) := by unfold driftP at h; rw [if_neg hn, hG, hB] at h; exact Lib.hid ⟨(Prod.mk.inj h).1, (Prod.mk.inj h).2.symm⟩
    obtain ⟨f1, f2⟩ := tdiv_floor (2000000 * (B - G) + G) (2 * G) (by omega)
    obtain ⟨q, hq⟩ : ∃ q, (2000000 * (B - G) + G).tdiv (2 * G) = q := ⟨_, rfl⟩
    obtain ⟨r, hr⟩ : ∃ r, (2000000 * (B - G) + G).tmod (2 * G) = r := ⟨_, rfl⟩
    rw [hq, hr] at f1 f2
    have hqb : -4611686018427387904 ≤ q ∧ q ≤ 4611686018427387904 := by
      have h1 := Int.natAbs_tdiv_le_natAbs (2000000 * (B - G) + G) (2 * G)
      rw [hq] at h1
      omega
    obtain ⟨hq0, hq1⟩ := hqb
    have HQ := Lib.hid (And.intro f1 f2)
    clear h hb hf f1 f2
    by_cases hr0 : r < 0
    · have HY : Hid (y = q - 1) := Lib.hid (by rw [← HR.out.1]; exact HQ.out.1 hr0)
      go_enter Try.func10, Try.ntmps10
      go_wp2_with fail
      refine (state_any _ g f 0 (by unfold stP; rw [if_neg (by omega)]) HB.out).mono ?_
      rintro e w' ⟨rfl, rfl⟩
      go_wp2_with fail
      go_quiet (fail)
      go_wp2_with fail
      go_ret2
      exact ⟨by rw [HY.out, HR.out.2]; rfl, (Keep.refl _ _ _).drewN _⟩
    · have HY : Hid (y = q) := Lib.hid (by rw [← HR.out.1]; exact HQ.out.2 hr0)
      go_enter Try.func10, Try.ntmps10
      go_wp2_with fail
      refine (state_any _ g f 0 (by unfold stP; rw [if_neg (by omega)]) HB.out).mono ?_
      rintro e w' ⟨rfl, rfl⟩
      go_wp2_with fail
      go_quiet (fail)
      go_wp2_with fail
      go_ret2
      exact ⟨by rw [HY.out, HR.out.2]; rfl, (Keep.refl _ _ _).drewN _⟩
set_option maxHeartbeats 400000 in
theorem drift_nil (w : World) : Calls Try.prog 10 #[.pointer none] w fun e w' => e = .returned (.tuple #[.int .i64 0, .int .i64 2]) ∧ w' = w := by
  go_enter Try.func10, Try.ntmps10
  go_wp2_with fail
  refine (state_nil _).mono ?_
  rintro e w' ⟨rfl, rfl⟩
  go_wp2_with fail
  go_ret2
  exact ⟨rfl, rfl⟩
end Go.Proofs.Ytdckpamempejgaa
