/- Conversions, plainly: the ends, the order, the way back. -/
import Derived.Test.YtdckpamempejgaaTLawA
namespace Go.Proofs.Ytdckpamempejgaa
set_option linter.unusedVariables false
set_option linter.unusedSimpArgs false
open Go.RowKit
theorem near_eq (d b c : Int) (hc : 1 ≤ c) : near d b c = (2 * (d * b) + c) / (2 * c) := by
  unfold near nearB
  simp only [id]
  by_cases h0 : 0 ≤ d
  · rw [if_pos h0]
    have h := Int.mul_ediv_add_emod (d * b) c
    have r0 := Int.emod_nonneg (d * b) (show c ≠ 0 by omega)
    have r1 := Int.emod_lt_of_pos (d * b) (show 0 < c by omega)
    obtain ⟨q, hq⟩ : ∃ q, d * b / c = q := ⟨_, rfl⟩
    obtain ⟨r, hr⟩ : ∃ r, d * b % c = r := ⟨_, rfl⟩
    rw [hq, hr] at h
    rw [hr] at r0 r1
    rw [hq, hr]
    have e : 2 * (d * b) + c = (2 * r + c) + q * (2 * c) := by
      have : q * (2 * c) = 2 * (c * q) := by rw [Int.mul_comm q, Int.mul_assoc]
      omega
    rw [e, Int.add_mul_ediv_right _ _ (by omega)]
    by_cases h1 : c ≤ 2 * r
    · rw [if_pos h1]
      have : (2 * r + c) / (2 * c) = 1 := by
        have : 2 * r + c = (2 * r - c) + 1 * (2 * c) := by omega
        rw [this, Int.add_mul_ediv_right _ _ (by omega), Int.ediv_eq_zero_of_lt (by omega) (by omega)]; rfl
      omega
    · rw [if_neg h1]
      have : (2 * r + c) / (2 * c) = 0 := Int.ediv_eq_zero_of_lt (by omega) (by omega)
      omega
  · rw [if_neg h0]
    have h := Int.mul_ediv_add_emod (-d * b) c
    have r0 := Int.emod_nonneg (-d * b) (show c ≠ 0 by omega)
    have r1 := Int.emod_lt_of_pos (-d * b) (show 0 < c by omega)
    obtain ⟨q, hq⟩ : ∃ q, -d * b / c = q := ⟨_, rfl⟩
    obtain ⟨r, hr⟩ : ∃ r, -d * b % c = r := ⟨_, rfl⟩
    rw [hq, hr] at h
    rw [hr] at r0 r1
    rw [hq, hr]
    have hn : -d * b = -(d * b) := Int.neg_mul d b
    have e : 2 * (d * b) + c = (c - 2 * r) + (-q) * (2 * c) := by
      have : (-q) * (2 * c) = -(2 * (c * q)) := by rw [Int.neg_mul, Int.mul_comm q, Int.mul_assoc]
      omega
    rw [e, Int.add_mul_ediv_right _ _ (by omega)]
    by_cases h1 : c < 2 * r
    · rw [if_pos h1]
      have : (c - 2 * r) / (2 * c) = -1 := by
        have : c - 2 * r = (c - 2 * r + 2 * c) + (-1) * (2 * c) := by omega
        rw [this, Int.add_mul_ediv_right _ _ (by omega), Int.ediv_eq_zero_of_lt (by omega) (by omega)]; rfl
      omega
    · rw [if_neg h1]
      have : (c - 2 * r) / (2 * c) = 0 := Int.ediv_eq_zero_of_lt (by omega) (by omega)
      omega
theorem near_mono {d e b c : Int} (hc : 1 ≤ c) (hb : 0 ≤ b) (h : d ≤ e) : near d b c ≤ near e b c := by
  rw [near_eq d b c hc, near_eq e b c hc]
  apply Int.ediv_le_ediv (by omega)
  have := Int.mul_le_mul_of_nonneg_right h hb
  omega
theorem near_zero (b c : Int) (hc : 1 ≤ c) : near 0 b c = 0 := by
  rw [near_eq 0 b c hc, Int.zero_mul]
  exact Int.ediv_eq_zero_of_lt (by omega) (by omega)
theorem near_all (b c : Int) (hc : 1 ≤ c) : near c b c = b := by
  rw [near_eq c b c hc]
  have : 2 * (c * b) + c = c + b * (2 * c) := by
    have : b * (2 * c) = 2 * (c * b) := by rw [Int.mul_comm b, Int.mul_assoc]
    omega
  rw [this, Int.add_mul_ediv_right _ _ (by omega), Int.ediv_eq_zero_of_lt (by omega) (by omega)]
  omega
theorem near_back {d B G : Int} (hG : 1 ≤ G) (hB : G ≤ B) : near (near d B G) G B = d := by
  obtain ⟨N, hN⟩ : ∃ N, near d B G = N := ⟨_, rfl⟩
  rw [hN, near_eq N G B (by omega)]
  rw [near_eq d B G hG] at hN
  have h := Int.mul_ediv_add_emod (2 * (d * B) + G) (2 * G)
  have r0 := Int.emod_nonneg (2 * (d * B) + G) (show 2 * G ≠ 0 by omega)
  have r1 := Int.emod_lt_of_pos (2 * (d * B) + G) (show 0 < 2 * G by omega)
  rw [hN] at h
  have e1 : 2 * G * N = 2 * (N * G) := by rw [Int.mul_assoc, Int.mul_comm G]
  have e2 : d * (2 * B) = 2 * (d * B) := by rw [Int.mul_comm d, Int.mul_assoc, Int.mul_comm B]
  have key : 2 * (N * G) + B = (2 * (N * G) - 2 * (d * B) + B) + d * (2 * B) := by omega
  rw [key, Int.add_mul_ediv_right _ _ (by omega)]
  by_cases hGB : G = B
  · subst hGB
    have : N = d := by
      rw [← hN]
      have : 2 * (d * G) + G = G + d * (2 * G) := by omega
      rw [this, Int.add_mul_ediv_right _ _ (by omega), Int.ediv_eq_zero_of_lt (by omega) (by omega)]
      omega
    rw [this, Int.ediv_eq_zero_of_lt (by omega) (by omega)]
    omega
  · rw [Int.ediv_eq_zero_of_lt (by omega) (by omega)]
    omega
theorem conv_first (f : Ft) (h : Fo f) (hn : 2 ≤ f.n) : boardP f f.g0 = (f.b0, 0) ∧ groundP f f.b0 = (f.g0, 0) := by
  have tw := h.two hn
  have a0 := h.a0; have a1 := h.a1; have c0 := h.c0; have c1 := h.c1
  constructor
  · unfold boardP convP
    rw [if_neg (by omega), show f.g0 - f.g0 = 0 from by omega, near_zero _ _ (by omega), if_pos (by omega), Int.add_zero]
  · unfold groundP convP
    rw [if_neg (by omega), show f.b0 - f.b0 = 0 from by omega, near_zero _ _ (by omega), if_pos (by omega), Int.add_zero]
theorem conv_last (f : Ft) (h : Fo f) (hn : 2 ≤ f.n) : boardP f f.g1 = (f.b1, 0) ∧ groundP f f.b1 = (f.g1, 0) := by
  have tw := h.two hn
  have d0 := h.d0; have d1 := h.d1; have e0 := h.e0; have e1 := h.e1
  constructor
  · unfold boardP convP
    rw [if_neg (by omega), near_all _ _ (by omega), if_pos (by omega)]
    congr 1; omega
  · unfold groundP convP
    rw [if_neg (by omega), near_all _ _ (by omega), if_pos (by omega)]
    congr 1; omega
theorem convP_zero {x x0 y0 b c y : Int} (h : convP x x0 y0 b c = (y, 0)) : 0 ≤ x ∧ x ≤ 1099511627776 ∧ y = y0 + near (x - x0) b c := by
  unfold convP at h
  by_cases h0 : 0 ≤ x ∧ x ≤ 1099511627776 ∧ 0 ≤ y0 + near (x - x0) b c ∧ y0 + near (x - x0) b c ≤ 1099511627776
  · rw [if_pos h0] at h; exact ⟨h0.1, h0.2.1, (Prod.mk.inj h).1.symm⟩
  · rw [if_neg h0] at h; have := (Prod.mk.inj h).2; omega
theorem board_mono (f : Ft) (h : Fo f) (hn : 2 ≤ f.n) {s t x y : Int} (hst : s ≤ t) (hx : boardP f s = (x, 0)) (hy : boardP f t = (y, 0)) : x ≤ y := by
  have tw := h.two hn
  unfold boardP at hx hy
  rw [if_neg (by omega)] at hx hy
  obtain ⟨_, _, e1⟩ := convP_zero hx
  obtain ⟨_, _, e2⟩ := convP_zero hy
  have := near_mono (d := s - f.g0) (e := t - f.g0) (b := f.b1 - f.b0) (c := f.g1 - f.g0) (by omega) (by omega) (by omega)
  omega
theorem board_ground (f : Ft) (h : Fo f) (hn : 2 ≤ f.n) (hs : f.g1 - f.g0 ≤ f.b1 - f.b0) {t x y : Int} (hx : boardP f t = (x, 0)) (hy : groundP f x = (y, 0)) : y = t := by
  have tw := h.two hn
  unfold boardP at hx
  unfold groundP at hy
  rw [if_neg (by omega)] at hx hy
  obtain ⟨_, _, e1⟩ := convP_zero hx
  obtain ⟨_, _, e2⟩ := convP_zero hy
  have hb := near_back (d := t - f.g0) (B := f.b1 - f.b0) (G := f.g1 - f.g0) (by omega) hs
  rw [show x - f.b0 = near (t - f.g0) (f.b1 - f.b0) (f.g1 - f.g0) from by omega, hb] at e2
  omega
theorem add_zero {f f' : Ft} {a b : Int} (h : addP f a b = (f', 0)) : f' = goodF f a b := by
  by_cases hb : badP f a b
  · rw [addP_bad hb] at h; have := (Prod.mk.inj h).2; omega
  · rw [addP_good hb] at h; exact (Prod.mk.inj h).1.symm
theorem two_adds {f1 f2 : Ft} {a b c d : Int} (h1 : addP f0 a b = (f1, 0)) (h2 : addP f1 c d = (f2, 0)) : f1 = ⟨1, a, b, a, b⟩ ∧ f2 = ⟨2, a, b, c, d⟩ := by
  have e1 := add_zero h1
  have e1' : f1 = ⟨1, a, b, a, b⟩ := by rw [e1]; rfl
  have e2 := add_zero h2
  refine ⟨e1', ?_⟩
  rw [e2, e1']; rfl
end Go.Proofs.Ytdckpamempejgaa
