/- The reference's correlation. -/
import Derived.Test.YtdckpamempejgaaTConv
namespace Go.Proofs.Ytdckpamempejgaa
set_option linter.unusedVariables false
set_option linter.unusedSimpArgs false
open Go.RowKit
abbrev rcells (f : Ft) : Array Value := #[.int .i64 f.n, .int .i64 f.g0, .int .i64 f.b0, .int .i64 f.g1, .int .i64 f.b1]
abbrev ragg (f : Ft) : Value := .agg (rcells f)
theorem rcell5 {w : World} {g : Nat} {t : TypeId} {f : Ft} (h : Blk w g t (rcells f)) : w.cell? ⟨g, 0, none⟩ = some (.int .i64 f.n) ∧ w.cell? ⟨g, 1, none⟩ = some (.int .i64 f.g0) ∧ w.cell? ⟨g, 2, none⟩ = some (.int .i64 f.b0) ∧ w.cell? ⟨g, 3, none⟩ = some (.int .i64 f.g1) ∧ w.cell? ⟨g, 4, none⟩ = some (.int .i64 f.b1) :=
  ⟨h.cell 0, h.cell 1, h.cell 2, h.cell 3, h.cell 4⟩
/-- the reference's conversion answers the same -/
theorem convM (x x0 y0 b c : Int) (hy0 : 0 ≤ y0) (hy1 : y0 ≤ 1099511627776) (hb : 0 ≤ b) (hc : 1 ≤ c) :
    convP x x0 y0 b c = if 0 ≤ x ∧ x ≤ 1099511627776 ∧ 0 ≤ y0 + nearM (x - x0) b c ∧ y0 + nearM (x - x0) b c ≤ 1099511627776 then (y0 + nearM (x - x0) b c, 0) else (0, 10) := by
  unfold convP
  rcases nearM_ok (x - x0) b c hb hc with h | h | h
  · rw [h]
  · rw [if_neg (by omega), if_neg (by omega)]
  · rw [if_neg (by omega), if_neg (by omega)]
set_option maxHeartbeats 1000000 in
theorem rconvert_lo (w : World) (n x x0 y0 x1 y1 : Int) (hn : n < 2) : Calls Try.prog 25 #[.int .i64 n, .int .i64 x, .int .i64 x0, .int .i64 y0, .int .i64 x1, .int .i64 y1] w (PairPost w 0 12) := by
  go_enter Try.func25, Try.ntmps25
  go_wp2_with fail
  go_ret2
  exact ⟨rfl, Keep.refl _ _ _⟩
set_option maxHeartbeats 1000000 in
theorem rconvert_any (w : World) (n x x0 y0 x1 y1 y z : Int) (hn : 2 ≤ n) (hx0 : 0 ≤ x0) (hx1 : x0 ≤ 1099511627776) (hy0 : 0 ≤ y0) (hy1 : y0 ≤ 1099511627776) (hz0 : x0 < x1) (hz1 : x1 ≤ 1099511627776) (ht0 : y0 < y1) (ht1 : y1 ≤ 1099511627776)
    (h : convP x x0 y0 (y1 - y0) (x1 - x0) = (y, z)) :
    Calls Try.prog 25 #[.int .i64 n, .int .i64 x, .int .i64 x0, .int .i64 y0, .int .i64 x1, .int .i64 y1] w (PairPost w y z) := by
  have hN : ¬ n < 2 := by omega
  have i1 := i64w (y1 - y0) (by omega) (by omega)
  have i2 := i64w (x1 - x0) (by omega) (by omega)
  cases hv : okT x with
  | false =>
    have HR : Hid (y = 0 ∧ z = 10) := by rw [convP_bad hv] at h; exact Lib.hid ⟨(Prod.mk.inj h).1.symm, (Prod.mk.inj h).2.symm⟩
    have hx := okT_no hv
    clear h hv
    by_cases h1 : x < 0
    · clear hx
      go_enter Try.func25, Try.ntmps25
      go_wp2_with fail
      go_ret2
      exact ⟨by rw [HR.out.1, HR.out.2]; rfl, Keep.refl _ _ _⟩
    · have h2 : 1099511627776 < x := by omega
      clear hx
      go_enter Try.func25, Try.ntmps25
      go_wp2_with fail
      go_ret2
      exact ⟨by rw [HR.out.1, HR.out.2]; rfl, Keep.refl _ _ _⟩
  | true =>
    have hx := (okT_iff x).1 hv
    obtain ⟨hx2, hx3⟩ := hx
    have i3 := i64w (x - x0) (by omega) (by omega)
    obtain ⟨N, hN⟩ : ∃ N, nearM (x - x0) (y1 - y0) (x1 - x0) = N := ⟨_, rfl⟩
    have hb := nearM_bd (x - x0) (y1 - y0) (x1 - x0) (by omega) (by omega)
    rw [hN] at hb
    obtain ⟨hb0, hb1⟩ := hb
    rw [convM _ _ _ _ _ hy0 hy1 (by omega) (by omega), hN] at h
    have HN := Lib.hid hN
    clear hv hN
    by_cases h1 : y0 + N < 0
    · have HR : Hid (y = 0 ∧ z = 10) := by rw [if_neg (by omega)] at h; exact Lib.hid ⟨(Prod.mk.inj h).1.symm, (Prod.mk.inj h).2.symm⟩
      clear h
      go_enter Try.func25, Try.ntmps25
      go_wp2_with fail
      refine (rscale_any _ (x - x0) (y1 - y0) (x1 - x0) N (by omega) (by omega) (by omega) (by omega) (by omega) (by omega) HN.out).mono ?_
      rintro e w' ⟨rfl, rfl⟩
      go_wp2_with fail
      go_ret2
      exact ⟨by rw [HR.out.1, HR.out.2]; rfl, Keep.refl _ _ _⟩
    · by_cases h2 : 1099511627776 < y0 + N
      · have HR : Hid (y = 0 ∧ z = 10) := by rw [if_neg (by omega)] at h; exact Lib.hid ⟨(Prod.mk.inj h).1.symm, (Prod.mk.inj h).2.symm⟩
        clear h
        go_enter Try.func25, Try.ntmps25
        go_wp2_with fail
        refine (rscale_any _ (x - x0) (y1 - y0) (x1 - x0) N (by omega) (by omega) (by omega) (by omega) (by omega) (by omega) HN.out).mono ?_
        rintro e w' ⟨rfl, rfl⟩
        go_wp2_with fail
        go_ret2
        exact ⟨by rw [HR.out.1, HR.out.2]; rfl, Keep.refl _ _ _⟩
      · have HR : Hid (y = y0 + N ∧ z = 0) := by rw [if_pos (by omega)] at h; exact Lib.hid ⟨(Prod.mk.inj h).1.symm, (Prod.mk.inj h).2.symm⟩
        clear h
        go_enter Try.func25, Try.ntmps25
        go_wp2_with fail
        refine (rscale_any _ (x - x0) (y1 - y0) (x1 - x0) N (by omega) (by omega) (by omega) (by omega) (by omega) (by omega) HN.out).mono ?_
        rintro e w' ⟨rfl, rfl⟩
        go_wp2_with fail
        go_ret2
        exact ⟨by rw [HR.out.1, HR.out.2]; rfl, Keep.refl _ _ _⟩
set_option maxHeartbeats 1000000 in
theorem rboard_any (w : World) (f : Ft) (x y z : Int) (hf : Fo f) (h : boardP f x = (y, z)) : Calls Try.prog 17 #[ragg f, .int .i64 x] w (PairPost w y z) := by
  obtain ⟨h1, h2, h3, h4, h5⟩ := rcell5 (Blk.new w 26 (rcells f))
  by_cases hn : f.n < 2
  · have HR : Hid (y = 0 ∧ z = 12) := by unfold boardP at h; rw [if_pos hn] at h; exact Lib.hid ⟨(Prod.mk.inj h).1.symm, (Prod.mk.inj h).2.symm⟩
    clear h hf
    go_enter Try.func17, Try.ntmps17
    go_wp2_with fail
    refine (rconvert_lo _ f.n x f.g0 f.b0 f.g1 f.b1 hn).mono ?_
    rintro e w1 ⟨rfl, hk⟩
    have K1 := Lib.hid (((Keep.refl _ _ w).alloc (Nat.le_refl _) _).chain0 (Nat.le_refl _) hk)
    clear hk
    go_wp2_with fail
    go_ret2
    exact ⟨by rw [HR.out.1, HR.out.2]; rfl, K1.out⟩
  · have HR : Hid (convP x f.g0 f.b0 (f.b1 - f.b0) (f.g1 - f.g0) = (y, z)) := by unfold boardP at h; rw [if_neg hn] at h; exact Lib.hid h
    have tw := hf.two (by omega)
    obtain ⟨t1, t2⟩ := tw
    have a0 := hf.a0; have a1 := hf.a1; have c0 := hf.c0; have c1 := hf.c1; have d0 := hf.d0; have d1 := hf.d1; have e0 := hf.e0; have e1 := hf.e1
    clear h hf
    go_enter Try.func17, Try.ntmps17
    go_wp2_with fail
    refine (rconvert_any _ f.n x f.g0 f.b0 f.g1 f.b1 y z (by omega) (by omega) (by omega) (by omega) (by omega) (by omega) (by omega) (by omega) (by omega) HR.out).mono ?_
    rintro e w1 ⟨rfl, hk⟩
    have K1 := Lib.hid (((Keep.refl _ _ w).alloc (Nat.le_refl _) _).chain0 (Nat.le_refl _) hk)
    clear hk
    go_wp2_with fail
    go_ret2
    exact ⟨rfl, K1.out⟩
set_option maxHeartbeats 1000000 in
theorem rground_any (w : World) (f : Ft) (x y z : Int) (hf : Fo f) (h : groundP f x = (y, z)) : Calls Try.prog 18 #[ragg f, .int .i64 x] w (PairPost w y z) := by
  obtain ⟨h1, h2, h3, h4, h5⟩ := rcell5 (Blk.new w 26 (rcells f))
  by_cases hn : f.n < 2
  · have HR : Hid (y = 0 ∧ z = 12) := by unfold groundP at h; rw [if_pos hn] at h; exact Lib.hid ⟨(Prod.mk.inj h).1.symm, (Prod.mk.inj h).2.symm⟩
    clear h hf
    go_enter Try.func18, Try.ntmps18
    go_wp2_with fail
    refine (rconvert_lo _ f.n x f.b0 f.g0 f.b1 f.g1 hn).mono ?_
    rintro e w1 ⟨rfl, hk⟩
    have K1 := Lib.hid (((Keep.refl _ _ w).alloc (Nat.le_refl _) _).chain0 (Nat.le_refl _) hk)
    clear hk
    go_wp2_with fail
    go_ret2
    exact ⟨by rw [HR.out.1, HR.out.2]; rfl, K1.out⟩
  · have HR : Hid (convP x f.b0 f.g0 (f.g1 - f.g0) (f.b1 - f.b0) = (y, z)) := by unfold groundP at h; rw [if_neg hn] at h; exact Lib.hid h
    have tw := hf.two (by omega)
    obtain ⟨t1, t2⟩ := tw
    have a0 := hf.a0; have a1 := hf.a1; have c0 := hf.c0; have c1 := hf.c1; have d0 := hf.d0; have d1 := hf.d1; have e0 := hf.e0; have e1 := hf.e1
    clear h hf
    go_enter Try.func18, Try.ntmps18
    go_wp2_with fail
    refine (rconvert_any _ f.n x f.b0 f.g0 f.b1 f.g1 y z (by omega) (by omega) (by omega) (by omega) (by omega) (by omega) (by omega) (by omega) (by omega) HR.out).mono ?_
    rintro e w1 ⟨rfl, hk⟩
    have K1 := Lib.hid (((Keep.refl _ _ w).alloc (Nat.le_refl _) _).chain0 (Nat.le_refl _) hk)
    clear hk
    go_wp2_with fail
    go_ret2
    exact ⟨rfl, K1.out⟩
set_option maxHeartbeats 2000000 in
theorem rdrift_any (w : World) (f : Ft) (y z : Int) (hf : Fo f) (h : driftP f = (y, z)) : Calls Try.prog 11 #[ragg f] w (PairPost w y z) := by
  obtain ⟨h1, h2, h3, h4, h5⟩ := rcell5 (Blk.new w 26 (rcells f))
  by_cases hn : f.n < 2
  · have HR : Hid (y = 0 ∧ z = 12) := by unfold driftP at h; rw [if_pos hn] at h; exact Lib.hid ⟨(Prod.mk.inj h).1.symm, (Prod.mk.inj h).2.symm⟩
    clear h hf
    go_enter Try.func11, Try.ntmps11
    go_wp2_with fail
    go_ret2
    exact ⟨by rw [HR.out.1, HR.out.2]; rfl, (Keep.refl _ _ w).alloc (Nat.le_refl _) _⟩
  · have tw := hf.two (by omega)
    obtain ⟨t1, t2⟩ := tw
    have a0 := hf.a0; have a1 := hf.a1; have c0 := hf.c0; have c1 := hf.c1; have d0 := hf.d0; have d1 := hf.d1; have e0 := hf.e0; have e1 := hf.e1
    obtain ⟨G, hG⟩ : ∃ G, f.g1 - f.g0 = G := ⟨_, rfl⟩
    obtain ⟨B, hB⟩ : ∃ B, f.b1 - f.b0 = B := ⟨_, rfl⟩
    have hG0 : 1 ≤ G := by omega
    have hG1 : G ≤ 1099511627776 := by omega
    have hB0 : 1 ≤ B := by omega
    have hB1 : B ≤ 1099511627776 := by omega
    obtain ⟨n, hn'⟩ : ∃ n, 1000000 * (B - G) * 2 + G = n := ⟨_, rfl⟩
    have HR : Hid (n / (2 * G) = y ∧ z = 0) := by unfold driftP at h; rw [if_neg hn, hG, hB] at h; exact Lib.hid ⟨by rw [← (Prod.mk.inj h).1, ← hn']; congr 1; omega, (Prod.mk.inj h).2.symm⟩
    obtain ⟨f1, f2⟩ := tdiv_floor n (2 * G) (by omega)
    have hs : 0 ≤ n → 0 ≤ n.tmod (2 * G) := fun h => Int.tmod_nonneg _ h
    have hs2 : n < 0 → n.tmod (2 * G) ≤ 0 := fun h => by
      have h1 := Int.neg_tmod n (2 * G)
      have h2 := Int.tmod_nonneg (2 * G) (show 0 ≤ -n by omega)
      omega
    obtain ⟨q, hq⟩ : ∃ q, n.tdiv (2 * G) = q := ⟨_, rfl⟩
    obtain ⟨r, hr⟩ : ∃ r, n.tmod (2 * G) = r := ⟨_, rfl⟩
    rw [hq, hr] at f1 f2
    rw [hr] at hs hs2
    have hqb : -4611686018427387904 ≤ q ∧ q ≤ 4611686018427387904 := by
      have h1 := Int.natAbs_tdiv_le_natAbs n (2 * G)
      rw [hq] at h1
      omega
    obtain ⟨hq0, hq1⟩ := hqb
    have HQ := Lib.hid (And.intro f1 f2)
    clear h hf f1 f2
    by_cases hn0 : n < 0
    · by_cases hr0 : r = 0
      · have HY : Hid (y = q) := Lib.hid (by rw [← HR.out.1]; exact HQ.out.2 (by omega))
        clear hs hs2
        go_enter Try.func11, Try.ntmps11
        go_wp2_with fail
        go_ret2
        exact ⟨by rw [HY.out, HR.out.2]; rfl, (Keep.refl _ _ w).alloc (Nat.le_refl _) _⟩
      · have HY : Hid (y = q - 1) := Lib.hid (by rw [← HR.out.1]; exact HQ.out.1 (by have := hs2 hn0; omega))
        clear hs hs2
        go_enter Try.func11, Try.ntmps11
        go_wp2_with fail
        go_ret2
        exact ⟨by rw [HY.out, HR.out.2]; rfl, (Keep.refl _ _ w).alloc (Nat.le_refl _) _⟩
    · have HY : Hid (y = q) := Lib.hid (by rw [← HR.out.1]; exact HQ.out.2 (by have := hs (by omega); omega))
      clear hs hs2
      go_enter Try.func11, Try.ntmps11
      go_wp2_with fail
      go_ret2
      exact ⟨by rw [HY.out, HR.out.2]; rfl, (Keep.refl _ _ w).alloc (Nat.le_refl _) _⟩
end Go.Proofs.Ytdckpamempejgaa
