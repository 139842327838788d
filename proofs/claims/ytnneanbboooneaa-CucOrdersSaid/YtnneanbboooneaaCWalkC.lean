/- Round, and the reference's. -/
import Derived.Test.YtnneanbboooneaaCWalkB
namespace Go.Proofs.Ytnneanbboooneaa
set_option linter.unusedVariables false
set_option linter.unusedSimpArgs false
open Go.RowKit
def RPost (w : World) (x z : Int) (e : Ending) (w' : World) : Prop := e = .returned (.tuple #[.int .i64 x, .int .i64 z]) ∧ Keep w.heap.size [] w w'
theorem chk_zero {C F t : Int} (h : chkF C F t = 0) : okF C F = true ∧ 0 ≤ t ∧ t ≤ 1099511627776 := by
  unfold chkF at h
  cases hk : okF C F with
  | false => rw [hk] at h; simp at h
  | true =>
    rw [hk, if_pos rfl] at h
    by_cases h2 : t < 0 ∨ 1099511627776 < t
    · rw [if_pos h2] at h; omega
    · exact ⟨rfl, by omega, by omega⟩
theorem tmod256 (x : Int) (h : 0 ≤ x) : x.tmod 256 = x % 256 := Int.tmod_eq_emod_of_nonneg h
theorem tdiv256 (x : Int) (h : 0 ≤ x) : x.tdiv 256 = x / 256 := Int.tdiv_eq_ediv_of_nonneg h
set_option maxHeartbeats 1000000 in
theorem cround_any (w : World) (t C F x z : Int) (hr : roundP t C F = (x, z)) : Calls Try.prog 10 #[.int .i64 t, fagg C F] w (RPost w x z) := by
  have HB0 := Lib.hid (Blk.new w 23 #[.int .i64 C, .int .i64 F])
  by_cases h0 : chkF C F t = 0
  · obtain ⟨hok, ht0, ht1⟩ := chk_zero h0
    have hC := (okF_iff C F).1 hok
    obtain ⟨q1, q2, q3, q4⟩ := hC
    have hcb := capS_bd ⟨q1, q2⟩
    obtain ⟨hc0, hc1⟩ := hcb
    obtain ⟨K, hK⟩ : ∃ K, capS C = K := ⟨_, rfl⟩
    have HR : Hid (x = (if F = 0 then min t (K * 256 - 1) - min t (K * 256 - 1) % 256 else min t (K * 256 - 1)) ∧ z = 0) := by
      unfold roundP at hr; rw [if_pos h0, hK] at hr; exact Lib.hid ⟨(Prod.mk.inj hr).1.symm, (Prod.mk.inj hr).2.symm⟩
    have HKK := Lib.hid hK
    rw [hK] at hc0 hc1
    have H0 := Lib.hid h0
    clear hr hK h0 hok
    go_enter Try.func10, Try.ntmps10
    go_wp2_with fail
    refine (ccheck_any _ C F t 0 H0.out).mono ?_
    rintro e w1 ⟨rfl, hk⟩
    have K1 : Hid (Keep w.heap.size [] w w1) := Lib.hid (((Keep.refl _ _ w).alloc (Nat.le_refl _) _).chain0 (Nat.le_refl _) hk)
    have B1 := Lib.hid (HB0.out.keepS hk (by simp))
    obtain ⟨d0, d1⟩ := fcell B1.out
    clear hk
    go_wp2_with fail
    refine (cmost_any _ C F K (by omega) HKK.out).mono ?_
    rintro e w2 ⟨rfl, hk⟩
    have K2 : Hid (Keep w.heap.size [] w w2) := Lib.hid (K1.out.chain0 (Nat.le_refl _) hk)
    obtain ⟨d0', d1'⟩ := fcell (B1.out.keepS hk (by simp))
    clear hk d0 d1
    by_cases hF : F = 0
    · subst hF
      by_cases hm : t ≤ K * 256 - 1
      · have ex : x = t - t % 256 := by rw [HR.out.1]; rw [if_pos rfl]; omega
        go_wp2_with fail
        go_ret2
        exact ⟨by rw [ex, HR.out.2]; rfl, K2.out⟩
      · have ex : x = K * 256 - 1 - 255 := by rw [HR.out.1]; rw [if_pos rfl]; omega
        go_wp2_with fail
        go_ret2
        exact ⟨by rw [ex, HR.out.2]; rfl, K2.out⟩
    · by_cases hm : t ≤ K * 256 - 1
      · have ex : x = t := by rw [HR.out.1]; rw [if_neg hF]; omega
        go_wp2_with fail
        go_ret2
        exact ⟨by rw [ex, HR.out.2]; rfl, K2.out⟩
      · have ex : x = K * 256 - 1 := by rw [HR.out.1]; rw [if_neg hF]; omega
        go_wp2_with fail
        go_ret2
        exact ⟨by rw [ex, HR.out.2]; rfl, K2.out⟩
  · obtain ⟨k, hk⟩ : ∃ k, chkF C F t = k := ⟨_, rfl⟩
    have HK := Lib.hid hk
    rw [hk] at h0
    have HR : Hid (x = 0 ∧ z = k) := by
      unfold roundP at hr; rw [hk, if_neg h0] at hr; exact Lib.hid ⟨(Prod.mk.inj hr).1.symm, (Prod.mk.inj hr).2.symm⟩
    clear hr hk
    go_enter Try.func10, Try.ntmps10
    go_wp2_with fail
    refine (ccheck_any _ C F t k HK.out).mono ?_
    rintro e w1 ⟨rfl, hk⟩
    have K1 : Hid (Keep w.heap.size [] w w1) := Lib.hid (((Keep.refl _ _ w).alloc (Nat.le_refl _) _).chain0 (Nat.le_refl _) hk)
    clear hk
    go_wp2_with fail
    go_ret2
    exact ⟨by rw [HR.out.1, HR.out.2]; rfl, K1.out⟩
set_option maxHeartbeats 1000000 in
theorem rround_any (w : World) (t C F x z : Int) (hr : roundP t C F = (x, z)) : Calls Try.prog 11 #[.int .i64 t, fagg C F] w (RPost w x z) := by
  have HB0 := Lib.hid (Blk.new w 24 #[.int .i64 C, .int .i64 F])
  cases hv : okF C F with
  | false =>
    have HR : Hid (x = 0 ∧ z = 1) := by
      have h1 : chkF C F t = 1 := by unfold chkF; rw [hv]; rfl
      unfold roundP at hr; rw [h1, if_neg (by decide)] at hr; exact Lib.hid ⟨(Prod.mk.inj hr).1.symm, (Prod.mk.inj hr).2.symm⟩
    clear hr
    go_enter Try.func11, Try.ntmps11
    go_wp2_with fail
    refine (rvalid_any _ C F false hv).mono ?_
    rintro e w1 ⟨rfl, hk⟩
    have K1 : Hid (Keep w.heap.size [] w w1) := Lib.hid (((Keep.refl _ _ w).alloc (Nat.le_refl _) _).chain0 (Nat.le_refl _) hk)
    clear hk
    go_wp2_with fail
    go_ret2
    exact ⟨by rw [HR.out.1, HR.out.2]; rfl, K1.out⟩
  | true =>
    by_cases ht : t < 0 ∨ 1099511627776 < t
    · have HR : Hid (x = 0 ∧ z = 10) := by
        have h1 : chkF C F t = 10 := by unfold chkF; rw [hv, if_pos rfl, if_pos ht]
        unfold roundP at hr; rw [h1, if_neg (by decide)] at hr; exact Lib.hid ⟨(Prod.mk.inj hr).1.symm, (Prod.mk.inj hr).2.symm⟩
      clear hr
      by_cases h1 : t < 0
      · clear ht
        go_enter Try.func11, Try.ntmps11
        go_wp2_with fail
        refine (rvalid_any _ C F true hv).mono ?_
        rintro e w1 ⟨rfl, hk⟩
        have K1 : Hid (Keep w.heap.size [] w w1) := Lib.hid (((Keep.refl _ _ w).alloc (Nat.le_refl _) _).chain0 (Nat.le_refl _) hk)
        clear hk
        go_wp2_with fail
        go_ret2
        exact ⟨by rw [HR.out.1, HR.out.2]; rfl, K1.out⟩
      · have h2 : 1099511627776 < t := by omega
        clear ht
        go_enter Try.func11, Try.ntmps11
        go_wp2_with fail
        refine (rvalid_any _ C F true hv).mono ?_
        rintro e w1 ⟨rfl, hk⟩
        have K1 : Hid (Keep w.heap.size [] w w1) := Lib.hid (((Keep.refl _ _ w).alloc (Nat.le_refl _) _).chain0 (Nat.le_refl _) hk)
        clear hk
        go_wp2_with fail
        go_ret2
        exact ⟨by rw [HR.out.1, HR.out.2]; rfl, K1.out⟩
    · have ht0 : 0 ≤ t := by omega
      have ht1 : t ≤ 1099511627776 := by omega
      have hC := (okF_iff C F).1 hv
      obtain ⟨q1, q2, q3, q4⟩ := hC
      have hcb := capS_bd ⟨q1, q2⟩
      obtain ⟨hc0, hc1⟩ := hcb
      have h0 : chkF C F t = 0 := by unfold chkF; rw [hv, if_pos rfl, if_neg ht]
      obtain ⟨K, hK⟩ : ∃ K, capS C = K := ⟨_, rfl⟩
      have HR : Hid (x = (if F = 0 then min t (K * 256 - 1) - min t (K * 256 - 1) % 256 else min t (K * 256 - 1)) ∧ z = 0) := by
        unfold roundP at hr; rw [if_pos h0, hK] at hr; exact Lib.hid ⟨(Prod.mk.inj hr).1.symm, (Prod.mk.inj hr).2.symm⟩
      have HKK := Lib.hid hK
      rw [hK] at hc0 hc1
      clear hr hK h0 ht
      by_cases hF : F = 0
      · subst hF
        have HM : Hid (rmostP C 0 = K * 256 - 256) := Lib.hid (by unfold rmostP; rw [if_pos rfl, HKK.out])
        by_cases hm : t - t % 256 ≤ K * 256 - 256
        · have ex : x = t - t % 256 := by rw [HR.out.1]; rw [if_pos rfl]; omega
          go_enter Try.func11, Try.ntmps11
          go_wp2_with fail
          refine (rvalid_any _ C 0 true hv).mono ?_
          rintro e w1 ⟨rfl, hk⟩
          have K1 : Hid (Keep w.heap.size [] w w1) := Lib.hid (((Keep.refl _ _ w).alloc (Nat.le_refl _) _).chain0 (Nat.le_refl _) hk)
          obtain ⟨d0, d1⟩ := fcell (HB0.out.keepS hk (by simp))
          clear hk
          go_wp2_with fail
          refine (rmost_any _ C 0 (K * 256 - 256) (by omega) HM.out).mono ?_
          rintro e w2 ⟨rfl, hk⟩
          have K2 : Hid (Keep w.heap.size [] w w2) := Lib.hid (K1.out.chain0 (Nat.le_refl _) hk)
          clear hk d0 d1
          go_wp2_with fail
          go_ret2
          exact ⟨by rw [ex, HR.out.2]; rfl, K2.out⟩
        · have ex : x = K * 256 - 256 := by rw [HR.out.1]; rw [if_pos rfl]; omega
          go_enter Try.func11, Try.ntmps11
          go_wp2_with fail
          refine (rvalid_any _ C 0 true hv).mono ?_
          rintro e w1 ⟨rfl, hk⟩
          have K1 : Hid (Keep w.heap.size [] w w1) := Lib.hid (((Keep.refl _ _ w).alloc (Nat.le_refl _) _).chain0 (Nat.le_refl _) hk)
          obtain ⟨d0, d1⟩ := fcell (HB0.out.keepS hk (by simp))
          clear hk
          go_wp2_with fail
          refine (rmost_any _ C 0 (K * 256 - 256) (by omega) HM.out).mono ?_
          rintro e w2 ⟨rfl, hk⟩
          have K2 : Hid (Keep w.heap.size [] w w2) := Lib.hid (K1.out.chain0 (Nat.le_refl _) hk)
          clear hk d0 d1
          go_wp2_with fail
          go_ret2
          exact ⟨by rw [ex, HR.out.2]; rfl, K2.out⟩
      · have HM : Hid (rmostP C F = K * 256 - 1) := Lib.hid (by unfold rmostP; rw [if_neg hF, HKK.out])
        by_cases hm : t ≤ K * 256 - 1
        · have ex : x = t := by rw [HR.out.1]; rw [if_neg hF]; omega
          go_enter Try.func11, Try.ntmps11
          go_wp2_with fail
          refine (rvalid_any _ C F true hv).mono ?_
          rintro e w1 ⟨rfl, hk⟩
          have K1 : Hid (Keep w.heap.size [] w w1) := Lib.hid (((Keep.refl _ _ w).alloc (Nat.le_refl _) _).chain0 (Nat.le_refl _) hk)
          obtain ⟨d0, d1⟩ := fcell (HB0.out.keepS hk (by simp))
          clear hk
          go_wp2_with fail
          refine (rmost_any _ C F (K * 256 - 1) (by omega) HM.out).mono ?_
          rintro e w2 ⟨rfl, hk⟩
          have K2 : Hid (Keep w.heap.size [] w w2) := Lib.hid (K1.out.chain0 (Nat.le_refl _) hk)
          clear hk d0 d1
          go_wp2_with fail
          go_ret2
          exact ⟨by rw [ex, HR.out.2]; rfl, K2.out⟩
        · have ex : x = K * 256 - 1 := by rw [HR.out.1]; rw [if_neg hF]; omega
          go_enter Try.func11, Try.ntmps11
          go_wp2_with fail
          refine (rvalid_any _ C F true hv).mono ?_
          rintro e w1 ⟨rfl, hk⟩
          have K1 : Hid (Keep w.heap.size [] w w1) := Lib.hid (((Keep.refl _ _ w).alloc (Nat.le_refl _) _).chain0 (Nat.le_refl _) hk)
          obtain ⟨d0, d1⟩ := fcell (HB0.out.keepS hk (by simp))
          clear hk
          go_wp2_with fail
          refine (rmost_any _ C F (K * 256 - 1) (by omega) HM.out).mono ?_
          rintro e w2 ⟨rfl, hk⟩
          have K2 : Hid (Keep w.heap.size [] w w2) := Lib.hid (K1.out.chain0 (Nat.le_refl _) hk)
          clear hk d0 d1
          go_wp2_with fail
          go_ret2
          exact ⟨by rw [ex, HR.out.2]; rfl, K2.out⟩
end Go.Proofs.Ytnneanbboooneaa
