/- Valid, Size, most, check, Round, and those of the reference. -/
import Derived.Test.YtnneanbboooneaaCWalkA
namespace Go.Proofs.Ytnneanbboooneaa
set_option linter.unusedVariables false
set_option linter.unusedSimpArgs false
open Go.RowKit
theorem fcell {w : World} {g : Nat} {t : TypeId} {C F : Int} (h : Blk w g t #[.int .i64 C, .int .i64 F]) : w.cell? ⟨g, 0, none⟩ = some (.int .i64 C) ∧ w.cell? ⟨g, 1, none⟩ = some (.int .i64 F) := ⟨h.cell 0, h.cell 1⟩
set_option maxHeartbeats 1000000 in
theorem cvalid_any (w : World) (C F : Int) (v : Bool) (hv : okF C F = v) : Calls Try.prog 12 #[fagg C F] w fun e w' => e = .returned (.bool v) ∧ Keep w.heap.size [] w w' := by
  have hb := idxF_bd C F
  obtain ⟨hb0, hb1⟩ := hb
  have HV : Hid (decide (0 ≤ idxF C F) = v) := Lib.hid ((idxF_ge C F).trans hv)
  clear hv
  go_enter Try.func12, Try.ntmps12
  go_wp2_with fail
  refine (index_any _ C F).mono ?_
  rintro e w1 ⟨rfl, hk⟩
  have K1 : Hid (Keep w.heap.size [] w w1) := Lib.hid (((Keep.refl _ _ w).alloc (Nat.le_refl _) _).chain0 (Nat.le_refl _) hk)
  clear hk
  go_wp2_with fail
  go_ret
  exact ⟨by rw [← HV.out]; rfl, K1.out⟩
set_option maxHeartbeats 1000000 in
theorem csize_any (w : World) (C F z : Int) (hz : sizeF C F = z) : Calls Try.prog 14 #[fagg C F] w fun e w' => e = .returned (.int .i64 z) ∧ Keep w.heap.size [] w w' := by
  have HZ := Lib.hid hz
  clear hz
  have HB0 := Lib.hid (Blk.new w 23 #[.int .i64 C, .int .i64 F])
  cases hv : okF C F with
  | false =>
    have e0 : z = 0 := by rw [← HZ.out]; unfold sizeF; rw [hv]; rfl
    go_enter Try.func14, Try.ntmps14
    go_wp2_with fail
    refine (cvalid_any _ C F false hv).mono ?_
    rintro e w1 ⟨rfl, hk⟩
    have K1 : Hid (Keep w.heap.size [] w w1) := Lib.hid (((Keep.refl _ _ w).alloc (Nat.le_refl _) _).chain0 (Nat.le_refl _) hk)
    clear hk
    go_wp2_with fail
    go_ret
    exact ⟨by first | rfl | (rw [e0]; rfl), K1.out⟩
  | true =>
    have e0 : z = 1 + C + F := by rw [← HZ.out]; unfold sizeF; rw [hv]; rfl
    have hok := (okF_iff C F).1 hv
    obtain ⟨q1, q2, q3, q4⟩ := hok
    go_enter Try.func14, Try.ntmps14
    go_wp2_with fail
    refine (cvalid_any _ C F true hv).mono ?_
    rintro e w1 ⟨rfl, hk⟩
    have K1 : Hid (Keep w.heap.size [] w w1) := Lib.hid (((Keep.refl _ _ w).alloc (Nat.le_refl _) _).chain0 (Nat.le_refl _) hk)
    have d := fcell (HB0.out.keepS hk (by simp))
    obtain ⟨d0, d1⟩ := d
    clear hk
    go_wp2_with fail
    go_ret
    exact ⟨by first | rfl | (rw [e0]; rfl), K1.out⟩
set_option maxHeartbeats 1000000 in
theorem cmost_any (w : World) (C F z : Int) (hC : 1 ≤ C ∧ C ≤ 4) (hz : capS C = z) : Calls Try.prog 20 #[fagg C F] w fun e w' => e = .returned (.int .i64 z) ∧ Keep w.heap.size [] w w' := by
  have hc := capS_cases hC
  rw [hz] at hc
  rcases hc with ⟨rfl, rfl⟩ | ⟨rfl, rfl⟩ | ⟨rfl, rfl⟩ | ⟨rfl, rfl⟩
  all_goals
    clear hC hz
    go_enter Try.func20, Try.ntmps20
    go_wp2_with fail
    go_ret
    exact ⟨rfl, (Keep.refl _ _ w).alloc (Nat.le_refl _) _⟩
set_option maxHeartbeats 1000000 in
theorem ccheck_any (w : World) (C F t z : Int) (hz : chkF C F t = z) : Calls Try.prog 19 #[fagg C F, .int .i64 t] w fun e w' => e = .returned (.int .i64 z) ∧ Keep w.heap.size [] w w' := by
  have HZ := Lib.hid hz
  clear hz
  cases hv : okF C F with
  | false =>
    have e0 : z = 1 := by rw [← HZ.out]; unfold chkF; rw [hv]; rfl
    go_enter Try.func19, Try.ntmps19
    go_wp2_with fail
    refine (cvalid_any _ C F false hv).mono ?_
    rintro e w1 ⟨rfl, hk⟩
    have K1 : Hid (Keep w.heap.size [] w w1) := Lib.hid (((Keep.refl _ _ w).alloc (Nat.le_refl _) _).chain0 (Nat.le_refl _) hk)
    clear hk
    go_wp2_with fail
    go_ret
    exact ⟨by first | rfl | (rw [e0]; rfl), K1.out⟩
  | true =>
    by_cases h1 : t < 0
    · have e0 : z = 10 := by rw [← HZ.out]; unfold chkF; rw [hv, if_pos rfl, if_pos (.inl h1)]
      go_enter Try.func19, Try.ntmps19
      go_wp2_with fail
      refine (cvalid_any _ C F true hv).mono ?_
      rintro e w1 ⟨rfl, hk⟩
      have K1 : Hid (Keep w.heap.size [] w w1) := Lib.hid (((Keep.refl _ _ w).alloc (Nat.le_refl _) _).chain0 (Nat.le_refl _) hk)
      clear hk
      go_wp2_with fail
      go_ret
      exact ⟨by first | rfl | (rw [e0]; rfl), K1.out⟩
    by_cases h2 : 1099511627776 < t
    · have e0 : z = 10 := by rw [← HZ.out]; unfold chkF; rw [hv, if_pos rfl, if_pos (.inr h2)]
      go_enter Try.func19, Try.ntmps19
      go_wp2_with fail
      refine (cvalid_any _ C F true hv).mono ?_
      rintro e w1 ⟨rfl, hk⟩
      have K1 : Hid (Keep w.heap.size [] w w1) := Lib.hid (((Keep.refl _ _ w).alloc (Nat.le_refl _) _).chain0 (Nat.le_refl _) hk)
      clear hk
      go_wp2_with fail
      go_ret
      exact ⟨by first | rfl | (rw [e0]; rfl), K1.out⟩
    have e0 : z = 0 := by rw [← HZ.out]; unfold chkF; rw [hv, if_pos rfl, if_neg (by omega)]
    go_enter Try.func19, Try.ntmps19
    go_wp2_with fail
    refine (cvalid_any _ C F true hv).mono ?_
    rintro e w1 ⟨rfl, hk⟩
    have K1 : Hid (Keep w.heap.size [] w w1) := Lib.hid (((Keep.refl _ _ w).alloc (Nat.le_refl _) _).chain0 (Nat.le_refl _) hk)
    clear hk
    go_wp2_with fail
    go_ret
    exact ⟨by first | rfl | (rw [e0]; rfl), K1.out⟩
theorem okF_dec (C F : Int) : okF C F = (decide (1 ≤ C) && decide (C ≤ 4) && decide (0 ≤ F) && decide (F ≤ 3)) := by simp [okF, Bool.and_assoc]
set_option maxHeartbeats 1000000 in
theorem rvalid_any (w : World) (C F : Int) (v : Bool) (hv : okF C F = v) : Calls Try.prog 13 #[fagg C F] w fun e w' => e = .returned (.bool v) ∧ Keep w.heap.size [] w w' := by
  have HV := Lib.hid ((okF_dec C F).symm.trans hv)
  clear hv
  by_cases h1 : 1 ≤ C
  case neg =>
    have e0 : v = false := by rw [← HV.out]; simp [h1]
    go_enter Try.func13, Try.ntmps13
    go_wp2_with fail
    go_ret
    exact ⟨by first | rfl | (rw [e0]; rfl), (Keep.refl _ _ w).alloc (Nat.le_refl _) _⟩
  by_cases h2 : C ≤ 4
  case neg =>
    have e0 : v = false := by rw [← HV.out]; simp [h2]
    go_enter Try.func13, Try.ntmps13
    go_wp2_with fail
    go_ret
    exact ⟨by first | rfl | (rw [e0]; rfl), (Keep.refl _ _ w).alloc (Nat.le_refl _) _⟩
  by_cases h3 : 0 ≤ F
  case neg =>
    have e0 : v = false := by rw [← HV.out]; simp [h3]
    go_enter Try.func13, Try.ntmps13
    go_wp2_with fail
    go_ret
    exact ⟨by first | rfl | (rw [e0]; rfl), (Keep.refl _ _ w).alloc (Nat.le_refl _) _⟩
  have e0 : v = decide (F ≤ 3) := by rw [← HV.out]; simp [h1, h2, h3]
  go_enter Try.func13, Try.ntmps13
  go_wp2_with fail
  go_ret
  exact ⟨by first | rfl | (rw [e0]; rfl), (Keep.refl _ _ w).alloc (Nat.le_refl _) _⟩
set_option maxHeartbeats 1000000 in
theorem rsize_any (w : World) (C F z : Int) (hz : sizeF C F = z) : Calls Try.prog 15 #[fagg C F] w fun e w' => e = .returned (.int .i64 z) ∧ Keep w.heap.size [] w w' := by
  have HZ := Lib.hid hz
  clear hz
  have HB0 := Lib.hid (Blk.new w 24 #[.int .i64 C, .int .i64 F])
  cases hv : okF C F with
  | false =>
    have e0 : z = 0 := by rw [← HZ.out]; unfold sizeF; rw [hv]; rfl
    go_enter Try.func15, Try.ntmps15
    go_wp2_with fail
    refine (rvalid_any _ C F false hv).mono ?_
    rintro e w1 ⟨rfl, hk⟩
    have K1 : Hid (Keep w.heap.size [] w w1) := Lib.hid (((Keep.refl _ _ w).alloc (Nat.le_refl _) _).chain0 (Nat.le_refl _) hk)
    clear hk
    go_wp2_with fail
    go_ret
    exact ⟨by first | rfl | (rw [e0]; rfl), K1.out⟩
  | true =>
    have e0 : z = 1 + C + F := by rw [← HZ.out]; unfold sizeF; rw [hv]; rfl
    have hok := (okF_iff C F).1 hv
    obtain ⟨q1, q2, q3, q4⟩ := hok
    go_enter Try.func15, Try.ntmps15
    go_wp2_with fail
    refine (rvalid_any _ C F true hv).mono ?_
    rintro e w1 ⟨rfl, hk⟩
    have K1 : Hid (Keep w.heap.size [] w w1) := Lib.hid (((Keep.refl _ _ w).alloc (Nat.le_refl _) _).chain0 (Nat.le_refl _) hk)
    have d := fcell (HB0.out.keepS hk (by simp))
    obtain ⟨d0, d1⟩ := d
    clear hk
    go_wp2_with fail
    go_ret
    exact ⟨by first | rfl | (rw [e0]; rfl), K1.out⟩
/-- the greatest time, as the reference computes it -/
def rmostP (C F : Int) : Int := if F = 0 then capS C * 256 - 256 else capS C * 256 - 1
set_option maxHeartbeats 1000000 in
theorem rmost_any (w : World) (C F z : Int) (hC : 1 ≤ C ∧ C ≤ 4) (hz : rmostP C F = z) : Calls Try.prog 25 #[fagg C F] w fun e w' => e = .returned (.int .i64 z) ∧ Keep w.heap.size [] w w' := by
  have HZ := Lib.hid hz
  have HB0 := Lib.hid (fcell (Blk.new w 24 #[.int .i64 C, .int .i64 F]))
  obtain ⟨d0, d1⟩ := HB0.out
  obtain ⟨c, rfl⟩ : ∃ c : Nat, C = c := ⟨C.toNat, by omega⟩
  have hc4 : c ≤ 4 := by omega
  have hk1 : Hid (Keep w.heap.size [] w (w.alloc (.cells #[.int .i64 c, .int .i64 F] 24))) := Lib.hid ((Keep.refl _ _ w).alloc (Nat.le_refl _) _)
  clear hz hC
  go_enter Try.func25, Try.ntmps25
  go_wp2_with fail
  obtain ⟨w1, hw1⟩ : ∃ x, x = w.alloc (.cells #[.int .i64 c, .int .i64 F] 24) := ⟨_, rfl⟩
  change Code.wp _ _ _ _ (w.alloc (.cells #[.int .i64 c, .int .i64 F] 24))
  rw [← hw1] at d0 d1 hk1 ⊢
  clear hw1 HB0
  go_loop [3, 4] (fun n i => ∃ k : Nat, k ≤ c ∧ i = .int .i64 k ∧ n = .int .i64 (capS (k : Int) * 256)) (fun _ i => c - (intOf i).toNat)
  case atStart => exact ⟨0, Nat.zero_le _, rfl, rfl⟩
  case round =>
    obtain ⟨k, hk, rfl, rfl⟩ := hrel
    have hcb : 1 ≤ capS (k : Int) ∧ capS (k : Int) ≤ 4294967296 := by
      have : k = 0 ∨ k = 1 ∨ k = 2 ∨ k = 3 ∨ k = 4 := by omega
      rcases this with rfl | rfl | rfl | rfl | rfl <;> simp [capS]
    obtain ⟨q1, q2⟩ := hcb
    by_cases hlt : k < c
    · have hkc : (k : Int) < (c : Int) := by omega
      have hcs : capS ((k + 1 : Nat) : Int) = capS (k : Int) * 256 := by
        unfold capS
        simp only [Int.toNat_natCast]
        rw [Int.pow_succ]
      have hcb : capS (k : Int) ≤ 16777216 := by
        have : k = 0 ∨ k = 1 ∨ k = 2 ∨ k = 3 := by omega
        rcases this with rfl | rfl | rfl | rfl <;> simp [capS]
      have HCS := Lib.hid hcs
      clear hcs
      go_wp2_with fail
      go_round
      case rel => exact ⟨k + 1, by omega, by go_num, by rw [HCS.out]⟩
      case measure => simp [intOf]; omega
    · obtain rfl : k = c := by omega
      by_cases h0 : F = 0
      · subst h0
        have e0 : z = capS (k : Int) * 256 - 256 := by rw [← HZ.out]; rfl
        go_wp2_with fail
        go_ret
        exact ⟨by first | rfl | (rw [e0]; rfl), hk1.out⟩
      · have e0 : z = capS (k : Int) * 256 - 1 := by rw [← HZ.out]; unfold rmostP; rw [if_neg h0]
        go_wp2_with fail
        go_ret
        exact ⟨by first | rfl | (rw [e0]; rfl), hk1.out⟩
end Go.Proofs.Ytnneanbboooneaa
