/- (*Reader).Int: its contracts. -/
import Derived.Test.YtfkbcflgbjncdaaOctG
namespace Go.Proofs.Ytfkbcflgbjncdaa
set_option linter.unusedVariables false
set_option linter.unusedSimpArgs false
open Go.RowKit
set_option maxHeartbeats 1000000 in
theorem rint_failed (w : World) (g : Nat) (hr : Rf w g) :
    Calls Try.prog 68 #[bptr g] w fun e w' => e = .returned (.int .i64 0) ∧ w = w' := by
  have HB : Hid (Blk w g 168 #[.bool true, .bool true, .slice none 0 0]) := hr
  clear hr
  go_enter Try.func68, Try.ntmps68
  go_wp2_with fail
  refine (rok_any _ g _ true HB.out).mono ?_
  rintro e w' ⟨rfl, rfl⟩
  go_wp2_with fail
  go_ret
  exact ⟨rfl, rfl⟩
theorem grp_no {L : List Int} {n : Int} (h : tkI L = (n, 0)) : ∃ z, grp 0 0 L = (z, 0) := by
  unfold tkI at h
  obtain ⟨z, k', hg⟩ : ∃ z k', grp 0 0 L = (z, k') := ⟨_, _, rfl⟩
  rw [hg] at h
  simp only at h
  split at h
  · rename_i hk; subst hk; exact ⟨z, hg⟩
  · rename_i hk; cases h; exact absurd rfl hk
theorem grp_yes {L : List Int} {n : Int} {k : Nat} (h : tkI L = (n, k)) (hk : k ≠ 0) : ∃ z, grp 0 0 L = (z, k) ∧ n = uz z := by
  unfold tkI at h
  obtain ⟨z, k', hg⟩ : ∃ z k', grp 0 0 L = (z, k') := ⟨_, _, rfl⟩
  rw [hg] at h
  simp only at h
  split at h
  · cases h; exact absurd rfl hk
  · cases h; exact ⟨z, hg, rfl⟩
set_option maxHeartbeats 1000000 in
theorem rint_no (w : World) (g : Nat) (X : Option Addr) (L : List Int) (n : Int) (hO : Oct L) (hr : Rd w g X L) (h : tkI L = (n, 0)) :
    Calls Try.prog 68 #[bptr g] w fun e w' => e = .returned (.int .i64 0) ∧ Rf w' g ∧ Keep w.heap.size [g] w w' := by
  obtain ⟨z, hg⟩ := grp_no h
  have HR := Lib.hid hr
  have HO := Lib.hid hO
  have HG := Lib.hid hg
  obtain ⟨m, c, hm, hmc, hcm, hb, hv, hgx⟩ := hr
  have HB := Lib.hid hb
  clear hm hb hv hgx hmc hcm hO hg h
  go_enter Try.func68, Try.ntmps68
  go_wp2_with fail
  refine (rok_any _ g _ false HB.out).mono ?_
  rintro e w' ⟨rfl, rfl⟩
  go_wp2_with fail
  refine (group_r _ g X L _ HO.out HR.out HG.out).mono ?_
  rintro e w' ⟨rfl, rfl⟩
  go_wp2_with fail
  refine (rfail_any _ g false X m c HB.out).mono ?_
  rintro e w1 ⟨rfl, hf, hk⟩
  have HF := Lib.hid hf
  have HK := Lib.hid hk
  clear hf hk
  go_wp2_with fail
  go_ret
  exact ⟨rfl, HF.out, HK.out⟩
theorem uz_eq (z : Nat) (hz : z < 18446744073709551616) : bits BinOp.xor IntKind.i64 ((z : Int) / 2) (wrap64 (-wrap64 (bits BinOp.and IntKind.u64 (z : Int) 1))) = uz z := by
  have ha : bits BinOp.and IntKind.u64 (z : Int) 1 = ((z % 2 : Nat) : Int) := by
    have := u64_and_nat z 1 hz (by decide)
    rw [Nat.and_one_is_mod] at this
    exact this
  rw [ha]
  have hb : (BitVec.ofInt 64 ((z : Int) / 2)).toNat = z / 2 := by rw [BitVec.toNat_ofInt]; omega
  rcases Nat.mod_two_eq_zero_or_one z with h | h
  · have e1 : wrap64 (-wrap64 ((z % 2 : Nat) : Int)) = 0 := by rw [h]; unfold wrap64; omega
    rw [e1, uz, if_pos h]
    have hx : BitVec.ofInt 64 0 = 0#64 := by decide
    show IntKind.i64.wrap ((BitVec.ofInt 64 ((z : Int) / 2) ^^^ BitVec.ofInt 64 0).toNat : Int) = _
    rw [hx, BitVec.xor_zero, hb, IntKind.wrap_i64]
    omega
  · have e1 : wrap64 (-wrap64 ((z % 2 : Nat) : Int)) = -1 := by rw [h]; unfold wrap64; omega
    rw [e1, uz, if_neg (by omega)]
    have hx : BitVec.ofInt 64 (-1) = BitVec.allOnes 64 := by decide
    show IntKind.i64.wrap ((BitVec.ofInt 64 ((z : Int) / 2) ^^^ BitVec.ofInt 64 (-1)).toNat : Int) = _
    rw [hx, BitVec.xor_allOnes, BitVec.toNat_not, hb, IntKind.wrap_i64]
    omega
set_option maxHeartbeats 1000000 in
theorem rint_yes (w : World) (g : Nat) (X : Option Addr) (L : List Int) (n : Int) (k : Nat) (hO : Oct L) (hr : Rd w g X L) (h : tkI L = (n, k)) (hk : k ≠ 0) :
    Calls Try.prog 68 #[bptr g] w fun e w' => e = .returned (.int .i64 n) ∧ ∃ X', Rd w' g X' (L.drop k) ∧ Keep w.heap.size [g] w w' ∧ blks X' = blks X := by
  obtain ⟨z, hg, rfl⟩ := grp_yes h hk
  obtain ⟨_, hz, hkl, hk10⟩ := grp_lt L z k hO hg hk
  have HR := Lib.hid hr
  have HO := Lib.hid hO
  have HG := Lib.hid hg
  obtain ⟨m, c, hm, hmc, hcm, hb, hv, hgx, _⟩ := hr
  have d2 : w.cell? ⟨g, 2, none⟩ = some (.slice X m c) := hb.cell 2
  have f2 := hb.frozen 2
  have hms : (k : Int) ≤ (m : Int) := by omega
  have hsc : (k : Int) ≤ (c : Int) := by omega
  have hk0 : (1 : Int) ≤ (k : Int) := by omega
  have hmc' : (m : Int) ≤ (c : Int) := by omega
  have hcm' : (c : Int) ≤ 9223372036854775807 := by unfold maxLen at hcm; omega
  obtain ⟨bx, ox, rfl, hbx, _⟩ := hv.2 (by omega)
  have HM := Lib.hid hm
  have HB := Lib.hid hb
  have HV := Lib.hid hv
  have HGX := Lib.hid hgx
  have e0 : ((k : Int) == 0) = false := beq_false_of_ne (by omega)
  clear hm hb hv hgx hO hg h hk hkl
  go_enter Try.func68, Try.ntmps68
  go_wp2_with fail
  refine (rok_any _ g _ false HB.out).mono ?_
  rintro e w' ⟨rfl, rfl⟩
  go_wp2_with fail
  refine (group_r _ g _ L _ HO.out HR.out HG.out).mono ?_
  rintro e w' ⟨rfl, rfl⟩
  by_cases hc : c = k
  · subst hc
    go_wp2_with fail
    go_ret
    refine ⟨congrArg Ending.returned (congrArg (Value.int .i64) (uz_eq z hz)), some ⟨bx, ox, none⟩, ?_, (Keep.refl _ _ _).set1, rfl⟩
    have hd : L.drop c = [] := by apply List.drop_eq_nil_of_le; have := HM.out; omega
    refine ⟨_, _, ?_, ?_, ?_, HB.out.set_ 2 _, ?_, HGX.out, .inr ⟨_, _, rfl⟩⟩
    · have := HM.out; simp; omega
    · omega
    · unfold maxLen; omega
    · rw [hd]; exact Vw.zero _ _ _
  · go_wp2_with fail
    go_ret
    refine ⟨congrArg Ending.returned (congrArg (Value.int .i64) (uz_eq z hz)), some ⟨bx, ox + k, none⟩, ?_, (Keep.refl _ _ _).set1, rfl⟩
    refine ⟨_, _, ?_, ?_, ?_, HB.out.set_ 2 _, ?_, HGX.out, .inr ⟨_, _, rfl⟩⟩
    · simp [HM.out]
    · omega
    · unfold maxLen; omega
    · have h := (HV.out.drop (k := k) (by omega)).far (p := ⟨g, 2, none⟩) (.slice (some ⟨bx, ox + k, none⟩) (m - k) (c - k)) HGX.out
      simpa [octs] using h

/-! ### Count -/
/-- what Count takes -/
def tkC (L : List Int) (most : Int) : Int × Nat := match tkI L with
  | (n, k) => if k = 0 ∨ n < 0 ∨ most < n then (0, 0) else (n, k)
set_option maxHeartbeats 1000000 in
theorem rcount_failed (w : World) (g : Nat) (most : Int) (hr : Rf w g) :
    Calls Try.prog 71 #[bptr g, .int .i64 most] w fun e w' => e = .returned (.int .i64 0) ∧ w = w' := by
  have HF := Lib.hid hr
  have HB : Hid (Blk w g 168 #[.bool true, .bool true, .slice none 0 0]) := hr
  clear hr
  go_enter Try.func71, Try.ntmps71
  go_wp2_with fail
  refine (rint_failed _ g HF.out).mono ?_
  rintro e w' ⟨rfl, rfl⟩
  go_wp2_with fail
  refine (rok_any _ g _ true HB.out).mono ?_
  rintro e w' ⟨rfl, rfl⟩
  go_wp2_with fail
  go_ret
  exact ⟨rfl, rfl⟩
set_option maxHeartbeats 1000000 in
theorem rcount_no (w : World) (g : Nat) (X : Option Addr) (L : List Int) (most n : Int) (hO : Oct L) (hr : Rd w g X L) (h : tkC L most = (n, 0)) :
    Calls Try.prog 71 #[bptr g, .int .i64 most] w fun e w' => e = .returned (.int .i64 0) ∧ Rf w' g ∧ Keep w.heap.size [g] w w' := by
  obtain ⟨j, k, hjk⟩ : ∃ j k, tkI L = (j, k) := ⟨_, _, rfl⟩
  have HR := Lib.hid hr
  have HO := Lib.hid hO
  have HJ := Lib.hid hjk
  unfold tkC at h
  rw [hjk] at h
  simp only at h
  clear hr hO
  by_cases hk : k = 0
  · subst hk
    clear h hjk
    go_enter Try.func71, Try.ntmps71
    go_wp2_with fail
    refine (rint_no _ g X L _ HO.out HR.out HJ.out).mono ?_
    rintro e w1 ⟨rfl, hf, hk⟩
    have HF := Lib.hid hf
    have HB : Hid (Blk w1 g 168 #[.bool true, .bool true, .slice none 0 0]) := hf
    have HK := Lib.hid hk
    clear hf hk
    go_wp2_with fail
    refine (rok_any _ g _ true HB.out).mono ?_
    rintro e w' ⟨rfl, rfl⟩
    go_wp2_with fail
    go_ret
    exact ⟨rfl, HF.out, HK.out⟩
  · have hbad : j < 0 ∨ most < j := by
      rcases Decidable.em (k = 0 ∨ j < 0 ∨ most < j) with h' | h'
      · omega
      · rw [if_neg h'] at h; cases h; exact absurd rfl hk
    clear h hjk
    have HK0 := Lib.hid hk
    clear hk
    go_enter Try.func71, Try.ntmps71
    go_wp2_with fail
    refine (rint_yes _ g X L _ _ HO.out HR.out HJ.out HK0.out).mono ?_
    rintro e w1 ⟨rfl, X', hr, hk, _⟩
    obtain ⟨m, c, _, _, _, hb, _, _⟩ := hr
    have HB := Lib.hid hb
    have HK := Lib.hid hk
    clear hk hb
    rcases hbad with hbad | hbad
    · go_wp2_with fail
      refine (rok_any _ g _ false HB.out).mono ?_
      rintro e w' ⟨rfl, rfl⟩
      go_wp2_with fail
      refine (rfail_any _ g false X' m c HB.out).mono ?_
      rintro e w2 ⟨rfl, hf, hk⟩
      have HF := Lib.hid hf
      have HK2 := Lib.hid hk
      clear hf hk
      go_wp2_with fail
      go_ret
      exact ⟨rfl, HF.out, HK.out.trans (HK2.out.mono HK.out.size (fun _ _ h => h))⟩
    · by_cases h0 : j < 0
      all_goals
        go_wp2_with fail
        refine (rok_any _ g _ false HB.out).mono ?_
        rintro e w' ⟨rfl, rfl⟩
        go_wp2_with fail
        refine (rfail_any _ g false X' m c HB.out).mono ?_
        rintro e w2 ⟨rfl, hf, hk⟩
        have HF := Lib.hid hf
        have HK2 := Lib.hid hk
        clear hf hk
        go_wp2_with fail
        go_ret
        exact ⟨rfl, HF.out, HK.out.trans (HK2.out.mono HK.out.size (fun _ _ h => h))⟩
set_option maxHeartbeats 1000000 in
theorem rcount_yes (w : World) (g : Nat) (X : Option Addr) (L : List Int) (most n : Int) (k : Nat) (hO : Oct L) (hr : Rd w g X L) (h : tkC L most = (n, k)) (hk : k ≠ 0) :
    Calls Try.prog 71 #[bptr g, .int .i64 most] w fun e w' => e = .returned (.int .i64 n) ∧ ∃ X', Rd w' g X' (L.drop k) ∧ Keep w.heap.size [g] w w' ∧ blks X' = blks X := by
  obtain ⟨j, k', hjk⟩ : ∃ j k', tkI L = (j, k') := ⟨_, _, rfl⟩
  have hJ : j = n ∧ k' = k ∧ 0 ≤ n ∧ n ≤ most := by
    unfold tkC at h
    rw [hjk] at h
    simp only at h
    split at h
    · cases h; exact absurd rfl hk
    · cases h; omega
  obtain ⟨rfl, rfl, h0, h1⟩ := hJ
  have HR := Lib.hid hr
  have HO := Lib.hid hO
  have HJ := Lib.hid hjk
  have HK0 := Lib.hid hk
  clear hr hO hjk h hk
  go_enter Try.func71, Try.ntmps71
  go_wp2_with fail
  refine (rint_yes _ g X L _ _ HO.out HR.out HJ.out HK0.out).mono ?_
  rintro e w1 ⟨rfl, X', hr, hk, hx⟩
  have HRR := Lib.hid hr
  obtain ⟨m, c, _, _, _, hb, _, _⟩ := hr
  have HB := Lib.hid hb
  have HK := Lib.hid hk
  have HX := Lib.hid hx
  clear hk hb hx
  go_wp2_with fail
  refine (rok_any _ g _ false HB.out).mono ?_
  rintro e w' ⟨rfl, rfl⟩
  go_wp2_with fail
  go_ret
  exact ⟨rfl, X', HRR.out, HK.out, HX.out⟩
end Go.Proofs.Ytfkbcflgbjncdaa
