/- data, Flip, Repair, Decode, walked. -/
import Derived.Test.YtfkbcflgbjncdaaEccF
namespace Go.Proofs.Ytfkbcflgbjncdaa
set_option linter.unusedVariables false
set_option linter.unusedSimpArgs false
open Go.RowKit
set_option maxHeartbeats 1000000 in
theorem flip_w (w : World) (x b : Nat) (hx : x < 18446744073709551616) (hb : b < 39) : Calls Try.prog 66 #[.int .u64 (x : Int), .int .i64 (b : Int)] w fun e w' => e = .returned (.int .u64 ((x ^^^ 2 ^ b : Nat) : Int)) ∧ w = w' := by
  have h1 : (b : Int) < 39 := by omega
  have h2 : ¬ (b : Int) < 0 := by omega
  obtain ⟨q, hq⟩ : ∃ q, q = 2 ^ b := ⟨_, rfl⟩
  have hql : q < 18446744073709551616 := by rw [hq]; exact Nat.lt_of_lt_of_le (Nat.pow_lt_pow_right (by decide) hb) (by decide)
  have e1 : IntKind.u64.wrap (2 ^ b) = (q : Int) := by
    have e : (2 : Int) ^ b = (q : Int) := by rw [hq]; simp
    rw [e, u64w _ hql]
  have e2 := u64_xor_nat x q hx hql
  rw [← hq]
  obtain ⟨v, hv⟩ : ∃ v, v = x ^^^ q := ⟨_, rfl⟩
  rw [← hv] at e2 ⊢
  have e3 : bits .xor .u64 (x : Int) (IntKind.u64.wrap (2 ^ b)) = (v : Int) := by rw [e1]; exact e2
  clear hq hv hql e1 e2
  go_enter Try.func66, Try.ntmps66
  go_wp2_with fail
  go_ret
  exact ⟨by rw [← e3]; rfl, rfl⟩
theorem dat_lt : ∀ (p x : Nat), dat p x < 2 ^ cnt p
  | 0, x => by simp [dat, cnt]
  | p + 1, x => by
    have h := dat_lt p x
    rw [dat, cnt]
    split
    · exact h
    · rw [Nat.shiftLeft_eq, ← or_shl h]
      exact or_lt h (by have := Nat.and_le_right (n := x >>> p) (m := 1); exact this)
set_option maxHeartbeats 4000000 in
theorem data_w (w : World) (x : Nat) (hx : x < 18446744073709551616) : Calls Try.prog 148 #[.int .u64 (x : Int)] w fun e w' => e = .returned (.int .u32 (dat 39 x : Int)) ∧ w = w' := by
  go_enter Try.func148, Try.ntmps148
  go_wp2_with fail
  go_loopw [3, 4, 5] (fun dd nn aa wr => ∃ p : Nat, 3 ≤ p ∧ p ≤ 39 ∧ dd = .int .u32 (dat p x : Int) ∧ nn = .int .i64 (cnt p : Int) ∧ aa = .int .i64 p ∧ wr = w) (fun _ _ aa _ => 39 - (intOf aa).toNat)
  case atStart => exact ⟨3, by omega, by omega, by simp [dat], by simp [cnt], rfl, by first | rfl | trivial⟩
  case round =>
    obtain ⟨p, hp3, hp39, rfl, rfl, rfl, rfl⟩ := hrel
    by_cases hlt : p < 39
    · have hpi : (p : Int) < 39 := by omega
      obtain ⟨y, hy⟩ : ∃ y, y = dat p x := ⟨_, rfl⟩
      obtain ⟨c, hcn⟩ : ∃ c, c = cnt p := ⟨_, rfl⟩
      have hyl : y < 2 ^ c := by rw [hy, hcn]; exact dat_lt p x
      have hc32 : c ≤ 32 := by rw [hcn]; exact cnt_39 p hp39
      rw [← hy, ← hcn]
      cases hc : chk p with
      | true =>
        have s1 : cnt (p + 1) = c := by rw [cnt, if_pos (.inr hc), hcn]
        have s2 : dat (p + 1) x = y := by rw [dat, if_pos (.inr hc), hy]
        have HX := Lib.hid s1
        have HY := Lib.hid s2
        clear hcn hy s1 s2
        go_wp2_with fail
        refine (check_w _ p true (by omega) (by omega) hc).mono ?_
        rintro e w' ⟨rfl, rfl⟩
        go_wp2_with fail
        go_roundw
        case rel => exact ⟨p + 1, by omega, by omega, by rw [HY.out], by rw [HX.out], by go_num, by first | rfl | trivial⟩
        case measure => simp [intOf] <;> omega
      | false =>
        have hn : ¬ (p < 3 ∨ chk p = true) := by rw [hc]; simp; omega
        have s1 : cnt (p + 1) = c + 1 := by rw [cnt, if_neg hn, hcn]
        have hc31 : c ≤ 31 := by have := cnt_39 (p + 1) (by omega); omega
        have hci : (c : Int) < 32 := by omega
        obtain ⟨b, hb⟩ : ∃ b, b = x >>> p &&& 1 := ⟨_, rfl⟩
        have hb1 : b ≤ 1 := by rw [hb]; exact Nat.and_le_right
        obtain ⟨v, hv⟩ : ∃ v, v = y ||| b * 2 ^ c := ⟨_, rfl⟩
        have s2 : dat (p + 1) x = v := by
          rw [hv, or_shl hyl, dat, if_neg hn, ← hy, Nat.shiftLeft_eq, ← hcn, ← hb]
        have hcp : (2 : Nat) ^ c ≤ 2 ^ 31 := Nat.pow_le_pow_right (by decide) hc31
        have hbp : b * 2 ^ c < 4294967296 := by
          rcases (by omega : b = 0 ∨ b = 1) with h | h <;> rw [h] <;> omega
        obtain ⟨q, hq⟩ : ∃ q, q = x >>> p := ⟨_, rfl⟩
        have hql : q < 18446744073709551616 := by rw [hq, Nat.shiftRight_eq_div_pow]; exact Nat.lt_of_le_of_lt (Nat.div_le_self _ _) hx
        have e0 : ((x : Int) / 2 ^ p) = (q : Int) := by rw [hq, Nat.shiftRight_eq_div_pow]; simp
        have e1 : bits .and .u64 ((x : Int) / 2 ^ p) 1 = (b : Int) := by rw [e0, hb, ← hq]; exact u64_and_nat q 1 hql (by decide)
        have e2 : IntKind.u32.wrap (b : Int) = (b : Int) := u32w b (by omega)
        have e3 : IntKind.u32.wrap ((b : Int) * 2 ^ c) = (b : Int) * 2 ^ c := by
          have := u32w (b * 2 ^ c) hbp
          simpa using this
        have e4 : bits .or .u32 (y : Int) ((b : Int) * 2 ^ c) = (v : Int) := by
          have := u32_or_nat y (b * 2 ^ c) (by have : (2 : Nat) ^ 31 < 4294967296 := by decide
                                               omega) hbp
          rw [← hv] at this
          simpa using this
        have HX := Lib.hid s1
        have HY := Lib.hid s2
        clear hcn hy hb hv s1 s2 hn hyl hcp hbp hq e0 hql
        go_wp2_with fail
        refine (check_w _ p false (by omega) (by omega) hc).mono ?_
        rintro e w' ⟨rfl, rfl⟩
        go_wp2_with fail
        go_roundw
        case rel => exact ⟨p + 1, by omega, by omega, by rw [HY.out], by rw [HX.out]; go_num, by go_num, by first | rfl | trivial⟩
        case measure => simp [intOf] <;> omega
    · obtain rfl : p = 39 := by omega
      go_wp2_with fail
      go_ret
      exact ⟨rfl, rfl⟩
end Go.Proofs.Ytfkbcflgbjncdaa
