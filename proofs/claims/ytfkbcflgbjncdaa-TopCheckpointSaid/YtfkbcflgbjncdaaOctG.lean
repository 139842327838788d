/- (*Reader).group and (*Reader).Int: their contracts. -/
import Derived.Test.YtfkbcflgbjncdaaOctK
namespace Go.Proofs.Ytfkbcflgbjncdaa
set_option linter.unusedVariables false
set_option linter.unusedSimpArgs false
open Go.RowKit
theorem and127 (y : Fin 256) : y.val &&& 127 = y.val % 128 := by revert y; decide +kernel
theorem u8_and127 (x : Int) (h0 : 0 ≤ x) (h1 : x ≤ 255) : bits .and .u8 x 127 = ((x % 128).toNat : Int) := by
  rw [u8_and x 127 h0 (by omega) (by decide) (by decide)]
  have := and127 ⟨x.toNat, by omega⟩
  simp only at this
  show ((x.toNat &&& 127 : Nat) : Int) = _
  rw [this]; omega
theorem run_shl64 (P : Program) (w : World) (yk : IntKind) (x : Int) (c : Int) (n : Nat) (hc : c = (n : Int)) (hn : n < 64) (h0 : 0 ≤ x) (hx : x * 2 ^ n < 18446744073709551616) :
    (Op.shift .shl .u64 x yk c).run P w = .ok (.int .u64 (x * 2 ^ n)) w := by
  subst hc
  have h1 : ¬ ((n : Int) < 0) := by omega
  have h2 : ¬ (IntKind.u64.bits ≤ n) := by show ¬ (64 ≤ n); omega
  have hp : (0 : Int) ≤ x * 2 ^ n := Int.mul_nonneg h0 (Int.le_of_lt (Int.pow_pos (by decide)))
  have h4 : IntKind.u64.wrap (x * 2 ^ n) = x * 2 ^ n := u64_in _ hp hx
  simp [Op.shift, h1, h2, h4, Int.shiftLeft_eq]
theorem pow128i (k : Nat) : (2 : Int) ^ (7 * k) = ((128 ^ k : Nat) : Int) := by rw [Int.pow_mul]; simp
theorem or_hi (a y k : Nat) (ha : a < 128 ^ k) (hb : y * 128 ^ k < 18446744073709551616) (hc : a < 18446744073709551616) :
    bits .or .u64 (a : Int) ((y : Int) * ((128 ^ k : Nat) : Int)) = ((a + y * 128 ^ k : Nat) : Int) := by
  have e : ((y : Int) * ((128 ^ k : Nat) : Int)) = ((y * 128 ^ k : Nat) : Int) := by simp
  rw [e, u64_or_nat a _ hc hb]
  have h7 : 128 ^ k = 2 ^ (7 * k) := by rw [Nat.pow_mul]
  have h := Nat.two_pow_add_eq_or_of_lt (i := 7 * k) (b := a) (by rw [← h7]; exact ha) y
  congr 1
  rw [Nat.or_comm, h7, Nat.mul_comm y, ← h, Nat.add_comm]
theorem grp_step (k acc : Nat) (x : Int) (L : List Int) : grp k acc (x :: L) = if k = 9 ∧ 1 < x then (0, 0)
    else if x < 128 then (if x = 0 ∧ 0 < k then (0, 0) else (acc + (x % 128).toNat * 128 ^ k, k + 1)) else grp (k + 1) (acc + (x % 128).toNat * 128 ^ k) L := rfl
theorem grp_bd (k acc : Nat) (x : Int) (x0 : 0 ≤ x) (x1 : x ≤ 255) (hk : k ≤ 9) (ha : acc < 128 ^ k) (h9 : ¬ (k = 9 ∧ 1 < x)) :
    (x % 128).toNat * 128 ^ k < 18446744073709551616 ∧ acc < 18446744073709551616 ∧ acc + (x % 128).toNat * 128 ^ k < 18446744073709551616 := by
  have : k = 0 ∨ k = 1 ∨ k = 2 ∨ k = 3 ∨ k = 4 ∨ k = 5 ∨ k = 6 ∨ k = 7 ∨ k = 8 ∨ k = 9 := by omega
  rcases this with rfl | rfl | rfl | rfl | rfl | rfl | rfl | rfl | rfl | rfl <;> simp at ha h9 ⊢ <;> omega
theorem acc_next (k acc : Nat) (x : Int) (ha : acc < 128 ^ k) : acc + (x % 128).toNat * 128 ^ k < 128 ^ (k + 1) := by
  have h1 : (x % 128).toNat ≤ 127 := by omega
  have h2 : (x % 128).toNat * 128 ^ k ≤ 127 * 128 ^ k := Nat.mul_le_mul_right _ h1
  rw [Nat.pow_succ]; omega
set_option maxRecDepth 10000 in
set_option maxHeartbeats 2000000 in
theorem group_r (w : World) (g : Nat) (X : Option Addr) (L : List Int) (r : Nat × Nat) (hO : Oct L) (hr : Rd w g X L) (hgr : grp 0 0 L = r) :
    Calls Try.prog 121 #[bptr g] w fun e w' => e = .returned (.tuple #[.int .u64 (r.1 : Int), .int .i64 (r.2 : Int)]) ∧ w = w' := by
  obtain ⟨m, c, hm, hmc, hcm, hb, hv, hgx⟩ := hr
  have d2 : w.cell? ⟨g, 2, none⟩ = some (.slice X m c) := hb.cell 2
  have hmc' : (m : Int) ≤ (c : Int) := by omega
  have hcm' : (c : Int) ≤ 9223372036854775807 := by unfold maxLen at hcm; omega
  have HM := Lib.hid hm
  have HV := Lib.hid hv
  have HO := Lib.hid hO
  have HR := Lib.hid hgr
  clear hm hb hv hO hgx hcm hgr
  go_enter Try.func121, Try.ntmps121
  go_wp2_with fail
  go_loop [4, 12] (fun z i => ∃ k acc : Nat, k ≤ m ∧ k ≤ 9 ∧ i = .int .i64 k ∧ z = .int .u64 (acc : Int) ∧ acc < 128 ^ k ∧ grp k acc (L.drop k) = r) (fun _ i => m - (intOf i).toNat)
  case atStart => exact ⟨0, 0, Nat.zero_le _, by omega, rfl, rfl, by simp, by rw [List.drop_zero]; exact HR.out⟩
  case round =>
    obtain ⟨k, acc, hk, hk9, rfl, rfl, hacc, hg⟩ := hrel
    by_cases hlt : k < m
    · obtain ⟨bx, ox, rfl, hbx, hcells⟩ := HV.out.2 (by omega)
      obtain ⟨x, hx⟩ : ∃ x, L[k]? = some x := ⟨L[k]'(by have := HM.out; omega), List.getElem?_eq_getElem _⟩
      have c0 : w.cell? ⟨bx, ox + k, none⟩ = some (.int .u8 x) := hcells k _ (by rw [List.getElem?_map, hx]; rfl)
      obtain ⟨x0, x1⟩ := HO.out x (List.mem_of_getElem? hx)
      have hd : L.drop k = x :: L.drop (k + 1) := by
        obtain ⟨h1, rfl⟩ := List.getElem?_eq_some_iff.1 hx
        exact List.drop_eq_getElem_cons h1
      rw [hd, grp_step] at hg
      clear hcells hx hd
      by_cases h9 : k = 9 ∧ 1 < x
      · rw [if_pos h9] at hg
        obtain ⟨h9, h1⟩ := h9
        have e9 : ((k : Int) == 9) = true := beq_iff_eq.2 (by omega)
        have hkm : (k : Int) < (m : Int) := by omega
        have hk' : (k : Int) ≤ 9 := by omega
        have hk0 : (0 : Int) ≤ (k : Int) := by omega
        have HG := Lib.hid hg
        clear hg hacc h9 x0
        go_wp2_with fail
        go_ret2
        exact ⟨by rw [← HG.out]; rfl, rfl⟩
      · rw [if_neg h9] at hg
        have hb := grp_bd k acc x x0 x1 hk9 hacc h9
        obtain ⟨hb1, hb2, _⟩ := hb
        have ha := u8_and127 x x0 x1
        have HN := Lib.hid (acc_next k acc x hacc)
        obtain ⟨y, hy⟩ : ∃ y : Nat, (x % 128).toNat = y := ⟨_, rfl⟩
        obtain ⟨Pk, hP⟩ : ∃ Pk : Nat, 128 ^ k = Pk := ⟨_, rfl⟩
        rw [hy] at ha hb1 hg HN
        have e1 : IntKind.u64.wrap (y : Int) = (y : Int) := u64_in _ (by omega) (by omega)
        have e2 : IntKind.u64.wrap ((y : Int) * 2 ^ (7 * k)) = (y : Int) * (Pk : Int) := by
          rw [pow128i, hP]
          refine u64_in _ (Int.mul_nonneg (by omega) (by omega)) ?_
          rw [hP] at hb1
          rw [← Int.natCast_mul]
          omega
        have ho := or_hi acc y k hacc hb1 hb2
        rw [hP] at ho hg HN
        have HP := Lib.hid hP
        have HY := Lib.hid hy
        clear hy hP
        clear hb1 hb2 hacc
        have hk' : (k : Int) ≤ 9 := by omega
        have hk0 : (0 : Int) ≤ (k : Int) := by omega
        have hkm : (k : Int) < (m : Int) := by omega
        by_cases hx : x < 128
        · rw [if_pos hx] at hg
          by_cases hz : x = 0 ∧ 0 < k
          · rw [if_pos hz] at hg
            obtain ⟨hx0, hz⟩ := hz
            have ex : (x == 0) = true := beq_iff_eq.2 hx0
            have hx1 : x ≤ 1 := by omega
            have hkp : 0 < (k : Int) := by omega
            have HG := Lib.hid hg
            clear hg hx0 h9
            go_wp2_with fail
            all_goals go_ret2
            all_goals exact ⟨by rw [← HG.out]; rfl, rfl⟩
          · rw [if_neg hz] at hg
            have HG := Lib.hid hg
            clear hg
            by_cases h9' : k = 9
            · have hx1 : x ≤ 1 := by omega
              have ex : (x == 0) = false := beq_false_of_ne (by omega)
              have e9 : ((k : Int) == 9) = true := beq_iff_eq.2 (by omega)
              clear hz h9 h9'
              go_wp2_with fail
              all_goals go_ret2
              all_goals exact ⟨by rw [← HG.out]; rfl, rfl⟩
            · have h8 : (k : Int) < 9 := by omega
              have e9 : ((k : Int) == 9) = false := beq_false_of_ne (by omega)
              by_cases hx0 : x = 0
              · have hk00 : k = 0 := by omega
                have ex : (x == 0) = true := beq_iff_eq.2 hx0
                have ek : decide ((k : Int) > 0) = false := by simp; omega
                have ek2 : (k : Int) ≤ 0 := by omega
                clear hx0 hk00 h9 h9' hz hx
                have hx : x < 128 := by have := beq_iff_eq.1 ex; omega
                go_wp2_with fail
                all_goals go_ret2
                all_goals exact ⟨by rw [← HG.out]; rfl, rfl⟩
              · have hx1 : 1 ≤ x := by omega
                have ex : (x == 0) = false := beq_false_of_ne (by omega)
                go_wp2_with fail
                all_goals go_ret2
                all_goals exact ⟨by rw [← HG.out]; rfl, rfl⟩
        · rw [if_neg hx] at hg
          have hx' : 128 ≤ x := by omega
          have h8 : (k : Int) < 9 := by omega
          have e9 : ((k : Int) == 9) = false := beq_false_of_ne (by omega)
          have HG := Lib.hid hg
          clear hg hx
          go_wp2_with fail
          go_round
          case rel => exact ⟨k + 1, acc + y * Pk, by omega, by omega, by go_num, rfl, HN.out, HG.out⟩
          case measure => simp [intOf]; omega
    · have hkm : ¬ ((k : Int) < (m : Int)) := by omega
      have HG := Lib.hid hg
      have hd : L.drop k = [] := List.drop_eq_nil_of_le (by have := HM.out; omega)
      have HD := Lib.hid hd
      clear hg hd hacc
      go_wp2_with fail
      go_ret2
      refine ⟨?_, rfl⟩
      have e := HG.out
      rw [HD.out] at e
      rw [← e]
      rfl
end Go.Proofs.Ytfkbcflgbjncdaa
