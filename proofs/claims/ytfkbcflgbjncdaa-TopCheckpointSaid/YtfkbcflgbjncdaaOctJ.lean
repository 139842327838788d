/- (*Writer).Int: its contract. -/
import Derived.Test.YtfkbcflgbjncdaaOctI
namespace Go.Proofs.Ytfkbcflgbjncdaa
set_option linter.unusedVariables false
set_option linter.unusedSimpArgs false
open Go.RowKit
theorem u8_id (z : Nat) (h : z < 128) : IntKind.u8.wrap (z : Int) = (z : Int) := by rw [IntKind.wrap_u8]; omega
set_option maxRecDepth 10000 in
set_option maxHeartbeats 2000000 in
theorem wint_any (w : World) (g : Nat) (A : Option Addr) (L : List Int) (n : Int) (h0 : -9223372036854775808 ≤ n) (h1 : n ≤ 9223372036854775807) (hL : L.length + 16 ≤ 900000000) (hw : Wr w g A L) :
    Calls Try.prog 109 #[bptr g, .int .i64 n] w fun e w' =>
      e = .returned (bptr g) ∧ ∃ A', Wr w' g A' (L ++ vn (zz n).toNat) ∧ Keep w.heap.size (g :: blks A) w w' ∧ ∀ x, x ∈ blks A' → x ∈ blks A ∨ w.heap.size ≤ x := by
  obtain ⟨hz0, hz1⟩ := zz_nonneg n h0 h1
  obtain ⟨Z, hZ⟩ : ∃ Z : Nat, zz n = (Z : Int) := ⟨(zz n).toNat, by omega⟩
  have hZ' : (zz n).toNat = Z := by omega
  have hZb : Z < 18446744073709551616 := by omega
  have HZ := Lib.hid hZ
  rw [hZ']
  clear hZ hZ' hz0 hz1
  obtain ⟨m, c, hm, hb, hs⟩ := hw
  have HM := Lib.hid hm
  have HB := Lib.hid hb
  have HS := Lib.hid hs
  have hm' : m + 16 ≤ 900000000 := by omega
  clear hm hb hs hL
  go_enter Try.func109, Try.ntmps109
  go_wp2_with fail
  refine (wok_any _ g _ HB.out).mono ?_
  rintro e w' ⟨rfl, rfl⟩
  go_wp2_with fail
  refine (zigzag_any _ n h0 h1).mono ?_
  rintro e w' ⟨rfl, rfl⟩
  rw [HZ.out]
  go_wp2_with fail
  obtain ⟨i0, hi0, hz0, hz1, hz2⟩ := info_parts infoU8
  go_loopw [5] (fun i wr => ∃ z j : Nat, (z * 128 ^ j < 18446744073709551616 ∧ (j = 0 ∨ 1 ≤ z)) ∧ i = .int .u64 (z : Int) ∧ ∃ A' L', Wr wr g A' L' ∧ L' ++ vn z = L ++ vn Z ∧ L'.length = m + j ∧ Keep w.heap.size (g :: blks A) w wr ∧ (∀ x, x ∈ blks A' → x ∈ blks A ∨ w.heap.size ≤ x)) (fun i _ => (intOf i).toNat)
  case atStart => exact ⟨Z, 0, ⟨by simpa using hZb, .inl rfl⟩, rfl, A, L, ⟨m, c, HM.out, HB.out, HS.out⟩, rfl, by rw [HM.out]; rfl, Keep.refl _ _ _, fun x hx => .inl hx⟩
  case round =>
    obtain ⟨z, j, hj, rfl, A', L', hwr, hL', hlen, hk, hbl⟩ := hrel
    have hj9 : j ≤ 9 := by
      rcases hj.2 with h | h
      · omega
      · refine Decidable.byContradiction fun hc => ?_
        have hp : 128 ^ 10 ≤ 128 ^ j := Nat.pow_le_pow_right (by decide) (by omega)
        have hq : 1 * 128 ^ j ≤ z * 128 ^ j := Nat.mul_le_mul_right _ h
        have := hj.1
        omega
    have hzb : z < 18446744073709551616 := by
      have hp : 1 ≤ 128 ^ j := Nat.one_le_pow _ _ (by decide)
      have hq : z * 1 ≤ z * 128 ^ j := Nat.mul_le_mul_left _ hp
      have := hj.1
      omega
    by_cases hz : z < 128
    · have hzi : (z : Int) < 128 := by omega
      obtain ⟨m', c', hm', hb', hs'⟩ := hwr
      have hmm : m' + 1 ≤ 1000000000 := by omega
      have HM' := Lib.hid hm'
      have HB' := Lib.hid hb'
      have HS' := Lib.hid hs'
      have HK := Lib.hid hk
      have HBL := Lib.hid hbl
      have HL := Lib.hid hL'
      have HJ := Lib.hid hj
      have d1 : wr.cell? ⟨g, 1, none⟩ = some (.slice A' m' c') := hb'.cell 1
      have f1 := hb'.frozen 1
      have HZZ := Lib.hid hz
      clear hm' hb' hs' hk hbl hL' hj hz
      have d2 : ∀ o : Obj, (wr.alloc o).cell? ⟨g, 1, none⟩ = some (.slice A' m' c') := fun o => (HB'.out.alloc o).cell 1
      go_wp2_with (first
        | (at_builtin
           refine wpList_app1 _ rfl (.tmp 31) (.tmp 34) 35 rfl 5 i0 _ 1 1 Try.underlying35 hi0 hz0 hz1 hz2 rfl (by omega) A' m' c' (octs L') rfl (by exact HS'.out.alloc _) _ _ _ rfl (by exact Blk.new _ _ _) rfl rfl (by omega) (by omega) ?_
           intro A2 c2 w3 hs3 hk3 hb3
           have HS3 := Lib.hid hs3
           have HK3 := Lib.hid hk3
           have HB3 := Lib.hid hb3
           have hb4 := (HB'.out.alloc _).keepS hk3 (HS'.out.ne_blk HB'.out (by decide))
           have f4 := hb4.frozen 1
           have d4 : w3.cell? ⟨g, 1, none⟩ = some (.slice A' m' c') := hb4.cell 1
           have HB4 := Lib.hid hb4
           clear hs3 hk3 hb3 hb4))
      all_goals
        have HR := Lib.hid (wr_round rfl HM'.out HB'.out HS'.out HK.out HBL.out HS3.out HK3.out HB3.out)
        clear HB4 f4 d4
        go_wp2_with fail
        go_ret
        refine ⟨rfl, A2, ?_, HR.out.2.1, HR.out.2.2⟩
        rw [← HL.out, vn_small HZZ.out]
        exact HR.out.1
    · have hzi : (128 : Int) ≤ (z : Int) := by omega
      obtain ⟨m', c', hm', hb', hs'⟩ := hwr
      have hmm : m' + 1 ≤ 1000000000 := by omega
      have HM' := Lib.hid hm'
      have HB' := Lib.hid hb'
      have HS' := Lib.hid hs'
      have HK := Lib.hid hk
      have HBL := Lib.hid hbl
      have HL := Lib.hid hL'
      have HJ := Lib.hid hj
      have d1 : wr.cell? ⟨g, 1, none⟩ = some (.slice A' m' c') := hb'.cell 1
      have f1 := hb'.frozen 1
      have HZZ := Lib.hid hz
      clear hm' hb' hs' hk hbl hL' hj hz
      have d2 : ∀ o : Obj, (wr.alloc o).cell? ⟨g, 1, none⟩ = some (.slice A' m' c') := fun o => (HB'.out.alloc o).cell 1
      go_wp2_with (first
        | (at_builtin
           refine wpList_app1 _ rfl (.tmp 17) (.tmp 21) 35 rfl 5 i0 _ 1 1 Try.underlying35 hi0 hz0 hz1 hz2 rfl (by omega) A' m' c' (octs L') rfl (by exact HS'.out.alloc _) _ _ _ rfl (by exact Blk.new _ _ _) rfl rfl (by omega) (by omega) ?_
           intro A2 c2 w3 hs3 hk3 hb3
           have HS3 := Lib.hid hs3
           have HK3 := Lib.hid hk3
           have HB3 := Lib.hid hb3
           have hb4 := (HB'.out.alloc _).keepS hk3 (HS'.out.ne_blk HB'.out (by decide))
           have f4 := hb4.frozen 1
           have d4 : w3.cell? ⟨g, 1, none⟩ = some (.slice A' m' c') := hb4.cell 1
           have HB4 := Lib.hid hb4
           clear hs3 hk3 hb3 hb4))
      all_goals
        have HR := Lib.hid (wr_round (u8_or128 z) HM'.out HB'.out HS'.out HK.out HBL.out HS3.out HK3.out HB3.out)
        clear HB4 f4 d4
        go_wp2_with fail
        go_roundw
        case rel =>
          refine ⟨z / 128, j + 1, ⟨?_, .inr (by have := HZZ.out; omega)⟩, rfl, A2, _, HR.out.1, ?_, by simp; omega, HR.out.2.1, HR.out.2.2⟩
          · have hq : z / 128 * 128 * 128 ^ j ≤ z * 128 ^ j := Nat.mul_le_mul_right _ (by omega)
            have := HJ.out.1
            rw [Nat.pow_succ, Nat.mul_comm (128 ^ j) 128, ← Nat.mul_assoc]
            omega
          · rw [← HL.out, vn_big HZZ.out]
            simp
        case measure => have := HZZ.out; simp [intOf] <;> omega
end Go.Proofs.Ytfkbcflgbjncdaa
