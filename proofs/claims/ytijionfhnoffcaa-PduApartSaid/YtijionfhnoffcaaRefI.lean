/- The reference's Zigzag, Int and Blob: their contracts. -/
import Derived.Test.YtijionfhnoffcaaRefU
import Derived.Test.YtijionfhnoffcaaOctK
namespace Go.Proofs.Ytijionfhnoffcaa
set_option linter.unusedVariables false
set_option linter.unusedSimpArgs false
open Go.RowKit
set_option maxHeartbeats 1000000 in
theorem refzz_any (w : World) (n : Int) (h0 : -9223372036854775808 ≤ n) (h1 : n ≤ 9223372036854775807) :
    Calls Try.prog 45 #[.int .i64 n] w fun e w' => e = .returned (.int .u64 (zz n)) ∧ w = w' := by
  by_cases h : n < 0
  · have e1 : zz n = -2 * n - 1 := if_pos h
    have E1 := Lib.hid e1
    have q1 : IntKind.u64.wrap (-(n + 1)) = -(n + 1) := u64_in _ (by omega) (by omega)
    have q2 : IntKind.u64.wrap (-(n + 1) * 2) = -(n + 1) * 2 := u64_in _ (by omega) (by omega)
    have q3 : IntKind.u64.wrap (-(n + 1) * 2 + 1) = -(n + 1) * 2 + 1 := u64_in _ (by omega) (by omega)
    clear e1
    go_enter Try.func45, Try.ntmps45
    go_wp2_with fail
    go_ret
    exact ⟨congrArg Ending.returned (congrArg (Value.int .u64) (by rw [E1.out]; omega)), rfl⟩
  · have e1 : zz n = 2 * n := if_neg h
    have E1 := Lib.hid e1
    have h2 : 0 ≤ n := by omega
    have q1 : IntKind.u64.wrap n = n := u64_in _ (by omega) (by omega)
    have q2 : IntKind.u64.wrap (n * 2) = n * 2 := u64_in _ (by omega) (by omega)
    clear e1
    go_enter Try.func45, Try.ntmps45
    go_wp2_with fail
    go_ret
    exact ⟨congrArg Ending.returned (congrArg (Value.int .u64) (by rw [E1.out]; omega)), rfl⟩
theorem u8_add128 (z : Nat) : IntKind.u8.wrap (IntKind.u8.wrap ((z : Int) % 128) + 128) = ((z % 128 + 128 : Nat) : Int) := by
  rw [u8_wrap, u8_wrap]; omega
set_option maxRecDepth 10000 in
set_option maxHeartbeats 2000000 in
theorem refint_any (w : World) (n : Int) (h0 : -9223372036854775808 ≤ n) (h1 : n ≤ 9223372036854775807) :
    Calls Try.prog 24 #[.int .i64 n] w (NewOcts w (vn (zz n).toNat)) := by
  obtain ⟨hz0, hz1⟩ := zz_nonneg n h0 h1
  obtain ⟨Z, hZ⟩ : ∃ Z : Nat, zz n = (Z : Int) := ⟨(zz n).toNat, by omega⟩
  have hZ' : (zz n).toNat = Z := by omega
  have hZb : Z < 18446744073709551616 := by omega
  have HZ := Lib.hid hZ
  rw [hZ']
  clear hZ hZ' hz0 hz1
  obtain ⟨i0, hi0, hz0, hz1, hz2⟩ := info_parts infoU8
  go_enter Try.func24, Try.ntmps24
  go_wp2_with fail
  refine (refzz_any _ n h0 h1).mono ?_
  rintro e w' ⟨rfl, rfl⟩
  rw [HZ.out]
  go_wp2_with fail
  go_loopw [3, 4] (fun i u wr => ∃ z : Nat, z < 18446744073709551616 ∧ i = .int .u64 (z : Int) ∧ ∃ A m c L, u = .slice A m c ∧ Sl wr 5 1 A m c (octs L) ∧ L ++ vn z = vn Z ∧ Keep w.heap.size [] w wr ∧ (∀ x, x ∈ blks A → w.heap.size ≤ x)) (fun i _ _ => (intOf i).toNat)
  case atStart => exact ⟨Z, hZb, rfl, none, 0, 0, [], rfl, Sl.nil _ _ _, rfl, Keep.refl _ _ _, by simp [blks]⟩
  case round =>
    obtain ⟨z, hzb, rfl, A, m, c, L, rfl, hs, hL, hk, hbl⟩ := hrel
    have hlen : m ≤ 10 := by
      have h1 := congrArg List.length hL
      have h2 := vn_len10 Z hZb
      have h3 := hs.1
      simp [octs] at h1 h3
      omega
    have HS := Lib.hid hs
    have HL := Lib.hid hL
    have HK := Lib.hid hk
    have HBL := Lib.hid hbl
    clear hs hL hk hbl
    by_cases hz : z < 128
    · have hzi : (z : Int) ≤ 127 := by omega
      have u8 : IntKind.u8.wrap (z : Int) = (z : Int) := u8_id z hz
      have HZZ := Lib.hid hz
      clear hz
      go_wp2_with (first
        | (at_builtin
           refine wpList_app1 _ rfl (.tmp 18) (.tmp 21) 24 rfl 5 i0 _ 1 1 Try.underlying24 hi0 hz0 hz1 hz2 rfl (by omega) A m c (octs L) rfl (by exact HS.out.alloc _) _ _ _ rfl (by exact Blk.new _ _ _) rfl rfl (by omega) (by omega) ?_
           intro A2 c2 w3 hs3 hk3 hb3
           have HS3 := Lib.hid hs3
           have HK3 := Lib.hid hk3
           have HB3 := Lib.hid hb3
           clear hs3 hk3 hb3))
      go_ret
      have hz := HK.out.size
      refine ⟨A2, m + 1, c2, rfl, ?_, ?_, ?_, fun x hx => ?_⟩
      · rw [← HL.out, vn_small HZZ.out]
        have := HS.out.1
        simp [octs] at this ⊢; omega
      · rw [← HL.out, vn_small HZZ.out]
        simpa [octs] using HS3.out
      · exact (HK.out.alloc hz _).chain (Nat.le_refl _) HK3.out (fun x hx => HBL.out x hx)
      · rcases HB3.out x hx with h | h
        · exact HBL.out x h
        · simp at h; omega
    · have hzi : (128 : Int) ≤ (z : Int) := by omega
      have u8 := u8_add128 z
      have HZZ := Lib.hid hz
      clear hz
      go_wp2_with (first
        | (at_builtin
           refine wpList_app1 _ rfl (.tmp 9) (.tmp 14) 24 rfl 5 i0 _ 1 1 Try.underlying24 hi0 hz0 hz1 hz2 rfl (by omega) A m c (octs L) rfl (by exact HS.out.alloc _) _ _ _ rfl (by exact Blk.new _ _ _) rfl rfl (by omega) (by omega) ?_
           intro A2 c2 w3 hs3 hk3 hb3
           have HS3 := Lib.hid hs3
           have HK3 := Lib.hid hk3
           have HB3 := Lib.hid hb3
           clear hs3 hk3 hb3))
      go_roundw
      case rel =>
        have hz := HK.out.size
        refine ⟨z / 128, by omega, rfl, A2, m + 1, c2, L ++ [((z % 128 + 128 : Nat) : Int)], rfl, ?_, ?_, ?_, fun x hx => ?_⟩
        · have h3 := HS3.out
          simpa [octs] using h3
        · rw [← HL.out, vn_big HZZ.out]
          simp
        · exact (HK.out.alloc hz _).chain (Nat.le_refl _) HK3.out (fun x hx => HBL.out x hx)
        · rcases HB3.out x hx with h | h
          · exact HBL.out x h
          · simp at h; omega
      case measure => have := HZZ.out; simp [intOf] <;> omega
set_option maxHeartbeats 2000000 in
theorem refblob_any (w : World) (X : Option Addr) (m c : Nat) (B : List Int) (hm : m ≤ 100000000) (hv : Vw w X m 1 (octs B)) :
    Calls Try.prog 25 #[.slice X m c] w (NewOcts w (vn (zz m).toNat ++ B)) := by
  have HV := Lib.hid hv
  have hl10 : (vn (zz m).toNat).length ≤ 10 := vn_len10 _ (by have := zz_nonneg (m : Int) (by omega) (by omega); omega)
  have HL := Lib.hid hl10
  obtain ⟨i0, hi0, hz0, hz1, hz2⟩ := info_parts infoU8
  clear hv hl10
  go_enter Try.func25, Try.ntmps25
  go_wp2_with fail
  refine (refint_any _ (m : Int) (by omega) (by omega)).mono ?_
  rintro e w1 ⟨A, n, c1, rfl, hn, hs, hk, hb⟩
  have HN := Lib.hid hn
  have HS := Lib.hid hs
  have HK := Lib.hid hk
  have HB := Lib.hid hb
  have HV1 := Lib.hid (HV.out.keep0 hk)
  have hn10 : n ≤ 10 := by rw [hn]; exact HL.out
  clear hn hs hk hb
  go_wp2_with (at_builtin
               refine wpList_appV _ rfl (.tmp 5) (.tmp 6) 24 rfl 5 i0 _ 1 1 Try.underlying24 hi0 hz0 hz1 hz2 rfl (by omega) A n c1 (octs (vn (zz m).toNat)) rfl (by exact HS.out) X m c (octs B) rfl HV1.out (oct_one B) (by omega) (by omega) ?_
               intro A2 c2 w3 hs3 hk3 hb3
               have HS3 := Lib.hid hs3
               have HK3 := Lib.hid hk3
               have HB3 := Lib.hid hb3
               clear hs3 hk3 hb3)
  go_ret
  have hz := HK.out.size
  refine ⟨A2, n + m, c2, rfl, ?_, ?_, HK.out.chain (Nat.le_refl _) HK3.out (fun x hx => HB.out x hx), fun x hx => ?_⟩
  · have := HV.out.1
    have := HN.out
    simp [octs] at *; omega
  · simpa [octs] using HS3.out
  · rcases HB3.out x hx with h | h
    · exact HB.out x h
    · omega
end Go.Proofs.Ytijionfhnoffcaa
