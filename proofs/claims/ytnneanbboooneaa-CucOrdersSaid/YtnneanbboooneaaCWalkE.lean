/- Encode. -/
import Derived.Test.YtnneanbboooneaaCWalkC
namespace Go.Proofs.Ytnneanbboooneaa
set_option linter.unusedVariables false
set_option linter.unusedSimpArgs false
open Go.RowKit
theorem WS.keep0 {w W W' : World} {g : Nat} {A : Option Addr} {L : List Int} {t : TypeId} {cs : Array Value} (h : WS w W g A L t cs) (hk : Keep W.heap.size [] W W') : WS w W' g A L t cs := by
  obtain ⟨n, c, hn, hb, hs⟩ := h.wr
  exact ⟨h.keep.chain0 (Nat.le_refl _) hk, ⟨n, c, hn, hb.keepS hk (by simp), hs.keep0 hk⟩, h.hg, h.hA, h.box.keepS hk (by simp)⟩
/-- what Encode leaves -/
def CEPost (w : World) (L : List Int) (z : Int) (e : Ending) (w' : World) : Prop :=
  ∃ A n c, e = .returned (.tuple #[.slice A n c, .int .i64 z]) ∧ Vw w' A n 1 (octs L) ∧ Keep w.heap.size [] w w' ∧ (∀ x, x ∈ blks A → w.heap.size ≤ x) ∧ n ≤ c ∧ c ≤ maxLen
theorem chk_ne {C F t : Int} (h : chkF C F t ≠ 0) : encE t C F = chkF C F t ∧ encL t C F = [] := by
  have h1 : encE t C F = chkF C F t := by unfold encE; rw [if_neg h]
  exact ⟨h1, by unfold encL; rw [h1, if_neg h]⟩
set_option maxHeartbeats 1000000 in
theorem cenc_chk (w : World) (t C F z : Int) (hz : chkF C F t = z) (h0 : z ≠ 0) : Calls Try.prog 8 #[.int .i64 t, fagg C F] w (CEPost w [] z) := by
  go_enter Try.func8, Try.ntmps8
  go_wp2_with fail
  refine (ccheck_any _ C F t z hz).mono ?_
  rintro e w1 ⟨rfl, hk⟩
  have K1 : Hid (Keep w.heap.size [] w w1) := Lib.hid (((Keep.refl _ _ w).alloc (Nat.le_refl _) _).chain0 (Nat.le_refl _) hk)
  clear hk
  go_wp2_with fail
  go_ret2
  exact ⟨none, 0, 0, rfl, Vw.nil _ _, K1.out, by simp [blks], Nat.le_refl _, Nat.zero_le _⟩
set_option maxHeartbeats 1000000 in
theorem cenc_cap (w : World) (t C F K : Int) (hz : chkF C F t = 0) (hK : capS C = K) (hk : K ≤ t / 256) : Calls Try.prog 8 #[.int .i64 t, fagg C F] w (CEPost w [] 10) := by
  obtain ⟨hok, ht0, ht1⟩ := chk_zero hz
  have hC := (okF_iff C F).1 hok
  obtain ⟨q1, q2, q3, q4⟩ := hC
  have HB0 := Lib.hid (Blk.new w 23 #[.int .i64 C, .int .i64 F])
  have hd := tdiv256 t ht0
  go_enter Try.func8, Try.ntmps8
  go_wp2_with fail
  refine (ccheck_any _ C F t 0 hz).mono ?_
  rintro e w1 ⟨rfl, hk⟩
  have K1 : Hid (Keep w.heap.size [] w w1) := Lib.hid (((Keep.refl _ _ w).alloc (Nat.le_refl _) _).chain0 (Nat.le_refl _) hk)
  obtain ⟨d0, d1⟩ := fcell (HB0.out.keepS hk (by simp))
  clear hk
  go_wp2_with fail
  refine (cmost_any _ C F K (by omega) hK).mono ?_
  rintro e w2 ⟨rfl, hk⟩
  have K2 : Hid (Keep w.heap.size [] w w2) := Lib.hid (K1.out.chain0 (Nat.le_refl _) hk)
  clear hk d0 d1
  go_wp2_with fail
  go_ret2
  exact ⟨none, 0, 0, rfl, Vw.nil _ _, K2.out, by simp [blks], Nat.le_refl _, Nat.zero_le _⟩
theorem be_one (n : Int) (h0 : 0 ≤ n) (h1 : n < 256) : be n 1 = [n] := by
  simp only [be]
  congr 1
  omega
theorem i64_in (n : Int) (h0 : -9223372036854775808 ≤ n) (h1 : n ≤ 9223372036854775807) : IntKind.i64.wrap n = n := by
  rw [IntKind.wrap_i64]; omega
set_option maxHeartbeats 4000000 in
theorem cenc_yes (w : World) (t : Int) (c f : Nat) (K i : Int) (hz : chkF (c : Int) (f : Int) t = 0) (hK : capS (c : Int) = K) (hlt : t / 256 < K) (hi : idxF (c : Int) (f : Int) = i) : Calls Try.prog 8 #[.int .i64 t, fagg c f] w (CEPost w (encB t c f) 0) := by
  obtain ⟨hok, ht0, ht1⟩ := chk_zero hz
  have hC := (okF_iff (c : Int) (f : Int)).1 hok
  obtain ⟨q1, q2, q3, q4⟩ := hC
  have hib := idxF_bd (c : Int) (f : Int)
  have hi0 : 0 ≤ i := by have := idxF_ge (c : Int) (f : Int); rw [hok, hi] at this; simpa using this
  rw [hi] at hib
  have hi1 : i ≤ 15 := hib.2
  have HB0 := Lib.hid (Blk.new w 23 #[.int .i64 c, .int .i64 f])
  have hd := tdiv256 t ht0
  have hm := tmod256 t ht0
  have hkb := capS_bd ⟨q1, q2⟩
  rw [hK] at hkb
  obtain ⟨hk1, hk2⟩ := hkb
  have j1 := i64_in (16 + i) (by omega) (by omega)
  have j2 := i64_in (t / 256) (by omega) (by omega)
  have u1 := u64_in (16 + i) (by omega) (by omega)
  have u2 := u64_in (t / 256) (by omega) (by omega)
  have u3 := u64_in (t % 256) (by omega) (by omega)
  have HE : Hid (encB t c f = ([] ++ be (16 + i) 1 ++ be (t / 256) c) ++ fineB t f) := Lib.hid (by
    unfold encB; rw [hi, be_one _ (by omega) (by omega)]; simp)
  have q1' : 1 ≤ c := by omega
  have q2' : c ≤ 4 := by omega
  clear hok hib
  go_enter Try.func8, Try.ntmps8
  go_wp2_with fail
  refine (ccheck_any _ c f t 0 hz).mono ?_
  rintro e w1 ⟨rfl, hk⟩
  have K1 : Hid (Keep w.heap.size [] w w1) := Lib.hid (((Keep.refl _ _ w).alloc (Nat.le_refl _) _).chain0 (Nat.le_refl _) hk)
  have B1 := Lib.hid (HB0.out.keepS hk (by simp))
  obtain ⟨d0, d1⟩ := fcell B1.out
  clear hk
  go_wp2_with fail
  refine (cmost_any _ c f K (by omega) hK).mono ?_
  rintro e w2 ⟨rfl, hk⟩
  have K2 : Hid (Keep w.heap.size [] w w2) := Lib.hid (K1.out.chain0 (Nat.le_refl _) hk)
  have B2 := Lib.hid (B1.out.keepS hk (by simp))
  have e2 := fcell B2.out
  clear hk d0 d1
  go_wp2_with fail
  go_region_held3 (fun w' => w'.cell? ⟨w.heap.size, 0, none⟩ = some (.int .i64 c) ∧ w'.cell? ⟨w.heap.size, 1, none⟩ = some (.int .i64 f))
    (first | exact e2 | exact fcell W1.out.box | exact fcell W2.out.box | exact fcell W3.out.box | exact fcell W4.out.box)
    (first
      | (go_at_call 21
         refine (wnew_any _).mono ?_
         rintro e w3 ⟨g, rfl, hg, hw, hk⟩
         have hk' := hk.undrew
         have W1 : Hid (WS w w3 g none [] 23 #[.int .i64 c, .int .i64 f]) := ⟨K2.out.chain0 (Nat.le_refl _) hk', hw, Nat.lt_of_lt_of_le B2.out.lt hg, by simp [blks], B2.out.keepS hk' (by simp)⟩
         clear hg hw hk hk')
      | (go_at_call 23
         refine (index_any _ c f).mono ?_
         rintro e w4 ⟨rfl, hk⟩
         rw [hi]
         have W2 := Lib.hid (W1.out.keep0 hk)
         clear hk)
      | (go_at_call 22
         have W3' := W3.out
         refine (wuint_z _ g A2 _ (t / 256) c c rfl (by omega) (by omega) (by omega) (by omega) (by exact W3.out.wr) (by simp [be_length])).mono ?_
         rintro e w6 ⟨rfl, A3, hw, hk, hb⟩
         have W4 := Lib.hid (W3.out.next hw hk hb)
         clear hw hk hb)
      | (go_at_call 22
         refine (wuint_z _ g none [] (16 + i) 1 1 rfl (by omega) (by omega) (by omega) (by omega) (by exact W2.out.wr) (by simp)).mono ?_
         rintro e w5 ⟨rfl, A2, hw, hk, hb⟩
         have W3 := Lib.hid (W2.out.next hw hk hb)
         clear hw hk hb))
  obtain ⟨f0, f1⟩ := fcell W4.out.box
  clear e2
  go_wp2_with fail
  go_loopw [8, 34] (fun _ j wr => ∃ (k : Nat) (A : Option Addr), k ≤ f ∧ j = .int .i64 k ∧ WS w wr g A (([] ++ be (16 + i) 1 ++ be (t / 256) c) ++ fineB t k) 23 #[.int .i64 c, .int .i64 f]) (fun _ j _ => f - (intOf j).toNat)
  case atStart => exact ⟨0, A3, Nat.zero_le _, rfl, by rw [show fineB t 0 = [] from rfl, List.append_nil]; exact W4.out⟩
  case round =>
    obtain ⟨k, A, hkf, rfl, hw⟩ := hrel
    have W := Lib.hid hw
    clear hw
    by_cases hlt : k < f
    · have hkx : (k : Int) < (f : Int) := by omega
      by_cases h0 : k = 0
      · subst h0
        go_wp2_with fail
        refine (wuint_z _ g A _ (t % 256) 1 1 rfl (by omega) (by omega) (by omega) (by omega) (by exact W.out.wr) (by simp [be_length, fineB_len]; omega)).mono ?_
        rintro e w7 ⟨rfl, A4, hw, hk, hb⟩
        have W5 := Lib.hid (W.out.next hw hk hb)
        clear hw hk hb
        go_wp2_with fail
        go_roundw
        case rel => exact ⟨1, A4, by omega, by go_num, by have h := W5.out; rw [be_one (t % 256) (by omega) (by omega)] at h; rw [List.append_assoc] at h; exact h⟩
        case measure => simp [intOf]; omega
      · have hk0 : ¬ (k : Int) = 0 := by omega
        go_wp2_with fail
        refine (wuint_z _ g A _ 0 1 1 rfl (by omega) (by omega) (by omega) (by omega) (by exact W.out.wr) (by simp [be_length, fineB_len]; omega)).mono ?_
        rintro e w7 ⟨rfl, A4, hw, hk, hb⟩
        have W5 := Lib.hid (W.out.next hw hk hb)
        clear hw hk hb
        go_wp2_with fail
        go_roundw
        case rel => exact ⟨k + 1, A4, by omega, by go_num, by have h := W5.out; rw [be_one 0 (by omega) (by omega)] at h; rw [List.append_assoc] at h; rw [fineB_succ, if_neg h0]; exact h⟩
        case measure => simp [intOf]; omega
    · obtain rfl : k = f := by omega
      go_wp2_with fail
      refine (wbytes_any _ g A _ (by exact W.out.wr) (by simp [be_length, fineB_len]; omega)).mono ?_
      rintro e w8 ⟨A6, n6, c6, rfl, hn, hs, hk, hb⟩
      have HS6 := Lib.hid hs
      have HB6 := Lib.hid hb
      have K6 := Lib.hid (W.out.keep.chain0 (Nat.le_refl _) hk)
      have Z6 : Hid (w.heap.size ≤ wr.heap.size) := Lib.hid W.out.keep.size
      clear hn hs hk hb
      go_wp2_with fail
      go_ret2
      exact ⟨A6, n6, c6, rfl, by rw [HE.out]; exact HS6.out.vw (by omega), K6.out, fun x hx => Nat.le_trans Z6.out (HB6.out x hx), HS6.out.cap.1, HS6.out.cap.2⟩
end Go.Proofs.Ytnneanbboooneaa
