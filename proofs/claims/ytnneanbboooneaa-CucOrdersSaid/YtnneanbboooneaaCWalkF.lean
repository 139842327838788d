/- The reference's Encode. -/
import Derived.Test.YtnneanbboooneaaCWalkE
namespace Go.Proofs.Ytnneanbboooneaa
set_option linter.unusedVariables false
set_option linter.unusedSimpArgs false
open Go.RowKit
theorem u8_in (n : Int) (h0 : 0 ≤ n) (h1 : n ≤ 255) : IntKind.u8.wrap n = n := by rw [u8_wrap]; omega
theorem cenc_any (w : World) (t C F z : Int) (L : List Int) (hz : encE t C F = z) (hL : encL t C F = L) : Calls Try.prog 8 #[.int .i64 t, fagg C F] w (CEPost w L z) := by
  by_cases h0 : chkF C F t = 0
  · obtain ⟨hok, ht0, ht1⟩ := chk_zero h0
    have hC := (okF_iff C F).1 hok
    obtain ⟨c, rfl⟩ : ∃ c : Nat, C = c := ⟨C.toNat, by omega⟩
    obtain ⟨f, rfl⟩ : ∃ f : Nat, F = f := ⟨F.toNat, by omega⟩
    by_cases hlt : t / 256 < capS (c : Int)
    · have e : encE t c f = 0 := by unfold encE; rw [if_pos h0, if_pos hlt]
      have e2 : encL t c f = encB t c f := by unfold encL; rw [if_pos e]
      rw [e] at hz; rw [e2] at hL
      subst hz; subst hL
      exact cenc_yes w t c f _ _ h0 rfl hlt rfl
    · have e : encE t c f = 10 := by unfold encE; rw [if_pos h0, if_neg hlt]
      have e2 : encL t c f = [] := by unfold encL; rw [if_neg (by rw [e]; decide)]
      rw [e] at hz; rw [e2] at hL
      subst hz; subst hL
      exact cenc_cap w t c f _ h0 rfl (by omega)
  · obtain ⟨e, e2⟩ := chk_ne h0
    rw [e] at hz; rw [e2] at hL
    subst hz; subst hL
    exact cenc_chk w t C F _ rfl h0
set_option maxHeartbeats 1000000 in
theorem renc_bad (w : World) (t C F : Int) (hok : okF C F = false) : Calls Try.prog 9 #[.int .i64 t, fagg C F] w (CEPost w [] 1) := by
  go_enter Try.func9, Try.ntmps9
  go_wp2_with fail
  refine (rvalid_any _ C F false hok).mono ?_
  rintro e w1 ⟨rfl, hk⟩
  have K1 : Hid (Keep w.heap.size [] w w1) := Lib.hid (((Keep.refl _ _ w).alloc (Nat.le_refl _) _).chain0 (Nat.le_refl _) hk)
  clear hk
  go_wp2_with fail
  go_ret2
  exact ⟨none, 0, 0, rfl, Vw.nil _ _, K1.out, by simp [blks], Nat.le_refl _, Nat.zero_le _⟩
set_option maxHeartbeats 1000000 in
theorem renc_neg (w : World) (t C F : Int) (hok : okF C F = true) (ht : t < 0) : Calls Try.prog 9 #[.int .i64 t, fagg C F] w (CEPost w [] 10) := by
  go_enter Try.func9, Try.ntmps9
  go_wp2_with fail
  refine (rvalid_any _ C F true hok).mono ?_
  rintro e w1 ⟨rfl, hk⟩
  have K1 : Hid (Keep w.heap.size [] w w1) := Lib.hid (((Keep.refl _ _ w).alloc (Nat.le_refl _) _).chain0 (Nat.le_refl _) hk)
  clear hk
  go_wp2_with fail
  go_ret2
  exact ⟨none, 0, 0, rfl, Vw.nil _ _, K1.out, by simp [blks], Nat.le_refl _, Nat.zero_le _⟩
set_option maxHeartbeats 1000000 in
theorem renc_big (w : World) (t C F : Int) (hok : okF C F = true) (h0 : 0 ≤ t) (ht : 1099511627776 < t) : Calls Try.prog 9 #[.int .i64 t, fagg C F] w (CEPost w [] 10) := by
  go_enter Try.func9, Try.ntmps9
  go_wp2_with fail
  refine (rvalid_any _ C F true hok).mono ?_
  rintro e w1 ⟨rfl, hk⟩
  have K1 : Hid (Keep w.heap.size [] w w1) := Lib.hid (((Keep.refl _ _ w).alloc (Nat.le_refl _) _).chain0 (Nat.le_refl _) hk)
  clear hk
  go_wp2_with fail
  go_ret2
  exact ⟨none, 0, 0, rfl, Vw.nil _ _, K1.out, by simp [blks], Nat.le_refl _, Nat.zero_le _⟩
theorem rmost_div {C F : Int} (h : 1 ≤ C ∧ C ≤ 4) (hF : 0 ≤ F) : rmostP C F / 256 = capS C - 1 ∧ 0 ≤ rmostP C F ∧ rmostP C F ≤ 1099511627776 := by
  have hb := capS_bd h
  unfold rmostP
  by_cases h0 : F = 0
  · rw [if_pos h0]; omega
  · rw [if_neg h0]; omega
set_option maxHeartbeats 1000000 in
theorem renc_cap (w : World) (t C F K M : Int) (hok : okF C F = true) (ht0 : 0 ≤ t) (ht1 : t ≤ 1099511627776) (hK : capS C = K) (hM : rmostP C F = M) (hk : K ≤ t / 256) : Calls Try.prog 9 #[.int .i64 t, fagg C F] w (CEPost w [] 10) := by
  have hC := (okF_iff C F).1 hok
  obtain ⟨q1, q2, q3, q4⟩ := hC
  have hmd := rmost_div ⟨q1, q2⟩ q3
  rw [hM, hK] at hmd
  obtain ⟨hm0, hm1, hm2⟩ := hmd
  have HB0 := Lib.hid (Blk.new w 24 #[.int .i64 C, .int .i64 F])
  have hd := tdiv256 t ht0
  have hd2 := tdiv256 M hm1
  have hgt : M / 256 < t / 256 := by omega
  go_enter Try.func9, Try.ntmps9
  go_wp2_with fail
  refine (rvalid_any _ C F true hok).mono ?_
  rintro e w1 ⟨rfl, hk⟩
  have K1 : Hid (Keep w.heap.size [] w w1) := Lib.hid (((Keep.refl _ _ w).alloc (Nat.le_refl _) _).chain0 (Nat.le_refl _) hk)
  obtain ⟨d0, d1⟩ := fcell (HB0.out.keepS hk (by simp))
  clear hk
  go_wp2_with fail
  refine (rmost_any _ C F M (by omega) hM).mono ?_
  rintro e w2 ⟨rfl, hk⟩
  have K2 : Hid (Keep w.heap.size [] w w2) := Lib.hid (K1.out.chain0 (Nat.le_refl _) hk)
  clear hk d0 d1
  go_wp2_with fail
  go_ret2
  exact ⟨none, 0, 0, rfl, Vw.nil _ _, K2.out, by simp [blks], Nat.le_refl _, Nat.zero_le _⟩
/-- one octet more in front -/
def RTail (w wr : World) (A : Option Addr) (n c : Nat) (L : List Int) : Prop := Sl wr 5 1 A n c (octs L) ∧ Keep w.heap.size [] w wr ∧ ∀ x, x ∈ blks A → w.heap.size ≤ x
theorem rtail_front {w wr w3 : World} {A A2 : Option Addr} {n c c2 : Nat} {L : List Int} {v x : Int} (h : RTail w wr A n c L) (hx : v = x)
    (hs3 : Sl w3 5 1 A2 (1 + n) c2 (#[Value.int .u8 v].toList ++ octs L)) (hk3 : Keep (wr.alloc (.cells #[.int .u8 v] 5)).heap.size (blks (some ⟨wr.heap.size, 0, none⟩)) (wr.alloc (.cells #[.int .u8 v] 5)) w3)
    (hb3 : ∀ g, g ∈ blks A2 → g ∈ blks (some ⟨wr.heap.size, 0, none⟩) ∨ g = (wr.alloc (.cells #[.int .u8 v] 5)).heap.size) : RTail w w3 A2 (1 + n) c2 (x :: L) := by
  subst hx
  have hz := h.2.1.size
  refine ⟨hs3, (h.2.1.alloc hz _).chain (Nat.le_refl _) hk3 (fun x hx => ?_), fun x hx => ?_⟩
  · simp [blks] at hx; omega
  · rcases hb3 x hx with h' | h'
    · simp [blks] at h'; omega
    · simp at h'; omega
theorem rtail_back {w wr w3 : World} {A A2 : Option Addr} {n c c2 : Nat} {L : List Int} {v x : Int} (h : RTail w wr A n c L) (hx : v = x)
    (hs3 : Sl w3 5 1 A2 (n + 1) c2 (octs L ++ #[Value.int .u8 v].toList)) (hk3 : Keep (wr.alloc (.cells #[.int .u8 v] 5)).heap.size (blks A) (wr.alloc (.cells #[.int .u8 v] 5)) w3)
    (hb3 : ∀ g, g ∈ blks A2 → g ∈ blks A ∨ g = (wr.alloc (.cells #[.int .u8 v] 5)).heap.size) : RTail w w3 A2 (n + 1) c2 (L ++ [x]) := by
  subst hx
  have hz := h.2.1.size
  refine ⟨by simpa [octs] using hs3, (h.2.1.alloc hz _).chain (Nat.le_refl _) hk3 h.2.2, fun x hx => ?_⟩
  rcases hb3 x hx with h' | h'
  · exact h.2.2 x h'
  · simp at h'; omega
theorem div_step (n : Int) (k : Nat) : n / 256 ^ k / 256 = n / 256 ^ (k + 1) := by
  rw [Int.pow_succ, Int.ediv_ediv_of_nonneg (Int.le_of_lt (Int.pow_pos (by decide)))]
set_option maxHeartbeats 4000000 in
theorem renc_yes (w : World) (t : Int) (c f : Nat) (K M : Int) (hok : okF (c : Int) (f : Int) = true) (ht0 : 0 ≤ t) (ht1 : t ≤ 1099511627776) (hK : capS (c : Int) = K) (hM : rmostP (c : Int) (f : Int) = M) (hk : t / 256 < K) : Calls Try.prog 9 #[.int .i64 t, fagg c f] w (CEPost w (encB t c f) 0) := by
  obtain ⟨i0, hi0, hz0, hz1, hz2⟩ := info_parts infoU8
  have hC := (okF_iff (c : Int) (f : Int)).1 hok
  obtain ⟨q1, q2, q3, q4⟩ := hC
  have hmd := rmost_div (C := c) (F := f) ⟨q1, q2⟩ q3
  rw [hM, hK] at hmd
  obtain ⟨hm0, hm1, hm2⟩ := hmd
  have HB0 := Lib.hid (Blk.new w 24 #[.int .i64 c, .int .i64 f])
  have hd := tdiv256 t ht0
  have hm := tmod256 t ht0
  have hd2 := tdiv256 M hm1
  have hgt : t / 256 ≤ M / 256 := by omega
  have u3 := u8_in (t % 256) (by omega) (by omega)
  have ub := u8_in (16 + 4 * ((c : Int) - 1) + (f : Int)) (by omega) (by omega)
  have HE : Hid (encB t c f = (16 + 4 * ((c : Int) - 1) + (f : Int)) :: (be (t / 256) c ++ fineB t f)) := Lib.hid (by
    unfold encB idxF; rw [if_pos hok]; congr 1; omega)
  have q1' : 1 ≤ c := by omega
  have q2' : c ≤ 4 := by omega
  have q4' : f ≤ 3 := by omega
  go_enter Try.func9, Try.ntmps9
  go_wp2_with fail
  refine (rvalid_any _ c f true hok).mono ?_
  rintro e w1 ⟨rfl, hk⟩
  have K1 : Hid (Keep w.heap.size [] w w1) := Lib.hid (((Keep.refl _ _ w).alloc (Nat.le_refl _) _).chain0 (Nat.le_refl _) hk)
  have B1 := Lib.hid (HB0.out.keepS hk (by simp))
  obtain ⟨d0, d1⟩ := fcell B1.out
  clear hk
  go_wp2_with fail
  refine (rmost_any _ c f M (by omega) hM).mono ?_
  rintro e w2 ⟨rfl, hk⟩
  have K2 : Hid (Keep w.heap.size [] w w2) := Lib.hid (K1.out.chain0 (Nat.le_refl _) hk)
  have B2 := Lib.hid (B1.out.keepS hk (by simp))
  clear hk d0 d1
  go_wp2_with fail
  go_loopw [6, 7, 8] (fun l n j wr => ∃ (k : Nat) (A : Option Addr) (cp : Nat), k ≤ c ∧ j = .int .i64 k ∧ n = .int .i64 (t / 256 / 256 ^ k) ∧ l = .slice A k cp ∧ RTail w wr A k cp (be (t / 256) k) ∧ Blk wr w.heap.size 24 #[.int .i64 c, .int .i64 f]) (fun _ _ j _ => c - (intOf j).toNat)
  case atStart => exact ⟨0, none, 0, Nat.zero_le _, rfl, by simp, rfl, ⟨Sl.nil _ _ _, K2.out, by simp [blks]⟩, B2.out⟩
  case round =>
    obtain ⟨k, A, cp, hkc, rfl, rfl, rfl, hr, hb⟩ := hrel
    have HR := Lib.hid hr
    have HB := Lib.hid hb
    obtain ⟨d0, d1⟩ := fcell hb
    clear hr hb
    by_cases hlt : k < c
    · have hkx : (k : Int) < (c : Int) := by omega
      have hstep := Lib.hid (div_step (t / 256) k)
      have hn0 : 0 ≤ t / 256 / 256 ^ k := Int.ediv_nonneg (by omega) (Int.le_of_lt (Int.pow_pos (by decide)))
      have hn1 : t / 256 / 256 ^ k ≤ 4294967296 := Int.le_trans (Int.ediv_le_self _ (by omega)) (by omega)
      obtain ⟨N, hN⟩ : ∃ N, t / 256 / 256 ^ k = N := ⟨_, rfl⟩
      have HN := Lib.hid hN
      rw [hN] at hn0 hn1 ⊢
      clear hN
      have e1 := tmod256 N hn0
      have e2 := tdiv256 N hn0
      have e3 := u8_in (N % 256) (by omega) (by omega)
      go_wp2_with (at_builtin
                   refine wpList_appV _ rfl (.tmp 39) (.tmp 40) 25 rfl 5 i0 _ 1 1 Try.underlying25 hi0 hz0 hz1 hz2 rfl (by omega) (some ⟨wr.heap.size, 0, none⟩) 1 1 _ rfl (World.ownsRow_lit wr _ 1 (Nat.zero_le _) (by unfold maxLen; omega) rfl) A k cp (octs (be (t / 256) k)) rfl ((HR.out.1.alloc _).vw (by omega)) (oct_one _) (by omega) (by omega) ?_
                   intro A2 c2 w3 hs3 hk3 hb3
                   have HS3 := Lib.hid (rtail_front HR.out (x := t / 256 / 256 ^ k % 256) (by rw [HN.out]) hs3 hk3 hb3)
                   have HB3 := Lib.hid ((HB.out.alloc _).keepS hk3 (by have := HB.out.lt; simp [blks]; omega))
                   clear hs3 hk3 hb3)
      go_roundw
      case rel => exact ⟨k + 1, A2, c2, by omega, by go_num, by rw [← hstep.out, HN.out], by rw [Nat.add_comm], by have h := HS3.out; rw [Nat.add_comm 1 k] at h; exact h, HB3.out⟩
      case measure => simp [intOf]; omega
    · obtain rfl : k = c := by omega
      have HS0 := Lib.hid HR.out.1
      have HV0 := Lib.hid (Keep.refl wr.heap.size [] wr)
      go_wp2_with fail
      obtain ⟨w4, rfl⟩ : ∃ x, x = wr := ⟨_, rfl⟩
      go_loopw [6, 9, 10] (fun l j _ wr => ∃ (m : Nat) (A : Option Addr) (cp : Nat), m ≤ f ∧ j = .int .i64 m ∧ l = .slice A (k + m) cp ∧ RTail w wr A (k + m) cp (be (t / 256) k ++ fineB t m) ∧ Blk wr w.heap.size 24 #[.int .i64 k, .int .i64 f]) (fun _ j _ _ => f - (intOf j).toNat)
      case atStart => exact ⟨0, A, cp, Nat.zero_le _, rfl, rfl, by rw [show fineB t 0 = [] from rfl, List.append_nil]; exact HR.out, HB.out⟩
      case round =>
        obtain ⟨m, A', cp', hmf, rfl, rfl, hr, hb⟩ := hrel
        have HR' := Lib.hid hr
        have HB' := Lib.hid hb
        obtain ⟨g0, g1⟩ := fcell hb
        clear hr hb d0 d1
        by_cases hlt2 : m < f
        · have hkx : (m : Int) < (f : Int) := by omega
          by_cases h0 : m = 0
          · subst h0
            go_wp2_with (at_builtin
                         refine wpList_app1 _ rfl (.tmp 54) (.tmp 57) 25 rfl 5 i0 _ 1 1 Try.underlying25 hi0 hz0 hz1 hz2 rfl (by omega) A' (k + 0) cp' _ rfl (by exact HR'.out.1.alloc _) _ _ _ rfl (by exact Blk.new _ _ _) rfl rfl (by omega) (by omega) ?_
                         intro A2 c2 w3 hs3 hk3 hb3
                         have HS3 := Lib.hid (rtail_back HR'.out (x := t % 256) rfl hs3 hk3 hb3)
                         have HB3 := Lib.hid ((HB'.out.alloc _).keepS hk3 (fun hx => by have h1 := HR'.out.2.2 _ hx; have h2 := HR'.out.1.blk hx; exact absurd (HR'.out.1.ne_blk HB'.out (by decide)) (fun h => h hx)))
                         clear hs3 hk3 hb3)
            go_roundw
            case rel => exact ⟨1, A2, c2, by omega, by go_num, rfl, by have h := HS3.out; rw [List.append_assoc] at h; exact h, HB3.out⟩
            case measure => simp [intOf]; omega
          · have hm0' : ¬ (m : Int) = 0 := by omega
            go_wp2_with (at_builtin
                         refine wpList_app1 _ rfl (.tmp 54) (.tmp 57) 25 rfl 5 i0 _ 1 1 Try.underlying25 hi0 hz0 hz1 hz2 rfl (by omega) A' (k + m) cp' _ rfl (by exact HR'.out.1.alloc _) _ _ _ rfl (by exact Blk.new _ _ _) rfl rfl (by omega) (by omega) ?_
                         intro A2 c2 w3 hs3 hk3 hb3
                         have HS3 := Lib.hid (rtail_back HR'.out (x := 0) rfl hs3 hk3 hb3)
                         have HB3 := Lib.hid ((HB'.out.alloc _).keepS hk3 (fun hx => absurd (HR'.out.1.ne_blk HB'.out (by decide)) (fun h => h hx)))
                         clear hs3 hk3 hb3)
            go_roundw
            case rel => exact ⟨m + 1, A2, c2, by omega, by go_num, rfl, by have h := HS3.out; rw [List.append_assoc] at h; rw [fineB_succ, if_neg h0]; exact h, HB3.out⟩
            case measure => simp [intOf]; omega
        · obtain rfl : m = f := by omega
          go_wp2_with (at_builtin
                       refine wpList_appV _ rfl (.tmp 68) (.tmp 69) 25 rfl 5 i0 _ 1 1 Try.underlying25 hi0 hz0 hz1 hz2 rfl (by omega) (some ⟨wr.heap.size, 0, none⟩) 1 1 _ rfl (World.ownsRow_lit wr _ 1 (Nat.zero_le _) (by unfold maxLen; omega) rfl) A' (k + m) cp' (octs (be (t / 256) k ++ fineB t m)) rfl ((HR'.out.1.alloc _).vw (by omega)) (oct_one _) (by omega) (by omega) ?_
                       intro A2 c2 w3 hs3 hk3 hb3
                       have HS3 := Lib.hid (rtail_front HR'.out (x := 16 + 4 * ((k : Int) - 1) + (m : Int)) rfl hs3 hk3 hb3)
                       clear hs3 hk3 hb3)
          go_ret2
          exact ⟨A2, _, c2, rfl, by rw [HE.out]; exact HS3.out.1.vw (by omega), HS3.out.2.1, HS3.out.2.2, HS3.out.1.cap.1, HS3.out.1.cap.2⟩
theorem renc_any (w : World) (t C F z : Int) (L : List Int) (hz : encE t C F = z) (hL : encL t C F = L) : Calls Try.prog 9 #[.int .i64 t, fagg C F] w (CEPost w L z) := by
  cases hok : okF C F with
  | false =>
    have h1 : chkF C F t = 1 := by unfold chkF; rw [hok]; rfl
    obtain ⟨e, e2⟩ := chk_ne (C := C) (F := F) (t := t) (by omega)
    rw [e, h1] at hz; rw [e2] at hL
    subst hz; subst hL
    exact renc_bad w t C F hok
  | true =>
    by_cases ht : t < 0 ∨ 1099511627776 < t
    · have h1 : chkF C F t = 10 := by unfold chkF; rw [hok, if_pos rfl, if_pos ht]
      obtain ⟨e, e2⟩ := chk_ne (C := C) (F := F) (t := t) (by omega)
      rw [e, h1] at hz; rw [e2] at hL
      subst hz; subst hL
      by_cases h0 : t < 0
      · exact renc_neg w t C F hok h0
      · exact renc_big w t C F hok (by omega) (by omega)
    · have h0 : chkF C F t = 0 := by unfold chkF; rw [hok, if_pos rfl, if_neg ht]
      have hC := (okF_iff C F).1 hok
      obtain ⟨c, rfl⟩ : ∃ c : Nat, C = c := ⟨C.toNat, by omega⟩
      obtain ⟨f, rfl⟩ : ∃ f : Nat, F = f := ⟨F.toNat, by omega⟩
      by_cases hlt : t / 256 < capS (c : Int)
      · have e : encE t c f = 0 := by unfold encE; rw [if_pos h0, if_pos hlt]
        have e2 : encL t c f = encB t c f := by unfold encL; rw [if_pos e]
        rw [e] at hz; rw [e2] at hL
        subst hz; subst hL
        exact renc_yes w t c f _ _ hok (by omega) (by omega) rfl rfl hlt
      · have e : encE t c f = 10 := by unfold encE; rw [if_pos h0, if_neg hlt]
        have e2 : encL t c f = [] := by unfold encL; rw [if_neg (by rw [e]; decide)]
        rw [e] at hz; rw [e2] at hL
        subst hz; subst hL
        exact renc_cap w t c f _ _ hok (by omega) (by omega) rfl rfl (by omega)
end Go.Proofs.Ytnneanbboooneaa
