/- Back: the walk. -/
import Derived.Test.YtnneanbboooneaaCLawC
namespace Go.Proofs.Ytnneanbboooneaa
set_option linter.unusedVariables false
set_option linter.unusedSimpArgs false
open Go.RowKit
set_option maxHeartbeats 4000000 in
theorem back_any (w : World) (t C F : Int) (X : Option Addr) (m c : Nat) (T : List Int) (hO : Oct T) (hv : Vw w X m 1 (octs T)) : Calls Try.prog 5 #[.int .i64 t, fagg C F, .slice X m c] w (LawPost w) := by
  obtain ⟨i0, hi0, hz0, hz1, hz2⟩ := info_parts infoU8
  have B0 := Lib.hid (Blk.new w 23 #[.int .i64 C, .int .i64 F])
  have HO := Lib.hid hO
  have HL : Hid (m = T.length) := Lib.hid (by have := hv.1; simp [octs] at this; omega)
  have V0 := Lib.hid (hv.alloc (.cells #[.int .i64 C, .int .i64 F] 23))
  clear hO hv
  by_cases hb : 100 < m
  · have hb' : (100 : Int) < (m : Int) := by omega
    go_enter Try.func5, Try.ntmps5
    go_wp2_with fail
    refine (alive_any _).mono ?_
    rintro e w1 ⟨rfl, hk⟩
    have K1 := Lib.hid ((keep_w w _).chain0 (Nat.le_refl _) hk)
    clear hk
    go_wp2_with fail
    go_ret
    exact ⟨rfl, K1.out⟩
  have hb' : (m : Int) ≤ 100 := by omega
  by_cases hE : encE t C F = 0
  case neg =>
    obtain ⟨z, hz⟩ : ∃ z, encE t C F = z := ⟨_, rfl⟩
    have HZ := Lib.hid hz
    have HLL := Lib.hid (encL_ne hE)
    rw [hz] at hE
    clear hz
    go_enter Try.func5, Try.ntmps5
    go_wp2_with fail
    refine (cenc_any _ t C F z [] HZ.out HLL.out).mono ?_
    rintro e w1 ⟨A1, n1, c1, rfl, hv, hk, _, _, _⟩
    have K1 := Lib.hid ((keep_w w _).chain0 (Nat.le_refl _) hk)
    have hn : n1 = 0 := by have := hv.1; simp at this; omega
    subst hn
    clear hk hv
    go_wp2_with fail
    refine (alive_any _).mono ?_
    rintro e w2 ⟨rfl, hk⟩
    have K2 := Lib.hid (K1.out.chain0 (Nat.le_refl _) hk)
    clear hk
    go_wp2_with fail
    go_ret
    exact ⟨rfl, K2.out⟩
  obtain ⟨E, hEE⟩ : ∃ E, encB t C F = E := ⟨_, rfl⟩
  obtain ⟨x, hx⟩ : ∃ x, cutT t F = x := ⟨_, rfl⟩
  obtain ⟨hok, _, ht0, ht1, _⟩ := encE_zero hE
  have hC := (okF_iff C F).1 hok
  obtain ⟨q1, q2, q3, q4⟩ := hC
  have hbd := cutT_bd t F
  have hlen := encB_len t C F
  have hoct := encB_oct (t := t) hok
  have hrd := round_enc hE
  have hdd := dec_enc hE T
  have hsz : sizeF C F = 1 + C + F := by unfold sizeF; rw [if_pos hok]
  have hel := encL_zero hE
  rw [hEE] at hlen hoct hdd hel
  rw [hx] at hbd hrd hdd
  obtain ⟨x1, x2, x3⟩ := hbd
  have x3' : x ≤ t ∧ t - x < 256 := ⟨x1, x2⟩
  have x0 : -256 ≤ x := by omega
  have HEE := Lib.hid (And.intro hE hel)
  have HRD := Lib.hid hrd
  have HDD := Lib.hid hdd
  have HSZ := Lib.hid hsz
  have HOO : Hid (Oct (E ++ T)) := Lib.hid (fun y hy => (List.mem_append.1 hy).elim (hoct y) (HO.out y))
  have HLE : Hid ((E.length : Int) = 1 + C + F) := Lib.hid (by rw [hlen]; omega)
  clear hE hEE hx hok hlen hoct hrd hdd hsz hel
  go_enter Try.func5, Try.ntmps5
  go_wp2_with fail
  refine (cenc_any _ t C F 0 E HEE.out.1 HEE.out.2).mono ?_
  rintro e w1 ⟨A1, n1, c1, rfl, hv, hk, _, hnc1, _⟩
  have K1 := Lib.hid ((keep_w w _).chain0 (Nat.le_refl _) hk)
  have B1 := Lib.hid (B0.out.keepS hk (by simp))
  have V1 := Lib.hid (V0.out.keep0 hk)
  have W1 := Lib.hid hv
  have hn1 : (n1 : Int) = 1 + C + F := by rw [← HLE.out]; have := hv.1; simp [octs] at this; omega
  have hn8 : n1 ≤ 8 := by omega
  clear hk hv B0 V0
  go_wp2_with (first
    | (at_builtin
       refine wpList_appV _ rfl (.tmp 34) (.tmp 35) 25 rfl 5 i0 _ 1 1 Try.underlying25 hi0 hz0 hz1 hz2 rfl (by omega) (some ⟨w1.heap.size, 0, none⟩) 0 0 [] rfl (World.ownsRow_made w1 #[] 0 (Nat.zero_le _) (by unfold maxLen; omega) rfl) A1 n1 c1 (octs E) rfl (W1.out.alloc _) (oct_one _) (by omega) (by omega) ?_
       intro A2 c2 w2 hs3 hk3 hb3
       have S2 : Hid (Sl w2 5 1 A2 n1 c2 (octs E)) := Lib.hid (by simpa using hs3)
       have HB2 : Hid (∀ g, g ∈ blks A2 → w1.heap.size ≤ g) := Lib.hid (fun g hg => by
         rcases hb3 g hg with h | h
         · simp [blks] at h; omega
         · simp at h; omega)
       have V2 := Lib.hid ((V1.out.alloc (.cells #[] 5)).keepP hk3 (fun hm g hg => by have := vw_lt V1.out g hg hm; simp [blks]; omega))
       have B2 := Lib.hid ((B1.out.alloc (.cells #[] 5)).keepS hk3 (by have := B1.out.lt; simp [blks]; omega))
       have K2 : Hid (Keep w.heap.size [] w w2) := Lib.hid ((K1.out.alloc K1.out.size _).chain (Nat.le_refl _) hk3 (fun x hx => by have := K1.out.size; simp [blks] at hx; omega))
       clear hs3 hk3 hb3)
    | (at_builtin
       refine wpList_appV _ rfl (.tmp 36) (.tmp 37) 25 rfl 5 i0 _ 1 1 Try.underlying25 hi0 hz0 hz1 hz2 rfl (by omega) A2 n1 c2 (octs E) rfl (by exact S2.out) X m c (octs T) rfl V2.out (oct_one _) (by omega) (by omega) ?_
       intro A3 c3 w3 hs3 hk3 hb3
       have S3 : Hid (Sl w3 5 1 A3 (n1 + m) c3 (octs (E ++ T))) := Lib.hid (by simpa [octs] using hs3)
       have B3 := Lib.hid (B2.out.keepS hk3 (fun hm => by have h1 := HB2.out _ hm; have h2 := B1.out.lt; omega))
       have K3 : Hid (Keep w.heap.size [] w w3) := Lib.hid (K2.out.chain (Nat.le_refl _) hk3 (fun x hx => by have h1 := HB2.out _ hx; have h2 := B1.out.lt; omega))
       clear hs3 hk3 hb3))
  refine (cdec_any _ A3 (n1 + m) c3 (E ++ T) _ HDD.out HOO.out S3.out.cap.1 S3.out.cap.2 (by omega) (S3.out.vw (by omega))).mono ?_
  rintro e w4 ⟨rfl, hk⟩
  have K4 := Lib.hid ((K3.out.chain0 (Nat.le_refl _) hk).alloc (K3.out.chain0 (Nat.le_refl _) hk).size (.cells #[.int .i64 C, .int .i64 F] 23))
  have B4 := Lib.hid ((B3.out.keepS hk (by simp)).alloc (.cells #[.int .i64 C, .int .i64 F] 23))
  have D4 := Lib.hid (Blk.new w4 23 #[.int .i64 C, .int .i64 F])
  obtain ⟨d0, d1⟩ := fcell B4.out
  clear hk
  go_wp2_with fail
  refine (cround_any _ t C F x 0 HRD.out).mono ?_
  rintro e w5 ⟨rfl, hk⟩
  have K5 := Lib.hid (K4.out.chain0 (Nat.le_refl _) hk)
  have B5 := Lib.hid (B4.out.keepS hk (by simp))
  have D5 := Lib.hid (D4.out.keepS hk (by simp))
  clear hk d0 d1 B4 D4
  obtain ⟨d0, d1⟩ := fcell B5.out
  obtain ⟨e0, e1⟩ := fcell D5.out
  go_wp2_with fail
  refine (csize_any _ C F (1 + C + F) HSZ.out).mono ?_
  rintro e w6 ⟨rfl, hk⟩
  have K6 := Lib.hid (K5.out.chain0 (Nat.le_refl _) hk)
  have B6 := Lib.hid (B5.out.keepS hk (by simp))
  clear hk d0 d1 e0 e1 B5 D5
  obtain ⟨d0, d1⟩ := fcell B6.out
  by_cases hF : F = 0
  · subst hF
    go_wp2_with fail
    refine (alive_any _).mono ?_
    rintro e w7 ⟨rfl, hk⟩
    have K7 := Lib.hid (K6.out.chain0 (Nat.le_refl _) hk)
    clear hk
    go_wp2_with fail
    go_ret
    exact ⟨rfl, K7.out⟩
  · have hxt : x = t := by omega
    subst hxt
    go_wp2_with fail
    refine (alive_any _).mono ?_
    rintro e w7 ⟨rfl, hk⟩
    have K7 := Lib.hid (K6.out.chain0 (Nat.le_refl _) hk)
    clear hk
    go_wp2_with fail
    go_ret
    exact ⟨rfl, K7.out⟩
end Go.Proofs.Ytnneanbboooneaa
