/- Forms, Orders, Back: the walks. -/
import Derived.Test.YtnneanbboooneaaCMath
namespace Go.Proofs.Ytnneanbboooneaa
set_option linter.unusedVariables false
set_option linter.unusedSimpArgs false
open Go.RowKit
set_option maxHeartbeats 4000000 in
theorem forms_any (w : World) (X : Option Addr) (m c : Nat) (L : List Int) (hO : Oct L) (hmc : m ≤ c) (hcm : c ≤ maxLen) (hv : Vw w X m 1 (octs L)) : Calls Try.prog 6 #[.slice X m c] w (LawPost w) := by
  have hl : m = L.length := by have := hv.1; simp [octs] at this; omega
  obtain ⟨d, hd⟩ : ∃ d, decP L = d := ⟨_, rfl⟩
  have hcase := enc_dec hO hd
  have HD := Lib.hid hd
  have HO := Lib.hid hO
  have V0 := Lib.hid hv
  have HL := Lib.hid hl
  clear hd hO hv hl
  by_cases hb : 100 < m
  · have hb' : (100 : Int) < (m : Int) := by omega
    go_enter Try.func6, Try.ntmps6
    go_wp2_with fail
    refine (alive_any _).mono ?_
    rintro e w1 ⟨rfl, hk⟩
    have K1 := Lib.hid hk
    clear hk
    go_wp2_with fail
    go_ret
    exact ⟨rfl, K1.out⟩
  have hb' : (m : Int) ≤ 100 := by omega
  rcases hcase with ⟨hz, he⟩ | ⟨he, hn1, hn2, hE, hB⟩
  · obtain ⟨k, hk⟩ : ∃ k, d.e = k := ⟨_, rfl⟩
    rw [hk] at hz he
    subst hz
    go_enter Try.func6, Try.ntmps6
    go_wp2_with fail
    refine (cdec_any _ X m c L _ HD.out HO.out hmc hcm (by omega) V0.out).mono ?_
    rintro e w1 ⟨rfl, hk⟩
    have K1 := Lib.hid (hk.alloc hk.size (.cells #[.int .i64 0, .int .i64 0] 23))
    obtain ⟨d0, d1⟩ := fcell (Blk.new w1 23 #[.int .i64 0, .int .i64 0])
    clear hk
    go_wp2_with fail
    refine (alive_any _).mono ?_
    rintro e w3 ⟨rfl, hk⟩
    have K3 := Lib.hid (K1.out.chain0 (Nat.le_refl _) hk)
    clear hk
    go_wp2_with fail
    go_ret
    exact ⟨rfl, K3.out⟩
  · obtain ⟨dt, dC, dF, dn, de⟩ := d
    simp only at he hn1 hn2 hE hB
    subst he
    obtain ⟨N, rfl⟩ : ∃ N : Nat, dn = N := ⟨dn.toNat, by omega⟩
    obtain ⟨b, o, rfl, _⟩ := V0.out.2 (by have := HL.out; omega)
    rw [Int.toNat_natCast] at hB
    have HEL : Hid (encL dt dC dF = L.take N) := Lib.hid ((encL_zero hE).trans hB)
    have HE := Lib.hid hE
    have hnm : (N : Int) ≤ (m : Int) := by have := HL.out; omega
    have hnc : (N : Int) ≤ (c : Int) := by omega
    have hcc : (c : Int) ≤ 9223372036854775807 := by unfold maxLen at hcm; omega
    clear hE hB hn2
    go_enter Try.func6, Try.ntmps6
    go_wp2_with fail
    refine (cdec_any _ _ m c L _ HD.out HO.out hmc hcm (by omega) V0.out).mono ?_
    rintro e w1 ⟨rfl, hk⟩
    have K1 := Lib.hid (hk.alloc hk.size (.cells #[.int .i64 dC, .int .i64 dF] 23))
    have V1 := Lib.hid ((V0.out.keep0 hk).alloc (.cells #[.int .i64 dC, .int .i64 dF] 23))
    obtain ⟨d0, d1⟩ := fcell (Blk.new w1 23 #[.int .i64 dC, .int .i64 dF])
    clear hk
    go_wp2_with fail
    refine (cenc_any _ dt dC dF 0 _ HE.out HEL.out).mono ?_
    rintro e w2 ⟨A2, n2, c2, rfl, hv, hk, _, _, _⟩
    have K2 := Lib.hid (K1.out.chain0 (Nat.le_refl _) hk)
    have V2 := Lib.hid hv
    have V12 : Hid (Vw w2 (some ⟨b, o, none⟩) N 1 (octs (L.take N))) := Lib.hid (by
      have h := (V1.out.keep0 hk).take (k := N) (by omega)
      simpa [octs, List.map_take] using h)
    have s2 := And.intro (cv (c := c2) V2.out.drew) (cv (c := c) V12.out.drew)
    clear hv hk d0 d1
    go_wp2_with fail
    go_region_held3 (fun w' => (convert 25 9 (.slice A2 n2 c2)).run Try.prog w' = .ok (.string (strOfNums (L.take N))) w' ∧ (convert 25 9 (.slice (some ⟨b, o, none⟩) N c)).run Try.prog w' = .ok (.string (strOfNums (L.take N))) w')
      (first | exact s2 | exact s3)
      (first
        | (go_at_call 16
           refine (alive_any _).mono ?_
           rintro e w3 ⟨rfl, hk⟩
           have K3 := Lib.hid (K2.out.chain0 (Nat.le_refl _) hk.undrew)
           have s3 := And.intro (cv (c := c2) (V2.out.keep0 hk.undrew)) (cv (c := c) (V12.out.keep0 hk.undrew))
           clear hk))
    go_wp2_with fail
    go_ret
    exact ⟨rfl, K3.out⟩
set_option maxHeartbeats 4000000 in
theorem orders_any (w : World) (t u C F : Int) : Calls Try.prog 7 #[.int .i64 t, .int .i64 u, fagg C F] w (LawPost w) := by
  obtain ⟨a, e, hr⟩ : ∃ a e, roundP t C F = (a, e) := ⟨_, _, rfl⟩
  obtain ⟨b, g, hs⟩ : ∃ b g, roundP u C F = (b, g) := ⟨_, _, rfl⟩
  have HR := Lib.hid hr
  have HS := Lib.hid hs
  have B0 := Lib.hid (Blk.new w 23 #[.int .i64 C, .int .i64 F])
  by_cases he : e = 0
  case neg =>
    clear hr hs
    go_enter Try.func7, Try.ntmps7
    go_wp2_with fail
    refine (cround_any _ t C F a e HR.out).mono ?_
    rintro e1 w1 ⟨rfl, hk⟩
    have K1 := Lib.hid ((keep_w w _).chain0 (Nat.le_refl _) hk)
    obtain ⟨d0, d1⟩ := fcell (B0.out.keepS hk (by simp))
    clear hk
    go_wp2_with fail
    refine (cround_any _ u C F b g HS.out).mono ?_
    rintro e1 w2 ⟨rfl, hk⟩
    have K2 := Lib.hid (K1.out.chain0 (Nat.le_refl _) hk)
    clear hk
    go_wp2_with fail
    refine (alive_any _).mono ?_
    rintro e1 w3 ⟨rfl, hk⟩
    have K3 := Lib.hid (K2.out.chain0 (Nat.le_refl _) hk)
    clear hk
    go_wp2_with fail
    go_ret
    exact ⟨rfl, K3.out⟩
  subst he
  by_cases hg : g = 0
  case neg =>
    clear hr hs
    go_enter Try.func7, Try.ntmps7
    go_wp2_with fail
    refine (cround_any _ t C F a 0 HR.out).mono ?_
    rintro e1 w1 ⟨rfl, hk⟩
    have K1 := Lib.hid ((keep_w w _).chain0 (Nat.le_refl _) hk)
    obtain ⟨d0, d1⟩ := fcell (B0.out.keepS hk (by simp))
    clear hk
    go_wp2_with fail
    refine (cround_any _ u C F b g HS.out).mono ?_
    rintro e1 w2 ⟨rfl, hk⟩
    have K2 := Lib.hid (K1.out.chain0 (Nat.le_refl _) hk)
    clear hk
    go_wp2_with fail
    refine (alive_any _).mono ?_
    rintro e1 w3 ⟨rfl, hk⟩
    have K3 := Lib.hid (K2.out.chain0 (Nat.le_refl _) hk)
    clear hk
    go_wp2_with fail
    go_ret
    exact ⟨rfl, K3.out⟩
  subst hg
  obtain ⟨r1, r2, r3⟩ := round_facts hr
  obtain ⟨s1, s2, s3⟩ := round_facts hs
  have hmon : ¬ u < t → a ≤ b := fun h => r3 u b (by omega) hs
  obtain ⟨hok, _⟩ := encE_zero r1
  have hlt := enc_lt r1 s1 r2 s2
  have hless : Op.bytesLess (strOfNums (encB a C F)).toList (strOfNums (encB b C F)).toList = decide (a < b) := by
    rw [less_str _ _ (encB_oct hok) (encB_oct hok) (by rw [encB_len, encB_len])]
    exact decide_eq_decide.2 hlt
  have H1 : Hid (encE a C F = 0 ∧ encL a C F = encB a C F) := Lib.hid ⟨r1, encL_zero r1⟩
  have H2 : Hid (encE b C F = 0 ∧ encL b C F = encB b C F) := Lib.hid ⟨s1, encL_zero s1⟩
  obtain ⟨Ea, hEa⟩ : ∃ E, encB a C F = E := ⟨_, rfl⟩
  obtain ⟨Eb, hEb⟩ : ∃ E, encB b C F = E := ⟨_, rfl⟩
  rw [hEa] at H1 hless
  rw [hEb] at H2 hless
  have hcase : (u < t ∨ (¬ u < t ∧ a ≤ b)) := by
    by_cases h : u < t
    · exact .inl h
    · exact .inr ⟨h, hmon h⟩
  clear hr hs r1 r2 r3 s1 s2 s3 hmon hok hlt hEa hEb
  go_enter Try.func7, Try.ntmps7
  go_wp2_with fail
  refine (cround_any _ t C F a 0 HR.out).mono ?_
  rintro e1 w1 ⟨rfl, hk⟩
  have K1 := Lib.hid ((keep_w w _).chain0 (Nat.le_refl _) hk)
  have B1 := Lib.hid (B0.out.keepS hk (by simp))
  obtain ⟨d0, d1⟩ := fcell B1.out
  clear hk B0
  go_wp2_with fail
  refine (cround_any _ u C F b 0 HS.out).mono ?_
  rintro e1 w2 ⟨rfl, hk⟩
  have K2 := Lib.hid (K1.out.chain0 (Nat.le_refl _) hk)
  have B2 := Lib.hid (B1.out.keepS hk (by simp))
  clear hk d0 d1 B1
  obtain ⟨d0, d1⟩ := fcell B2.out
  go_wp2_with fail
  refine (cenc_any _ a C F 0 Ea H1.out.1 H1.out.2).mono ?_
  rintro e1 w3 ⟨A3, n3, c3, rfl, hv, hk, _, _, _⟩
  have K3 := Lib.hid (K2.out.chain0 (Nat.le_refl _) hk)
  have B3 := Lib.hid (B2.out.keepS hk (by simp))
  have V3 := Lib.hid hv
  clear hk d0 d1 B2 hv
  obtain ⟨d0, d1⟩ := fcell B3.out
  go_wp2_with fail
  refine (cenc_any _ b C F 0 Eb H2.out.1 H2.out.2).mono ?_
  rintro e1 w4 ⟨A4, n4, c4, rfl, hv, hk, _, _, _⟩
  have K4 := Lib.hid (K3.out.chain0 (Nat.le_refl _) hk)
  have q1 := cv (c := c3) (V3.out.keep0 hk)
  have q2 := cv (c := c4) hv
  clear hk d0 d1 B3 hv V3
  rcases hcase with hc | ⟨hc, hab⟩
  · go_wp2_with fail
    refine (alive_any _).mono ?_
    rintro e1 w5 ⟨rfl, hk⟩
    have K5 := Lib.hid (K4.out.chain0 (Nat.le_refl _) hk)
    clear hk
    go_wp2_with fail
    go_ret
    exact ⟨rfl, K5.out⟩
  · go_wp2_with fail
    refine (alive_any _).mono ?_
    rintro e1 w5 ⟨rfl, hk⟩
    have K5 := Lib.hid (K4.out.chain0 (Nat.le_refl _) hk)
    clear hk
    go_wp2_with fail
    go_ret
    exact ⟨rfl, K5.out⟩
end Go.Proofs.Ytnneanbboooneaa
