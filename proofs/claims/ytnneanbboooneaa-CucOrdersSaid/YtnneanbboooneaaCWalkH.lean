/- The reference's Decode. -/
import Derived.Test.YtnneanbboooneaaCDec
namespace Go.Proofs.Ytnneanbboooneaa
set_option linter.unusedVariables false
set_option linter.unusedSimpArgs false
open Go.RowKit
set_option maxHeartbeats 1000000 in
theorem rdec_nil (w : World) (X : Option Addr) (c : Nat) : Calls Try.prog 18 #[.slice X 0 c] w (DPost w (decP [])) := by
  go_enter Try.func18, Try.ntmps18
  go_wp2_with fail
  refine bodyPost_ret (v := .tuple #[.int .i64 0, fagg 0 0, .int .i64 0, .int .i64 3]) (by simp [results, Try.results18, go_sem]) rfl ⟨rfl, ?_⟩
  repeat (first | exact (Keep.refl _ _ w).alloc (Nat.le_refl _) _ | refine Keep.setN ?_ (Nat.le_refl _))
set_option maxHeartbeats 1000000 in
theorem rdec_bad (w : World) (b o m c : Nat) (x : Int) (R : List Int) (hm : 0 < m) (hmc : m ≤ c) (hv : Vw w (some ⟨b, o, none⟩) m 1 (octs (x :: R))) (hx : x < 16 ∨ 31 < x) : Calls Try.prog 18 #[.slice (some ⟨b, o, none⟩) m c] w (DPost w (decP (x :: R))) := by
  have HD : Hid (decP (x :: R) = ⟨0, 0, 0, 0, 4⟩) := Lib.hid (if_pos hx)
  have hm1 : (1 : Int) ≤ (m : Int) := by omega
  have hm2 : (m : Int) ≤ (c : Int) := by omega
  have c0 := vw_head (hv.alloc (.cells #[.int .i64 0, .int .i64 0] 24))
  by_cases h1 : x < 16
  · clear hx
    go_enter Try.func18, Try.ntmps18
    go_wp2_with fail
    rw [HD.out]
    refine bodyPost_ret (v := .tuple #[.int .i64 0, fagg 0 0, .int .i64 0, .int .i64 4]) (by simp [results, Try.results18, go_sem]) rfl ⟨rfl, ?_⟩
    repeat (first | exact (Keep.refl _ _ w).alloc (Nat.le_refl _) _ | refine Keep.setN ?_ (Nat.le_refl _))
  · have h2 : 31 < x := by omega
    clear hx
    go_enter Try.func18, Try.ntmps18
    go_wp2_with fail
    rw [HD.out]
    refine bodyPost_ret (v := .tuple #[.int .i64 0, fagg 0 0, .int .i64 0, .int .i64 4]) (by simp [results, Try.results18, go_sem]) rfl ⟨rfl, ?_⟩
    repeat (first | exact (Keep.refl _ _ w).alloc (Nat.le_refl _) _ | refine Keep.setN ?_ (Nat.le_refl _))
set_option maxHeartbeats 4000000 in
theorem rdec_ok (w : World) (b o m c : Nat) (x : Int) (R : List Int) (C F : Nat) (hO : Oct R) (hm : m = R.length + 1) (hmc : m ≤ c) (hcm : c ≤ maxLen) (hmb : m ≤ 140737488355328) (hv : Vw w (some ⟨b, o, none⟩) m 1 (octs (x :: R))) (hx0 : 16 ≤ x) (hx1 : x ≤ 31)
    (hC : cOf x = C) (hF : fOf x = F) : Calls Try.prog 18 #[.slice (some ⟨b, o, none⟩) m c] w (DPost w (decP (x :: R))) := by
  have hok := okF_of hx0 hx1
  have hsz := sizeF_of hx0 hx1
  have hbd := cOf_bd hx0 hx1
  rw [hC, hF] at hok hsz hbd
  obtain ⟨hc1, hc4, hf3⟩ := hbd
  have hm1 : (1 : Int) ≤ (m : Int) := by omega
  have hm2 : (m : Int) ≤ (c : Int) := by omega
  have hm3 : (c : Int) ≤ 9223372036854775807 := by unfold maxLen at hcm; omega
  have hs8 : IntKind.u8.wrap (x - 16) = x - 16 := by rw [u8_wrap]; omega
  have hq : (x - 16).tdiv 4 = (C : Int) - 1 := by rw [Int.tdiv_eq_ediv_of_nonneg (by omega), ← hC]; unfold cOf; omega
  have hr : x.tmod 4 = (F : Int) := by rw [Int.tmod_eq_emod_of_nonneg (by omega), ← hF]; unfold fOf; omega
  have hcc : (C : Int) - 1 + 1 = C := by omega
  have w1 := i64_in (x - 16) (by omega) (by omega)
  have w2 := i64_in (C : Int) (by omega) (by omega)
  have w4 := i64_in ((C : Int) - 1) (by omega) (by omega)
  have w5 : IntKind.i64.wrap ((C : Int) - 1 + 1) = C := by rw [hcc]; exact w2
  have w3 := i64_in x (by omega) (by omega)
  have HSZ := Lib.hid hsz
  have HO := Lib.hid hO
  have HLT := Lib.hid (vw_lt hv)
  have D0 := Lib.hid (DC.start (t := 24) hv)
  have DX := Lib.hid (D0.out.drewC.localC HLT.out C F)
  have c0 := vw_head D0.out.vw
  have c1 := vw_head DX.out.dc.vw
  have HCF := Lib.hid (And.intro hC hF)
  clear hsz hO hok hv hC hF
  go_enter Try.func18, Try.ntmps18
  go_wp2_with fail
  go_region_held3 (fun w' => w'.cell? ⟨b, o, none⟩ = some (.int .u8 x)) (first | exact c0 | exact c1 | exact vw_head (D0.out.drewC.localC HLT.out 0 0).dc.vw) (fail)
  have DY : Hid (DV w ((w.alloc (.cells #[.int .i64 0, .int .i64 0] 24)).alloc (.cells #[.int .i64 (C : Int), .int .i64 (F : Int)] 24)).drew 24 (some ⟨b, o, none⟩) m (x :: R) (w.heap.size + 1) C F) := Lib.hid (by
    have h := (D0.out.localC HLT.out C F).drewV
    simpa using h)
  obtain ⟨v, hv⟩ : ∃ v, v = w.heap.size + 1 := ⟨_, rfl⟩
  obtain ⟨W, hW⟩ : ∃ W, W = ((w.alloc (.cells #[.int .i64 0, .int .i64 0] 24)).alloc (.cells #[.int .i64 (C : Int), .int .i64 (F : Int)] 24)).drew := ⟨_, rfl⟩
  rw [← hW, ← hv] at DY
  rw [← hW, ← hv]
  clear hW hv c0 c1 DX D0 hs8 hq hr w1 w2 w3 w4 w5
  obtain ⟨d0, d1⟩ := fcell DY.out.loc
  by_cases hlen : R.length < C + F
  · have HD : Hid (decP (x :: R) = ⟨0, 0, 0, 0, 3⟩) := Lib.hid (decP_short hx0 hx1 (by rw [HCF.out.1, HCF.out.2]; exact hlen))
    have hl : (m : Int) < 1 + (C : Int) + (F : Int) := by omega
    go_wp2_with fail
    refine (rsize_any _ C F (1 + (C : Int) + (F : Int)) HSZ.out).mono ?_
    rintro e w2 ⟨rfl, hk⟩
    have D2 := Lib.hid (DY.out.next hk)
    clear hk d0 d1
    obtain ⟨r0, r1⟩ := fcell D2.out.dc.res
    have g0 := D2.out.dc.res.frozen 0
    have g1 := D2.out.dc.res.frozen 1
    go_wp2_with fail
    rw [HD.out]
    refine bodyPost_ret (v := .tuple #[.int .i64 0, fagg 0 0, .int .i64 0, .int .i64 3]) (by simp [results, Try.results18, go_sem, r0, r1]) rfl ⟨rfl, ?_⟩
    repeat (first | exact D2.out.dc.keep | refine Keep.setN ?_ (Nat.le_refl _))
  · have hl : 1 + (C : Int) + (F : Int) ≤ (m : Int) := by omega
    have HL : Hid (¬ R.length < cOf x + fOf x) := Lib.hid (by rw [HCF.out.1, HCF.out.2]; exact hlen)
    go_wp2_with fail
    refine (rsize_any _ C F (1 + (C : Int) + (F : Int)) HSZ.out).mono ?_
    rintro e w2 ⟨rfl, hk⟩
    have D2 := Lib.hid (DY.out.next hk)
    clear hk d0 d1
    obtain ⟨d0, d1⟩ := fcell D2.out.loc
    obtain ⟨B, hB⟩ : ∃ B, beVal (R.take C) = B := ⟨_, rfl⟩
    obtain ⟨Lf, hLf⟩ : ∃ Lf, (R.drop C).take F = Lf := ⟨_, rfl⟩
    have hbb : ∀ k, k ≤ C → 0 ≤ beVal (R.take k) ∧ beVal (R.take k) < 4294967296 := fun k hk => by
      have h := beVal_bd k (R.take k) (oct_take HO.out k) (by simp; omega)
      refine ⟨h.1, Int.lt_of_lt_of_le h.2 ?_⟩
      have : k = 0 ∨ k = 1 ∨ k = 2 ∨ k = 3 ∨ k = 4 := by omega
      rcases this with h | h | h | h | h <;> rw [h] <;> decide
    have HBB := Lib.hid hbb
    have hLl : Lf.length = F := by rw [← hLf]; simp; omega
    have HLF : Hid (fineL x R = Lf) := Lib.hid (by unfold fineL; rw [HCF.out.1, HCF.out.2]; exact hLf)
    have HBT : Hid (decT x R = B * 256 + Lf.headD 0) := Lib.hid (by unfold decT; rw [HLF.out, HCF.out.1, hB])
    have HOf : Hid (Oct Lf) := Lib.hid (by rw [← hLf]; exact oct_take (oct_drop HO.out _) _)
    have HLC : Hid (∀ k y, Lf[k]? = some y → R[C + k]? = some y) := Lib.hid (fun k y h => by
      have hk := (List.getElem?_eq_some_iff.1 h).1
      rw [← hLf, List.getElem?_take] at h
      split at h
      · rw [List.getElem?_drop] at h; exact h
      · cases h)
    have HB := Lib.hid hB
    clear hbb hLf hB
    go_wp2_with fail
    go_loop [7, 8] (fun t j => ∃ (k : Nat) (τ : Int), k ≤ C ∧ j = .int .i64 k ∧ t = .int .i64 τ ∧ beVal (R.take k) = τ) (fun _ j => C - (intOf j).toNat)
    case atStart => exact ⟨0, 0, Nat.zero_le _, rfl, rfl, rfl⟩
    case round =>
      obtain ⟨k, τ, hkc, rfl, rfl, hτ⟩ := hrel
      have hb := HBB.out k hkc
      rw [hτ] at hb
      obtain ⟨hb0, hb1⟩ := hb
      have HT := Lib.hid hτ
      clear hτ
      by_cases hlt : k < C
      · have hkx : (k : Int) < (C : Int) := by omega
        obtain ⟨y, hy⟩ : ∃ y, R[k]? = some y := ⟨_, List.getElem?_eq_getElem (by omega)⟩
        have hyo := HO.out y (List.mem_of_getElem? hy)
        obtain ⟨hy0, hy1⟩ := hyo
        have c1 : w2.cell? ⟨b, o + (1 + k), none⟩ = some (.int .u8 y) := by
          have h := vw_nth (k := k + 1) (x := y) D2.out.dc.vw (by simpa using hy)
          rw [Nat.add_comm 1 k]; exact h
        have HN := Lib.hid (beVal_next hy)
        clear hy
        go_wp2_with fail
        go_round
        case rel => exact ⟨k + 1, τ * 256 + y, by omega, by go_num, rfl, by rw [HN.out, HT.out]⟩
        case measure => simp [intOf]; omega
      · obtain rfl : k = C := by omega
        obtain rfl : τ = B := by rw [← HT.out, HB.out]
        clear HBB
        go_wp2_with fail
        go_loop [7, 9, 10] (fun t j _ => ∃ (q : Nat) (σ : Int), q ≤ F ∧ j = .int .i64 q ∧ t = .int .i64 σ ∧ (σ = if q = 0 then τ * 256 else τ * 256 + Lf.headD 0) ∧ (∀ z ∈ (Lf.take q).drop 1, z = 0)) (fun _ j _ => F - (intOf j).toNat)
        case atStart => exact ⟨0, τ * 256, Nat.zero_le _, rfl, rfl, rfl, by simp⟩
        case round =>
          obtain ⟨q, σ, hqf, rfl, rfl, hσ, hall⟩ := hrel
          have HT := Lib.hid hσ
          have HA := Lib.hid hall
          clear hσ hall
          by_cases hlt : q < F
          · have hkx : (q : Int) < (F : Int) := by omega
            obtain ⟨y, hy⟩ : ∃ y, Lf[q]? = some y := ⟨_, List.getElem?_eq_getElem (by omega)⟩
            have hyo := HOf.out y (List.mem_of_getElem? hy)
            obtain ⟨hy0, hy1⟩ := hyo
            have HY := Lib.hid hy
            have c1 : w2.cell? ⟨b, o + (1 + k + q), none⟩ = some (.int .u8 y) := by
              have h := vw_nth (k := k + q + 1) (x := y) D2.out.dc.vw (by simpa using HLC.out q y hy)
              rw [show 1 + k + q = k + q + 1 from by omega]; exact h
            clear hy
            by_cases h0 : q = 0
            · subst h0
              have hτ0 : σ = τ * 256 := HT.out
              subst hτ0
              rw [Nat.add_zero] at c1
              go_wp2_with fail
              go_round
              case rel => exact ⟨1, τ * 256 + y, by omega, by go_num, rfl, by rw [headD_some HY.out]; rfl, take_one_drop _⟩
              case measure => simp [intOf]; omega
            · have hk0 : ¬ (q : Int) = 0 := by omega
              by_cases hyz : y = 0
              · subst hyz
                go_wp2_with fail
                go_round
                case rel => exact ⟨q + 1, σ, by omega, by go_num, rfl, by rw [HT.out, if_neg h0, if_neg (by omega)], take_next HY.out (by omega) rfl HA.out⟩
                case measure => simp [intOf]; omega
              · have HD : Hid (decP (x :: R) = ⟨0, 0, 0, 0, 4⟩) := Lib.hid (decP_form hx0 hx1 HL.out (by rw [HLF.out]; exact fun h => hyz (h y (mem_drop1 HY.out (by omega)))))
                obtain ⟨r0, r1⟩ := fcell D2.out.dc.res
                have g0 := D2.out.dc.res.frozen 0
                have g1 := D2.out.dc.res.frozen 1
                go_wp2_with fail
                rw [HD.out]
                refine bodyPost_ret (v := .tuple #[.int .i64 0, fagg 0 0, .int .i64 0, .int .i64 4]) (by simp [results, Try.results18, go_sem, r0, r1]) rfl ⟨rfl, ?_⟩
                repeat (first | exact D2.out.dc.keep | refine Keep.setN ?_ (Nat.le_refl _))
          · obtain rfl : q = F := by omega
            have HD : Hid (decP (x :: R) = ⟨σ, (k : Int), (q : Int), 1 + (k : Int) + (q : Int), 0⟩) := Lib.hid (by
              have hz := HA.out
              rw [List.take_of_length_le (by omega)] at hz
              rw [decP_fine hx0 hx1 HL.out (by rw [HLF.out]; exact hz), HBT.out, HCF.out.1, HCF.out.2, HT.out]
              by_cases h0 : q = 0
              · rw [if_pos h0]
                have : Lf = [] := List.eq_nil_of_length_eq_zero (by omega)
                rw [this]; simp
              · rw [if_neg h0])
            have s0 := fcell D2.out.loc
            obtain ⟨r0, r1⟩ := fcell D2.out.dc.res
            go_wp2_with fail
            go_region_held3 (fun w' => w'.cell? ⟨v, 0, none⟩ = some (.int .i64 (k : Int)) ∧ w'.cell? ⟨v, 1, none⟩ = some (.int .i64 (q : Int)))
              (first | exact s0 | exact s9 | exact s10)
              (first
                | (go_at_call 15
                   refine (rsize_any _ k q (1 + (k : Int) + (q : Int)) HSZ.out).mono ?_
                   rintro e w9 ⟨rfl, hk⟩
                   have D9 := Lib.hid (D2.out.next hk.undrew)
                   have s9 := fcell D9.out.loc
                   have g0 := D9.out.dc.res.frozen 0
                   have g1 := D9.out.dc.res.frozen 1
                   have qq := fcell D9.out.dc.res
                   obtain ⟨q0, q1⟩ := qq
                   have s10 := fcell ((D9.out.loc.far (p := ⟨w.heap.size, 0, none⟩) (by have := D9.out.hv; simp only; omega) (.int .i64 (k : Int))).far (p := ⟨w.heap.size, 1, none⟩) (by have := D9.out.hv; simp only; omega) (.int .i64 (q : Int)))
                   clear hk))
            go_wp2_with fail
            rw [HD.out]
            refine bodyPost_ret (v := .tuple #[.int .i64 σ, fagg k q, .int .i64 (1 + (k : Int) + (q : Int)), .int .i64 0]) (by simp [results, Try.results18, go_sem, q0, q1]) rfl ⟨rfl, ?_⟩
            repeat (first | exact D9.out.dc.keep | refine Keep.setN ?_ (Nat.le_refl _))
end Go.Proofs.Ytnneanbboooneaa
