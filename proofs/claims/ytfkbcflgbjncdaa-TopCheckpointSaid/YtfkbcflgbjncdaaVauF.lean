/- The vault: read, of a copy that holds an image. -/
import Derived.Test.YtfkbcflgbjncdaaVauE
import Derived.Deep.DeepCutAuto
namespace Go.Proofs.Ytfkbcflgbjncdaa
set_option linter.unusedVariables false
set_option linter.unusedSimpArgs false
open Go.RowKit
theorem wordsF_len (g : Nat) (b : List Int) : (wordsF g b).length = nw b + 3 := by unfold wordsF heads; simp [pks_len]
def ReadPost (w : World) (g a : Nat) (cl : Bool) (D : List Nat) (G : Nat) (b : List Int) (e : Ending) (w' : World) : Prop :=
  ∃ A c', e = .returned (.tuple #[.int .i64 (G : Int), .slice A b.length c']) ∧ Vw w' A b.length 1 (octs b) ∧ (b.length ≤ c' ∧ c' ≤ maxLen) ∧ (∀ x, x ∈ blks A → w.heap.size ≤ x) ∧ ∃ C', MemC w' g a cl D C' ∧ Keep w.heap.size [g, a] w w'
set_option maxRecDepth 100000 in
set_option maxHeartbeats 8000000 in
theorem read_valid (w : World) (v g a : Nat) (cl : Bool) (D C : List Nat) (i G : Nat) (b : List Int) (hb : VB w v g) (h : MemC w g a cl D C) (hl : D.length = 400) (hi : i < 2) (hG : 1 ≤ G ∧ G < 4294967296) (hO : Oct b) (hbl : b.length ≤ 788)
    (hD : ∀ (j x : Nat), (wordsF G b)[j]? = some x → D[200 * i + j]? = some x) (hvg : v ∉ [g, a]) :
    Calls Try.prog 120 #[bptr v, .int .i64 (i : Int)] w (ReadPost w g a cl D G b) := by
  have h0 : w.cell? ⟨v, 0, none⟩ = some (bptr g) := hb.cell 0
  have h1 : w.cell? ⟨v, 1, none⟩ = some (.int .i64 0) := hb.cell 1
  have h2 : w.cell? ⟨v, 2, none⟩ = some (.int .i64 200) := hb.cell 2
  obtain ⟨J, hJ⟩ : ∃ J, J = 200 * i := ⟨_, rfl⟩
  obtain ⟨n, hn⟩ : ∃ n, n = b.length := ⟨_, rfl⟩
  have d0 : D[J]? = some G := by have := hD 0 G rfl; rw [Nat.add_zero, ← hJ] at this; exact this
  have d1 : D[J + 1]? = some n := by have := hD 1 n (by rw [hn]; rfl); rw [← hJ] at this; exact this
  have e1 : (i : Int) * 200 = (J : Int) := by omega
  obtain ⟨J1, hJ1⟩ : ∃ J1, J1 = J + 1 := ⟨_, rfl⟩
  have e2 : (J : Int) + 1 = (J1 : Int) := by omega
  rw [← hJ1] at d1
  have e3 : IntKind.i64.wrap (n : Int) = (n : Int) := i64w' n (by omega)
  have hnI : ¬ (788 : Int) < (n : Int) := by omega
  have hg0 : ¬ (G : Int) = 0 := by omega
  have hgb : ((G : Int) == 0) = false := by rw [beq_eq_false_iff_ne]; exact hg0
  have HB := Lib.hid hb
  have HH := Lib.hid h
  have HZ := Lib.hid d0
  have HN := Lib.hid d1
  have HDD := Lib.hid hD
  have HJ := Lib.hid hJ
  have HNL := Lib.hid hn
  clear hb h d0 d1 hJ hJ1 hl hD hn
  go_enter Try.func120, Try.ntmps120
  go_wp2_with fail
  go_quiet (fail)
  go_wp2_with fail
  have M0 := Lib.hid (HH.out.keepS (S := []) ((Keep.refl _ _ w).drewN nq) (by simp) (by simp))
  refine (read_m _ g a cl D C J G M0.out HZ.out).mono ?_
  rintro e W1 ⟨rfl, C1, hm1, hk1⟩
  have M1 := Lib.hid hm1
  have K1 : Hid (Keep w.heap.size [g, a] w W1) := Lib.hid (by exact (Keep.refl _ _ _).trans (hk1.undrewN))
  have B1 := Lib.hid (HB.out.keepS K1.out hvg)
  have y0 : W1.cell? ⟨v, 0, none⟩ = some (bptr g) := B1.out.cell 0
  clear hm1 hk1 h0 h1 h2
  go_wp2_with fail
  refine (read_m _ g a cl D C1 J1 n M1.out HN.out).mono ?_
  rintro e W2 ⟨rfl, C2, hm2, hk2⟩
  have M2 := Lib.hid hm2
  have K2 := Lib.hid (K1.out.trans (hk2.mono K1.out.size (fun _ _ hx => hx)))
  have B2 := Lib.hid (HB.out.keepS K2.out hvg)
  clear hm2 hk2 y0
  go_wp2_with fail
  refine (room_w _ v g B2.out).mono ?_
  rintro e w' ⟨rfl, rfl⟩
  go_upto_region 8 with fail
  have hgl : g < w.heap.size := by obtain ⟨_, hm⟩ := HH.out.mb; exact hm.lt
  have hal : a < w.heap.size := HH.out.cb.lt
  obtain ⟨W3, hW3⟩ : ∃ W, W = W2.alloc (.cells #[.int .u32 (G : Int), .int .u32 (n : Int)] 82) := ⟨_, rfl⟩
  obtain ⟨xb, hxb⟩ : ∃ x, x = W2.heap.size := ⟨_, rfl⟩
  have k3 : Keep W2.heap.size [] W2 W3 := by rw [hW3]; exact (Keep.refl _ _ _).alloc (Nat.le_refl _) _
  have S3 : Hid (Sl W3 82 1 (some ⟨xb, 0, none⟩) 2 2 (u32s ((wordsF G b).take 2))) := Lib.hid (by
    rw [hW3, hxb, show u32s ((wordsF G b).take 2) = [.int .u32 (G : Int), .int .u32 (n : Int)] by rw [HNL.out]; rfl]
    exact World.ownsRow_lit (e := 82) (size := 1) W2 #[.int .u32 (G : Int), .int .u32 (n : Int)] 2 (Nat.zero_le _) (by unfold maxLen; omega) rfl)
  have M3 := Lib.hid (M2.out.keepS k3 (by simp) (by simp))
  have K3 := Lib.hid (K2.out.trans (k3.mono K2.out.size (by simp)))
  have hx0 : w.heap.size ≤ xb := by have := K2.out.size; omega
  rw [← hW3, ← hxb]
  obtain ⟨N, hN⟩ : ∃ N, N = nw b := ⟨_, rfl⟩
  obtain ⟨M, hM⟩ : ∃ M, M = N + 3 := ⟨_, rfl⟩
  have e4 : ((n : Int) + 3).tdiv 4 = (N : Int) := by rw [Int.tdiv_eq_ediv_of_nonneg (by omega), hN, HNL.out]; unfold nw; omega
  have e5 : (N : Int) + 3 = (M : Int) := by omega
  have hMb : M ≤ 200 := by rw [hM, hN]; unfold nw; omega
  have HM : Hid (M = nw b + 3) := Lib.hid (by rw [hM, hN])
  have hM2 : 2 ≤ M := by omega
  clear hW3 hxb k3 hN hM
  obtain ⟨i0, hi0, hz0, hz1, hz2⟩ := info_parts infoU32
  go_loopw [11, 12] (fun ll kk wr => ∃ (k : Nat) (A : Option Addr) (c' : Nat) (C' : List Nat), 2 ≤ k ∧ k ≤ M ∧ kk = .int .i64 k ∧ ll = .slice A k c' ∧ Sl wr 82 1 A k c' (u32s ((wordsF G b).take k)) ∧ (∀ x, x ∈ blks A → w.heap.size ≤ x) ∧ MemC wr g a cl D C' ∧ Keep w.heap.size [g, a] w wr) (fun _ kk _ => M - (intOf kk).toNat)
  case atStart => exact ⟨2, _, 2, _, by omega, hM2, rfl, rfl, S3.out, fun x hx => by rcases List.mem_singleton.1 hx with rfl; exact hx0, M3.out, K3.out⟩
  case round =>
    obtain ⟨k, A, c', C', hk2, hk, rfl, rfl, hs, hA, hm, hkw⟩ := hrel
    have SS := Lib.hid hs
    have HA := Lib.hid hA
    have MM := Lib.hid hm
    have KW := Lib.hid hkw
    have BB := Lib.hid (HB.out.keepS KW.out hvg)
    clear hs hA hm hkw
    by_cases hlt : k < M
    · have hki : (k : Int) < (M : Int) := by omega
      obtain ⟨q, hq⟩ : ∃ q, q = J + k := ⟨_, rfl⟩
      have e6 : (J : Int) + (k : Int) = (q : Int) := by omega
      obtain ⟨x, hx⟩ : ∃ x, (wordsF G b)[k]? = some x := ⟨_, List.getElem?_eq_getElem (by rw [wordsF_len]; have := HM.out; omega)⟩
      have hdx : D[q]? = some x := by rw [hq, HJ.out]; exact HDD.out k x hx
      have y0 : wr.cell? ⟨v, 0, none⟩ = some (bptr g) := BB.out.cell 0
      have HX := Lib.hid hx
      have HDX := Lib.hid hdx
      clear hx hdx hq
      go_wp2_with fail
      refine (read_m _ g a cl D C' q x MM.out HDX.out).mono ?_
      rintro e W4 ⟨rfl, C4, hm4, hk4⟩
      have M4 := Lib.hid hm4
      have K4 := Lib.hid hk4
      clear hm4 hk4 y0
      have hAn : ∀ y, y ∈ blks A → y ∉ [g, a] := fun y hy => by have := HA.out y hy; simp; omega
      have S4 := Lib.hid (SS.out.keepS K4.out hAn)
      have KW4 := Lib.hid (KW.out.trans (K4.out.mono KW.out.size (fun _ _ hx => hx)))
      clear hAn
      go_wp2_with (
        at_builtin
        refine wpList_app1 _ rfl (.tmp 88) (.tmp 90) 132 rfl 82 i0 _ 1 4 Try.underlying132 hi0 hz0 hz1 hz2 rfl (by omega) A k c' (u32s ((wordsF G b).take k)) rfl (by exact S4.out.alloc _) _ _ _ rfl (by exact Blk.new _ _ _) rfl rfl (by omega) (by omega) ?_
        intro A5 c5 W5 hs5 hk5 hb5
        have S5 : Hid (Sl W5 82 1 A5 (k + 1) c5 (u32s ((wordsF G b).take (k + 1)))) := Lib.hid (by
          have e : u32s ((wordsF G b).take (k + 1)) = u32s ((wordsF G b).take k) ++ [.int .u32 (x : Int)] := by
            rw [List.take_add_one, HX.out]; simp [u32s]
          rw [e]; exact hs5)
        have ka : Keep W4.heap.size [] W4 (W4.alloc (.cells #[.int .u32 (x : Int)] 82)) := (Keep.refl _ _ _).alloc (Nat.le_refl _) _
        have hzz := ka.size
        have hA5 : Hid (∀ y, y ∈ blks A5 → w.heap.size ≤ y) := Lib.hid (fun y hy => by
          have h9 := KW4.out.size
          rcases hb5 y hy with h8 | h8
          · exact HA.out y h8
          · omega)
        have gn : g ∉ blks A := fun hm => by have := HA.out g hm; omega
        have an : a ∉ blks A := fun hm => by have := HA.out a hm; omega
        have M5 := Lib.hid ((M4.out.keepS ka (by simp) (by simp)).keepS hk5 gn an)
        have K5 : Hid (Keep w.heap.size [g, a] w W5) := Lib.hid ((KW4.out.trans (ka.mono KW4.out.size (by simp))).trans (hk5.mono (Nat.le_trans KW4.out.size hzz) (fun y hy hm => absurd (HA.out y hm) (by omega))))
        clear hs5 hk5 hb5 ka hzz gn an)
      go_roundw
      case rel => exact ⟨k + 1, A5, c5, _, by omega, by omega, by go_num, rfl, S5.out, hA5.out, M5.out, K5.out⟩
      case measure => simp [intOf] <;> omega
    · obtain rfl : k = M := by omega
      have hfull : (wordsF G b).take k = wordsF G b := List.take_of_length_le (by rw [wordsF_len, ← HM.out]; exact Nat.le_refl _)
      have hs := SS.out
      rw [hfull] at hs
      obtain ⟨xa, rfl, hxl, hkc, hcm⟩ : ∃ x, A = some ⟨x, 0, none⟩ ∧ x < wr.heap.size ∧ k ≤ c' ∧ c' ≤ maxLen := by
        rcases hs.form with ⟨_, h0, _⟩ | ⟨x, rfl, h1, h2, h3⟩
        · omega
        · exact ⟨x, rfl, h1, h2, h3⟩
      obtain ⟨P, hP⟩ : ∃ P, P = k - 1 := ⟨_, rfl⟩
      obtain ⟨NB, hNB⟩ : ∃ NB, NB = k - 1 - 2 := ⟨_, rfl⟩
      have hNBw : NB = nw b := by have := HM.out; omega
      have e7 : (k : Int) - 1 = (P : Int) := by omega
      have e8 : (2 : Int) ≤ (P : Int) := by have := HM.out; omega
      have e9 : (P : Int) ≤ (c' : Int) := by omega
      have e10 : (c' : Int) ≤ 9223372036854775807 := by unfold maxLen at hcm; omega
      have HS := Lib.hid hs
      have HP := Lib.hid hP
      have HNB := Lib.hid hNBw
      have HNP := Lib.hid hNB
      clear hs hP hNB hNBw hfull
      go_wp2_with fail
      have hPN : P - 2 = nw b := by have := HP.out; have := HM.out; omega
      have hvm : Vw wr (some ⟨xa, 2, none⟩) (P - 2) 1 (u32s (pks b)) := by
        have h1 := ((HS.out.vw (by omega)).drop (k := 2) (by omega)).take (k := P - 2) (by have := HP.out; omega)
        have e : ((u32s (wordsF G b)).drop 2).take (P - 2) = u32s (pks b) := by
          rw [hPN]
          show ((u32s (pks b ++ [crc (octW (heads G b))]))).take (nw b) = _
          unfold u32s
          rw [List.map_append, List.take_append_of_le_length (by simp [pks_len]), List.take_of_length_le (by simp [pks_len])]
        rw [e] at h1
        exact h1
      have hpk : ∀ y ∈ pks b, y < 4294967296 := fun y hy => by
        unfold pks at hy
        obtain ⟨j, _, rfl⟩ := List.mem_map.1 hy
        exact pkw_lt hO j _
      refine (octetsOf_w _ (some ⟨xa, 2, none⟩) (P - 2) (c' - 2) (pks b) hpk hvm (by omega) (by omega) (by omega)).mono ?_
      rintro e W5 ⟨A5, n5, c5, rfl, hn5, hs5, hk5, hb5⟩
      have S5 := Lib.hid hs5
      have K5 := Lib.hid hk5
      have HB5 := Lib.hid hb5
      have hc5 := hs5.cap
      have hn5n : n ≤ n5 := by rw [hn5, hPN, HNL.out]; unfold nw; omega
      have e11 : (n : Int) ≤ (c5 : Int) := by omega
      have e12 : (c5 : Int) ≤ 9223372036854775807 := by have := hc5.2; unfold maxLen at this; omega
      clear hn5 hs5 hk5 hb5 hPN hvm hpk
      go_upto_region 15 with fail
      have hvb : Vw W5 A5 n 1 (octs b) := by
        have h1 := (S5.out.vw (by omega)).take (k := n) hn5n
        have e : (octs (octW (pks b))).take n = octs b := by
          unfold octs
          rw [← List.map_take, HNL.out, octW_pks hO]
        rw [e] at h1
        exact h1
      have e13 : IntKind.i64.wrap (G : Int) = (G : Int) := i64w' G (by omega)
      have VB5 := Lib.hid hvb
      clear hvb
      go_wp2_with fail
      refine (words_w _ G A5 n c5 b hG.2 hO VB5.out (by omega) hc5.2 (by omega)).mono ?_
      rintro e W6 ⟨A6, m6, c6, rfl, hm6, hs6, hk6, hb6⟩
      obtain rfl : m6 = k := by have := HM.out; omega
      have S6 := Lib.hid hs6
      have K6 := Lib.hid hk6
      have hc6 := hs6.cap
      clear hs6 hk6 hb6 hm6
      go_wp2_with fail
      refine (equal_same _ (some ⟨xa, 0, none⟩) A6 m6 c' c6 (wordsF G b) (((HS.out.keep0 K5.out).keep0 K6.out).vw (by omega)) (S6.out.vw (by omega)) hkc hcm hc6.1 hc6.2).mono ?_
      rintro e W7 ⟨rfl, hk7⟩
      have K7 := Lib.hid hk7
      clear hk7
      go_wp2_with fail
      go_ret2
      have kk : Keep wr.heap.size [] wr W7 := (K5.out.chain0 (Nat.le_refl _) K6.out).chain0 (Nat.le_refl _) K7.out
      refine ⟨A5, c5, by rw [← HNL.out]; rfl, ?_, ⟨by have := HNL.out; omega, hc5.2⟩, fun y hy => Nat.le_trans KW.out.size (HB5.out y hy), C', MM.out.keepS kk (by simp) (by simp), KW.out.trans (kk.mono KW.out.size (by simp))⟩
      have := (VB5.out.keep0 K6.out).keep0 K7.out
      rw [HNL.out] at this
      exact this
end Go.Proofs.Ytfkbcflgbjncdaa
