/- The tracker: Open: its contract. -/
import Derived.Test.YtfkbcflgbjncdaaTrE
namespace Go.Proofs.Ytfkbcflgbjncdaa
set_option linter.unusedVariables false
set_option linter.unusedSimpArgs false
open Go.RowKit
set_option maxHeartbeats 400000 in
theorem open_nil (w : World) : Calls Try.prog 17 #[.pointer none] w fun e w' => e = .returned (.int .i64 0) ∧ w = w' := by
  go_enter Try.func17, Try.ntmps17
  go_wp2_with fail
  refine (tvalid_nil _).mono ?_
  rintro e w' ⟨rfl, rfl⟩
  go_wp2_with fail
  go_ret
  exact ⟨rfl, rfl⟩
def openP (D : List Is) : Nat := D.countP (fun x => !final x.g)
theorem openP_take (D : List Is) (k : Nat) (x : Is) (h : D[k]? = some x) : openP (D.take (k + 1)) = openP (D.take k) + (if final x.g = true then 0 else 1) := by
  unfold openP
  rw [List.take_add_one, h, List.countP_append]
  cases hf : final x.g <;> simp [hf]
set_option maxRecDepth 100000 in
set_option maxHeartbeats 2000000 in
theorem open_any (w : World) (g : Nat) (A : Option Addr) (t : Tk) (v : Nat) (hv : openP t.D = v) (h : Tr w g A t) :
    Calls Try.prog 17 #[bptr g] w fun e w' => e = .returned (.int .i64 v) ∧ Keep w.heap.size [] w w' := by
  have HT := Lib.hid h
  obtain ⟨m, c, hm, hb, hs, hok, hmx⟩ := h
  have h0 : w.cell? ⟨g, 0, none⟩ = some (.bool true) := hb.cell 0
  have h3 : w.cell? ⟨g, 3, none⟩ = some (.slice A m c) := hb.cell 3
  have hcap := hs.cap
  have hmc : (m : Int) ≤ (c : Int) := by omega
  have hcm : (c : Int) ≤ 9223372036854775807 := by have := hcap.2; unfold maxLen at this; omega
  have HS := Lib.hid hs
  have HM := Lib.hid hm
  have HV := Lib.hid hv
  clear hb hs hm hok hv hcap
  go_enter Try.func17, Try.ntmps17
  go_wp2_with fail
  refine (tvalid_any _ g (by exact h0)).mono ?_
  rintro e w' ⟨rfl, rfl⟩
  go_wp2_with fail
  go_loopw [3, 14] (fun u i wr => ∃ k : Nat, k ≤ m ∧ i = .int .i64 k ∧ u = .int .i64 (openP (t.D.take k)) ∧ Keep w.heap.size [] w wr) (fun _ i _ => m - (intOf i).toNat)
  case atStart => exact ⟨0, Nat.zero_le _, rfl, rfl, Keep.refl _ _ _⟩
  case round =>
    obtain ⟨k, hk, rfl, rfl, hkp⟩ := hrel
    by_cases hlt : k < m
    · obtain ⟨x, hx⟩ : ∃ x, t.D[k]? = some x := ⟨t.D[k]'(by have := HM.out; omega), List.getElem?_eq_getElem _⟩
      obtain ⟨b, hA, hb, hc⟩ := (HS.out.keep0 hkp).icell HM.out hx
      subst hA
      have e0 : wr.cell? ⟨b, k * 5, none⟩ = some (.int .i64 x.s) := hc 0 _ rfl
      have e1 : wr.cell? ⟨b, k * 5 + 1, none⟩ = some (.int .i64 x.n) := hc 1 _ rfl
      have e2 : wr.cell? ⟨b, k * 5 + 2, none⟩ = some (.int .i64 x.t) := hc 2 _ rfl
      have e3 : wr.cell? ⟨b, k * 5 + 3, none⟩ = some (.int .i64 x.g) := hc 3 _ rfl
      have e4 : wr.cell? ⟨b, k * 5 + 4, none⟩ = some (.int .i64 x.c) := hc 4 _ rfl
      have HX := Lib.hid hx
      have HK := Lib.hid hkp
      have hop := openP_take t.D k x hx
      have HOP := Lib.hid hop
      have hkm : (k : Int) < (m : Int) := by omega
      have hbd : openP (t.D.take k) ≤ 1000 := by
        have := List.countP_le_length (l := t.D.take k) (p := fun x => !final x.g)
        unfold openP; simp at this; omega
      clear hc hx hkp hop
      cases hf : final x.g with
      | true =>
        have HF := Lib.hid hf
        clear hf
        go_wp2_with fail
        refine (final_v _ x.g true HF.out).mono ?_
        rintro e w5 ⟨rfl, rfl⟩
        go_wp2_with fail
        go_roundw
        case rel => exact ⟨k + 1, by omega, by go_num, by rw [HOP.out, if_pos HF.out, Nat.add_zero], (HK.out.alloc HK.out.size _)⟩
        case measure => simp [intOf]; omega
      | false =>
        have HF := Lib.hid hf
        clear hf
        go_wp2_with fail
        refine (final_v _ x.g false HF.out).mono ?_
        rintro e w5 ⟨rfl, rfl⟩
        go_wp2_with fail
        go_roundw
        case rel => exact ⟨k + 1, by omega, by go_num, by rw [HOP.out, if_neg (by rw [HF.out]; decide)]; go_num, (HK.out.alloc HK.out.size _)⟩
        case measure => simp [intOf]; omega
    · obtain rfl : k = m := by omega
      have HK := Lib.hid hkp
      clear hkp
      go_wp2_with fail
      go_ret
      refine ⟨?_, HK.out⟩
      rw [HM.out, List.take_length, HV.out]
      rfl
end Go.Proofs.Ytfkbcflgbjncdaa
