/- Same and agree. -/
import Derived.Test.YtlceepknoijndaaERrg
namespace Go.Proofs.Ytlceepknoijndaa
set_option linter.unusedVariables false
set_option linter.unusedSimpArgs false
open Go.RowKit
theorem evs_get : ∀ (l : List Ev) (k : Nat) (y : Ev) (j : Nat), l[k]? = some y → j < 4 → (evs l)[k * 4 + j]? = (ecells y)[j]?
  | [], k, y, j, h, _ => by simp at h
  | x :: l, 0, y, j, h, hj => by
    simp at h; subst h
    show (ecells x ++ evs l)[0 * 4 + j]? = _
    rw [List.getElem?_append_left (by simp [ecells]; omega), Nat.zero_mul, Nat.zero_add]
  | x :: l, k + 1, y, j, h, hj => by
    show (ecells x ++ evs l)[(k + 1) * 4 + j]? = _
    rw [List.getElem?_append_right (by simp [ecells]; omega), show (k + 1) * 4 + j - (ecells x).length = k * 4 + j by simp [ecells]; omega]
    exact evs_get l k y j (by simpa using h) hj
theorem ev_at {W : World} {X : Option Addr} {m k : Nat} {L : List Ev} {y : Ev} (h : Vw W X m 4 (evs L)) (hk : k < m) (hy : L[k]? = some y) : ∃ b o, X = some ⟨b, o, none⟩ ∧ W.cell? ⟨b, o + k * 4, none⟩ = some (.int .i64 y.t) ∧ W.cell? ⟨b, o + k * 4 + 1, none⟩ = some (.int .i64 y.id) ∧ W.cell? ⟨b, o + k * 4 + 2, none⟩ = some (.int .i64 y.sv) ∧ W.cell? ⟨b, o + k * 4 + 3, none⟩ = some (.int .i64 y.vl) := by
  obtain ⟨b, o, rfl, hb, hc⟩ := h.2 (by omega)
  exact ⟨b, o, rfl, hc (k * 4) _ (evs_get L k y 0 hy (by omega)), hc (k * 4 + 1) _ (evs_get L k y 1 hy (by omega)), hc (k * 4 + 2) _ (evs_get L k y 2 hy (by omega)), hc (k * 4 + 3) _ (evs_get L k y 3 hy (by omega))⟩
set_option maxHeartbeats 2000000 in
theorem same_any (w : World) (X Y : Option Addr) (m c d : Nat) (L : List Ev) (hm : m ≤ 1000000) (hmc : m ≤ c) (hmd : m ≤ d) (hx : Vw w X m 4 (evs L)) (hy : Vw w Y m 4 (evs L)) : Calls Try.prog 24 #[.slice X m c, .slice Y m d] w (LawPost w) := by
  have HX := Lib.hid hx
  have HY := Lib.hid hy
  have HLn : Hid (m = L.length) := Lib.hid (by have := hx.1; rw [evs_len] at this; omega)
  have hmc' : (m : Int) ≤ (c : Int) := by omega
  have hmd' : (m : Int) ≤ (d : Int) := by omega
  clear hx hy
  go_enter Try.func24, Try.ntmps24
  go_wp2_with fail
  go_loopw [5] (fun i wr => ∃ k : Nat, k ≤ m ∧ i = .int .i64 k ∧ Keep w.heap.size [] w wr) (fun i _ => m - (intOf i).toNat)
  case atStart => exact ⟨0, Nat.zero_le _, rfl, Keep.refl _ _ _⟩
  case round =>
    obtain ⟨k, hk, rfl, hkp⟩ := hrel
    have HK := Lib.hid hkp
    clear hkp
    by_cases hlt : k < m
    · have hkx : (k : Int) < (m : Int) := by omega
      have hl : k < L.length := by have := HLn.out; omega
      obtain ⟨b, o, rfl, a0, a1, a2, a3⟩ := ev_at (HX.out.keep0 HK.out) hlt (List.getElem?_eq_getElem hl)
      obtain ⟨b2, o2, rfl, b0, b1, b2', b3⟩ := ev_at (HY.out.keep0 HK.out) hlt (List.getElem?_eq_getElem hl)
      obtain ⟨y, hy⟩ : ∃ y, L[k] = y := ⟨_, rfl⟩
      rw [hy] at a0 a1 a2 a3 b0 b1 b2' b3
      clear hy hl
      go_wp2_with fail
      go_quiet (fail)
      go_wp2_with fail
      go_roundw
      case rel => exact ⟨k + 1, by omega, by go_num, HK.out.drewN _⟩
      case measure => simp [intOf] <;> omega
    · obtain rfl : k = m := by omega
      go_wp2_with fail
      go_ret
      exact ⟨rfl, HK.out⟩
set_option maxHeartbeats 4000000 in
theorem agree_any (w : World) (g r : Nat) (A : Option Addr) (n c : Nat) (s : St) (A' : Option Addr) (n' c' : Nat) (O : Option Addr) (m d : Nat) (hn : n ≤ 100000) (h : Sv w g r A n c s) (hR : RS w s A' n' c' O m d) :
    Calls Try.prog 18 #[pf g, ragg s A' n' c' O m d] w (LawPost w) := by
  have k0 : Keep w.heap.size [] w (w.alloc (.cells (rcells s A' n' c' O m d) 42)) := (Keep.refl _ _ w).alloc (Nat.le_refl _) _
  have H := Lib.hid (h.keep0 k0)
  have R0 := Lib.hid (hR.keep0 k0)
  have K0 := Lib.hid k0
  have hnn : n = n' := by rw [h.len, hR.nl]
  have hb := Blk.new w 42 (rcells s A' n' c' O m d)
  obtain ⟨h0, h1, h2, h3, h4, h5, h6, h7⟩ := rcell8 hb
  subst hnn
  have B0 := Lib.hid hb
  clear h hR k0 hb
  go_enter Try.func18, Try.ntmps18
  go_wp2_with fail
  obtain ⟨W, hW⟩ : ∃ W, W = w.alloc (.cells (rcells s A' n c' O m d) 42) := ⟨_, rfl⟩
  rw [← hW] at H R0 K0 B0 h0 h1 h2 h3 h4 h5 h6 h7 ⊢
  clear hW
  have HD : Hid (Sv W.drew g r A n c s) := Lib.hid (H.out.keepS (S := []) (Keep.refl _ _ W).drew (by simp) (by simp) (by simp))
  go_loop [5] (fun i => ∃ z : Int, -1 ≤ z ∧ z ≤ 6 ∧ i = .int .i64 z) (fun i => (6 - intOf i).toNat)
  case atStart => exact ⟨-1, by omega, by omega, rfl⟩
  case round =>
    obtain ⟨z, z0, z1, rfl⟩ := hrel
    have hz : z = -1 ∨ z = 0 ∨ z = 1 ∨ z = 2 ∨ z = 3 ∨ z = 4 ∨ z = 5 ∨ z = 6 := by omega
    rcases hz with rfl | rfl | rfl | rfl | rfl | rfl | rfl | rfl
    case inr.inr.inr.inr.inr.inr.inr =>
      go_wp2_with fail
      have q1 : W.drew.cell? ⟨w.heap.size, 1, none⟩ = some (.slice A' n c') := h1
      go_region_held3 (fun w' => w'.cell? ⟨w.heap.size, 1, none⟩ = some (.slice A' n c')) (first | with_reducible exact q1 | with_reducible exact q2 | with_reducible exact q3)
        (first
          | (go_at_call 24
             refine (same_any _ A2 A' n c2 c' s.L (by omega) (by exact (slcap SL2.out).1) (by exact R0.out.nc) (by exact SL2.out.vw (by omega)) (by exact R0.out.ev.keep0 K2.out)).mono ?_
             rintro e w3 ⟨rfl, hk⟩
             have K3 := Lib.hid (K2.out.chain0 (Nat.le_refl _) hk)
             have q3 : w3.cell? ⟨w.heap.size, 1, none⟩ = some (.slice A' n c') := ((B0.out.keepS K3.out (by simp)).cell 1)
             clear hk)
          | (go_at_call 13
             refine (recent_any _ g r A n c s (by omega) (by exact HD.out)).mono ?_
             rintro e w2 ⟨A2, c2, rfl, hs, hk, hb⟩
             have SL2 := Lib.hid hs
             have K2 : Hid (Keep W.heap.size [] W w2) := Lib.hid hk.undrew
             have q2 : w2.cell? ⟨w.heap.size, 1, none⟩ = some (.slice A' n c') := ((B0.out.keepS K2.out (by simp)).cell 1)
             clear hs hk hb))
      go_wp2_with fail
      go_ret
      exact ⟨rfl, K0.out.chain0 (Nat.le_refl _) K3.out⟩
    all_goals
      go_wp2_with fail
      refine (count_any _ g r A n c s _ _ rfl H.out).mono ?_
      rintro e w' ⟨rfl, rfl⟩
      simp only [cntP]
      go_wp2_with fail
      go_round
      case rel => exact ⟨_, by omega, by omega, rfl⟩
      case measure => simp [intOf] <;> omega
end Go.Proofs.Ytlceepknoijndaa
