/- The reference's units: gaps. -/
import Derived.Test.YtijionfhnoffcaaPWalkA
namespace Go.Proofs.Ytijionfhnoffcaa
set_option linter.unusedVariables false
set_option linter.unusedSimpArgs false
open Go.RowKit
set_option maxRecDepth 100000 in
set_option maxHeartbeats 8000000 in
theorem rgaps_b (w : World) (G : Option Addr) (n c : Nat) (L : List Gp) (v : Bool) (hnc : n ≤ c) (hcm : c ≤ maxLen) (hn : n ≤ 100000) (hg : Vw w G n 2 (L.flatMap gcells)) (hv : gapsB L = v) : Calls Try.prog 35 #[.slice G n c] w fun e w' => e = .returned (.bool v) ∧ Keep w.heap.size [] w w' := by
  have hnl : n = L.length := by have := hg.1; rw [gcells_len] at this; omega
  have HG := Lib.hid hg
  have HNL := Lib.hid hnl
  have HV := Lib.hid hv
  have hncI : (n : Int) ≤ (c : Int) := by omega
  have hcI : (c : Int) ≤ 9223372036854775807 := by unfold maxLen at hcm; omega
  clear hg hnl hv
  by_cases h1 : n < 1
  · have ev : v = false := by rw [← HV.out]; unfold gapsB; have := HNL.out; have : inB L.length 1 16 = false := by unfold inB; rw [decide_eq_false (by omega)]; rfl
                              rw [this]; simp
    subst ev
    have h1' : (n : Int) < 1 := by omega
    go_enter Try.func35, Try.ntmps35
    go_wp2_with fail
    go_ret
    exact ⟨rfl, Keep.refl _ _ _⟩
  by_cases h2 : 16 < n
  · have ev : v = false := by rw [← HV.out]; unfold gapsB; have := HNL.out; have : inB L.length 1 16 = false := by unfold inB; rw [decide_eq_false (show ¬ (L.length : Int) ≤ 16 by omega)]; simp
                              rw [this]; simp
    subst ev
    have h1' : ¬ (n : Int) < 1 := by omega
    have h2' : (16 : Int) < (n : Int) := by omega
    go_enter Try.func35, Try.ntmps35
    go_wp2_with fail
    go_ret
    exact ⟨rfl, Keep.refl _ _ _⟩
  have ev : gapGo true (-1) L = v := by
    rw [← HV.out]; unfold gapsB; have := HNL.out; have : inB L.length 1 16 = true := inB_iff.2 (by omega)
    rw [this, Bool.and_true]
  have EV := Lib.hid ev
  have h1' : ¬ (n : Int) < 1 := by omega
  have h2' : ¬ (16 : Int) < (n : Int) := by omega
  clear ev h1 h2
  go_enter Try.func35, Try.ntmps35
  go_wp2_with fail
  go_loopw [3, 4] (fun u j wr => ∃ (k : Nat) (last : Int), k ≤ n ∧ j = .int .i64 k ∧ u = .int .i64 last ∧ -1 ≤ last ∧ last ≤ 65536 ∧ gapGo true (-1) L = gapGo (decide (k = 0)) last (L.drop k) ∧ Keep w.heap.size [] w wr) (fun _ j _ => n - (intOf j).toNat)
  case atStart => exact ⟨0, -1, Nat.zero_le _, rfl, rfl, by omega, by omega, rfl, Keep.refl _ _ _⟩
  case round =>
    obtain ⟨k, last, hk, rfl, rfl, hl1, hl2, hgo, hkw⟩ := hrel
    have HGO := Lib.hid hgo
    have KW := Lib.hid hkw
    clear hgo hkw h1' h2'
    by_cases hlt : k < n
    · have hkx : (k : Int) < (n : Int) := by omega
      obtain ⟨b, o, g, rfl, hgk, d0, d1⟩ := gap_at (HG.out.keep0 KW.out) hlt
      have HGK := Lib.hid (drop_cons hgk)
      clear hgk
      have hbad : ∀ (_ : ¬ (k = 0 ∧ g.f = 0 ∧ g.t = 0)) (_ : g.f ≤ last ∨ g.t ≤ g.f ∨ 65536 < g.t), v = false := fun h0 h => by
        rw [← EV.out, HGO.out, HGK.out, gapGo_bad (by rw [decide_eq_true_eq]; exact h0) h]
      have HBAD := Lib.hid hbad
      clear hbad
      by_cases hz : k = 0 ∧ g.f = 0 ∧ g.t = 0
      · obtain ⟨rfl, hz1, hz2⟩ := hz
        obtain ⟨gf, gt⟩ := g
        simp only at hz1 hz2
        subst hz1; subst hz2
        simp only [Nat.zero_mul, Nat.add_zero] at d0 d1
        go_wp2_with fail
        go_roundw
        case rel => exact ⟨1, last, by omega, by go_num, rfl, hl1, hl2, by rw [HGO.out, HGK.out, gapGo_zero ⟨by simp, rfl, rfl⟩]; rfl, KW.out⟩
        case measure => simp [intOf] <;> omega
      · have three : ¬ k = 0 ∨ (k = 0 ∧ ¬ g.f = 0) ∨ (k = 0 ∧ g.f = 0 ∧ ¬ g.t = 0) := by
          by_cases h0 : k = 0
          · by_cases h1 : g.f = 0
            · exact .inr (.inr ⟨h0, h1, fun h2 => hz ⟨h0, h1, h2⟩⟩)
            · exact .inr (.inl ⟨h0, h1⟩)
          · exact .inl h0
        have HZ := Lib.hid hz
        clear hz
        rcases three with hk0 | ⟨rfl, hf⟩ | ⟨rfl, hf, ht⟩
        · have hk0' : ¬ (k : Int) = 0 := by omega
          by_cases b1 : g.f ≤ last
          · have ev := HBAD.out HZ.out (.inl b1)
            subst ev
            go_wp2_with fail
            go_quiet (fail)
            go_wp2_with fail
            go_ret
            exact ⟨rfl, KW.out.drewN _⟩
          have b1' : last < g.f := by omega
          have b0 : 0 ≤ g.f := by omega
          clear b1
          by_cases b2 : g.t ≤ g.f
          · have ev := HBAD.out HZ.out (.inr (.inl b2))
            subst ev
            go_wp2_with fail
            go_quiet (fail)
            go_wp2_with fail
            go_ret
            exact ⟨rfl, KW.out.drewN _⟩
          have b2' : g.f < g.t := by omega
          clear b2
          by_cases b3 : 65536 < g.t
          · have ev := HBAD.out HZ.out (.inr (.inr b3))
            subst ev
            go_wp2_with fail
            go_quiet (fail)
            go_wp2_with fail
            go_ret
            exact ⟨rfl, KW.out.drewN _⟩
          have b3' : g.t ≤ 65536 := by omega
          clear b3
          go_wp2_with fail
          go_quiet (fail)
          go_wp2_with fail
          go_roundw
          case rel => exact ⟨k + 1, g.t, by omega, by go_num, rfl, by omega, by omega, by rw [HGO.out, HGK.out, gapGo_next (by rw [decide_eq_true_eq]; exact HZ.out) (by omega)]; rfl, KW.out.drewN _⟩
          case measure => simp [intOf] <;> omega
        · simp only [Nat.zero_mul, Nat.add_zero] at d0 d1
          by_cases b1 : g.f ≤ last
          · have ev := HBAD.out HZ.out (.inl b1)
            subst ev
            go_wp2_with fail
            go_quiet (fail)
            go_wp2_with fail
            go_ret
            exact ⟨rfl, KW.out.drewN _⟩
          have b1' : last < g.f := by omega
          have b0 : 0 ≤ g.f := by omega
          clear b1
          by_cases b2 : g.t ≤ g.f
          · have ev := HBAD.out HZ.out (.inr (.inl b2))
            subst ev
            go_wp2_with fail
            go_quiet (fail)
            go_wp2_with fail
            go_ret
            exact ⟨rfl, KW.out.drewN _⟩
          have b2' : g.f < g.t := by omega
          clear b2
          by_cases b3 : 65536 < g.t
          · have ev := HBAD.out HZ.out (.inr (.inr b3))
            subst ev
            go_wp2_with fail
            go_quiet (fail)
            go_wp2_with fail
            go_ret
            exact ⟨rfl, KW.out.drewN _⟩
          have b3' : g.t ≤ 65536 := by omega
          clear b3
          go_wp2_with fail
          go_quiet (fail)
          go_wp2_with fail
          go_roundw
          case rel => exact ⟨0 + 1, g.t, by omega, by go_num, rfl, by omega, by omega, by rw [HGO.out, HGK.out, gapGo_next (by rw [decide_eq_true_eq]; exact HZ.out) (by omega)]; rfl, KW.out.drewN _⟩
          case measure => simp [intOf] <;> omega
        · obtain ⟨gf, gt⟩ := g
          simp only at hf ht d0 d1 HBAD HZ
          subst hf
          simp only [Nat.zero_mul, Nat.add_zero] at d0 d1
          by_cases b1 : (0 : Int) ≤ last
          · have ev := HBAD.out HZ.out (.inl b1)
            subst ev
            go_wp2_with fail
            go_quiet (fail)
            go_wp2_with fail
            go_ret
            exact ⟨rfl, KW.out.drewN _⟩
          have b1' : last < (0 : Int) := by omega
          have b0 : 0 ≤ (0 : Int) := by omega
          clear b1
          by_cases b2 : gt ≤ (0 : Int)
          · have ev := HBAD.out HZ.out (.inr (.inl b2))
            subst ev
            go_wp2_with fail
            go_quiet (fail)
            go_wp2_with fail
            go_ret
            exact ⟨rfl, KW.out.drewN _⟩
          have b2' : (0 : Int) < gt := by omega
          clear b2
          by_cases b3 : 65536 < gt
          · have ev := HBAD.out HZ.out (.inr (.inr b3))
            subst ev
            go_wp2_with fail
            go_quiet (fail)
            go_wp2_with fail
            go_ret
            exact ⟨rfl, KW.out.drewN _⟩
          have b3' : gt ≤ 65536 := by omega
          clear b3
          go_wp2_with fail
          go_quiet (fail)
          go_wp2_with fail
          go_roundw
          case rel => exact ⟨0 + 1, gt, by omega, by go_num, rfl, by omega, by omega, by rw [HGO.out, HGK.out, gapGo_next (by rw [decide_eq_true_eq]; simp only; exact HZ.out) (by simp only; omega)]; rfl, KW.out.drewN _⟩
          case measure => simp [intOf] <;> omega
    · obtain rfl : k = n := by omega
      have ev : v = true := by
        have h := HGO.out
        rw [HNL.out, List.drop_length] at h
        rw [← EV.out, h]
        unfold gapGo; rfl
      subst ev
      go_wp2_with fail
      go_ret
      exact ⟨rfl, KW.out⟩
end Go.Proofs.Ytijionfhnoffcaa
