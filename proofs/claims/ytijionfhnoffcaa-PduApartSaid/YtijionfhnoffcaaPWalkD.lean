/- The reference's units: named, gaps, classed, coded. -/
import Derived.Test.YtijionfhnoffcaaPWalkA
namespace Go.Proofs.Ytijionfhnoffcaa
set_option linter.unusedVariables false
set_option linter.unusedSimpArgs false
open Go.RowKit
set_option maxHeartbeats 1000000 in
theorem rnamed_b (w : World) (L : List Int) (v : Bool) (hO : Oct L) (hl : L.length ≤ 100000) (hv : nameB L = v) : Calls Try.prog 33 #[.string (strOfNums L)] w fun e w' => e = .returned (.bool v) ∧ w = w' := by
  have HO := Lib.hid hO
  have HS := Lib.hid (strOfNums_size L)
  have hix := fun (W : World) (k : Nat) (x : Int) (hx : L[k]? = some x) => str_index W L hO k x hx
  obtain ⟨s, hs⟩ : ∃ s, strOfNums L = s := ⟨_, rfl⟩
  rw [hs] at HS hix ⊢
  have HIX := Lib.hid hix
  have HV := Lib.hid hv
  have hsz : s.size ≤ 100000 := by have := HS.out; omega
  clear hO hs hix hv
  by_cases h1 : s.size < 1
  · have ev : v = false := by rw [← HV.out]; unfold nameB; have := HS.out; have : inB L.length 1 64 = false := by unfold inB; rw [decide_eq_false (by omega)]; rfl
                              rw [this]; simp
    subst ev
    have h1' : (s.size : Int) < 1 := by omega
    go_enter Try.func33, Try.ntmps33
    go_wp2_with fail
    go_ret
    exact ⟨rfl, rfl⟩
  by_cases h2 : 64 < s.size
  · have ev : v = false := by rw [← HV.out]; unfold nameB; have := HS.out; have : inB L.length 1 64 = false := by unfold inB; rw [decide_eq_false (show ¬ (L.length : Int) ≤ 64 by omega)]; simp
                              rw [this]; simp
    subst ev
    have h1' : ¬ (s.size : Int) < 1 := by omega
    have h2' : (64 : Int) < (s.size : Int) := by omega
    go_enter Try.func33, Try.ntmps33
    go_wp2_with fail
    go_ret
    exact ⟨rfl, rfl⟩
  have ev : L.all charB = v := by
    rw [← HV.out]; unfold nameB; have := HS.out; have : inB L.length 1 64 = true := inB_iff.2 (by omega)
    rw [this, Bool.and_true]
  have EV := Lib.hid ev
  have h1' : ¬ (s.size : Int) < 1 := by omega
  have h2' : ¬ (64 : Int) < (s.size : Int) := by omega
  clear ev h1 h2
  go_enter Try.func33, Try.ntmps33
  go_wp2_with fail
  go_loop [3] (fun j => ∃ k : Nat, k ≤ L.length ∧ j = .int .i64 k ∧ (L.take k).all charB = true) (fun j => L.length - (intOf j).toNat)
  case atStart => exact ⟨0, Nat.zero_le _, rfl, rfl⟩
  case round =>
    obtain ⟨k, hk, rfl, hnk⟩ := hrel
    have HN := Lib.hid hnk
    clear hnk h1' h2'
    by_cases hlt : k < L.length
    · have hkx : (k : Int) < (s.size : Int) := by have := HS.out; omega
      obtain ⟨x, hx⟩ : ∃ x, L[k]? = some x := ⟨_, List.getElem?_eq_getElem hlt⟩
      have hi := fun W => HIX.out W k x hx
      have HX := Lib.hid hx
      clear hx
      by_cases h1 : x < 33
      · have ev : v = false := by
          rw [← EV.out]
          exact List.all_eq_false.2 ⟨x, List.mem_of_getElem? HX.out, by unfold charB; rw [decide_eq_false (by omega)]; simp⟩
        subst ev
        go_wp2_with fail
        go_ret
        exact ⟨rfl, rfl⟩
      · by_cases h2 : 126 < x
        · have ev : v = false := by
            rw [← EV.out]
            exact List.all_eq_false.2 ⟨x, List.mem_of_getElem? HX.out, by unfold charB; rw [decide_eq_false (show ¬ x ≤ 126 by omega)]; simp⟩
          subst ev
          go_wp2_with fail
          go_ret
          exact ⟨rfl, rfl⟩
        · go_wp2_with fail
          go_round
          case rel => exact ⟨k + 1, by omega, by go_num, by
            rw [List.take_add_one, HX.out, List.all_append, HN.out]
            simp [charB]; omega⟩
          case measure => simp [intOf] <;> omega
    · obtain rfl : k = L.length := by omega
      have hkx : ¬ ((L.length : Nat) : Int) < (s.size : Int) := by have := HS.out; omega
      have ev : v = true := by
        have h := HN.out
        rw [List.take_length] at h
        rw [← EV.out, h]
      subst ev
      go_wp2_with fail
      go_ret
      exact ⟨rfl, rfl⟩
def classedB (k : Int) : Bool := decide (k = 1) || decide (k = 3)
def codedB (k : Int) : Bool := decide (k = 3) || decide (k = 5)
theorem classed_b (w : World) (k : Int) (v : Bool) (hv : classedB k = v) : Calls Try.prog 32 #[.int .i64 k] w fun e w' => e = .returned (.bool v) ∧ w = w' := by
  have HV := Lib.hid hv
  clear hv
  go_enter Try.func32, Try.ntmps32
  go_wp2_with fail
  all_goals
    go_ret
  all_goals
    refine ⟨?_, rfl⟩
    rw [← HV.out]
    unfold classedB
    simp_all
    try (by_cases h3 : k = 3 <;> simp_all)
theorem coded_b (w : World) (k : Int) (v : Bool) (hv : codedB k = v) : Calls Try.prog 34 #[.int .i64 k] w fun e w' => e = .returned (.bool v) ∧ w = w' := by
  have HV := Lib.hid hv
  clear hv
  go_enter Try.func34, Try.ntmps34
  go_wp2_with fail
  all_goals
    go_ret
  all_goals
    refine ⟨?_, rfl⟩
    rw [← HV.out]
    unfold codedB
    simp_all
    try (by_cases h5 : k = 5 <;> simp_all)
end Go.Proofs.Ytijionfhnoffcaa
