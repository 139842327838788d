/- The verification report: Valid, Follows, Final and their contracts. -/
import Derived.Test.YtfkbcflgbjncdaaOctR
namespace Go.Proofs.Ytfkbcflgbjncdaa
set_option linter.unusedVariables false
set_option linter.unusedSimpArgs false
open Go.RowKit
structure Ak where
  src : Int
  num : Int
  stg : Int
  cod : Int
abbrev acells (a : Ak) : Array Value := #[.int .i64 a.src, .int .i64 a.num, .int .i64 a.stg, .int .i64 a.cod]
abbrev aagg (a : Ak) : Value := .agg #[.int .i64 a.src, .int .i64 a.num, .int .i64 a.stg, .int .i64 a.cod]
abbrev abox (a : Ak) : Obj := .cells #[.int .i64 a.src, .int .i64 a.num, .int .i64 a.stg, .int .i64 a.cod] 39
def Ak.valid (a : Ak) : Bool := decide (0 ≤ a.src ∧ a.src ≤ 15 ∧ 0 ≤ a.num ∧ a.num ≤ 65535 ∧ 1 ≤ a.stg ∧ a.stg ≤ 5 ∧ 0 ≤ a.cod ∧ a.cod ≤ 17)
theorem valid_iff (a : Ak) : a.valid = true ↔ (0 ≤ a.src ∧ a.src ≤ 15 ∧ 0 ≤ a.num ∧ a.num ≤ 65535 ∧ 1 ≤ a.stg ∧ a.stg ≤ 5 ∧ 0 ≤ a.cod ∧ a.cod ≤ 17) := by simp [Ak.valid]
theorem valid_no (a : Ak) (h : ¬ (0 ≤ a.src ∧ a.src ≤ 15 ∧ 0 ≤ a.num ∧ a.num ≤ 65535 ∧ 1 ≤ a.stg ∧ a.stg ≤ 5 ∧ 0 ≤ a.cod ∧ a.cod ≤ 17)) : a.valid = false := by
  cases e : a.valid
  · rfl
  · exact absurd ((valid_iff a).1 e) h
set_option maxHeartbeats 1000000 in
theorem valid_any (w : World) (a : Ak) : Calls Try.prog 48 #[aagg a] w fun e w' => e = .returned (.bool a.valid) ∧ w.alloc (abox a) = w' := by
  by_cases h0 : 0 ≤ a.src
  case neg =>
    have HV := Lib.hid (valid_no a (by omega))
    go_enter Try.func48, Try.ntmps48
    go_wp2
    go_ret
    exact ⟨by rw [HV.out]; rfl, rfl⟩
  by_cases h1 : a.src ≤ 15
  case neg =>
    have HV := Lib.hid (valid_no a (by omega))
    go_enter Try.func48, Try.ntmps48
    go_wp2
    go_ret
    exact ⟨by rw [HV.out]; rfl, rfl⟩
  by_cases h2 : 0 ≤ a.num
  case neg =>
    have HV := Lib.hid (valid_no a (by omega))
    go_enter Try.func48, Try.ntmps48
    go_wp2
    go_ret
    exact ⟨by rw [HV.out]; rfl, rfl⟩
  by_cases h3 : a.num ≤ 65535
  case neg =>
    have HV := Lib.hid (valid_no a (by omega))
    go_enter Try.func48, Try.ntmps48
    go_wp2
    go_ret
    exact ⟨by rw [HV.out]; rfl, rfl⟩
  by_cases h4 : 1 ≤ a.stg
  case neg =>
    have HV := Lib.hid (valid_no a (by omega))
    go_enter Try.func48, Try.ntmps48
    go_wp2
    go_ret
    exact ⟨by rw [HV.out]; rfl, rfl⟩
  by_cases h5 : a.stg ≤ 5
  case neg =>
    have HV := Lib.hid (valid_no a (by omega))
    go_enter Try.func48, Try.ntmps48
    go_wp2
    go_ret
    exact ⟨by rw [HV.out]; rfl, rfl⟩
  by_cases h6 : 0 ≤ a.cod
  case neg =>
    have HV := Lib.hid (valid_no a (by omega))
    go_enter Try.func48, Try.ntmps48
    go_wp2
    go_ret
    exact ⟨by rw [HV.out]; rfl, rfl⟩
  by_cases h7 : a.cod ≤ 17
  case neg =>
    have HV := Lib.hid (valid_no a (by omega))
    go_enter Try.func48, Try.ntmps48
    go_wp2
    go_ret
    exact ⟨by rw [HV.out]; rfl, rfl⟩
  have HV := Lib.hid ((valid_iff a).2 ⟨h0, h1, h2, h3, h4, h5, h6, h7⟩)
  go_enter Try.func48, Try.ntmps48
  go_wp2
  go_ret
  exact ⟨by rw [HV.out]; rfl, rfl⟩
theorem valid_v (w : World) (a : Ak) (b : Bool) (h : a.valid = b) : Calls Try.prog 48 #[aagg a] w fun e w' => e = .returned (.bool b) ∧ w.alloc (abox a) = w' := h ▸ valid_any w a
/-! ### Follows and Final -/
def follows (a b : Int) : Bool := decide ((a = 0 ∧ (b = 1 ∨ b = 4)) ∨ (a = 1 ∧ b = 2) ∨ (a = 2 ∧ (b = 3 ∨ b = 5)))
def final (a : Int) : Bool := decide (a = 3 ∨ a = 4 ∨ a = 5)
set_option maxHeartbeats 4000000 in
theorem follows_any (w : World) (a b : Int) : Calls Try.prog 54 #[.int .i64 a, .int .i64 b] w fun e w' => e = .returned (.bool (follows a b)) ∧ w = w' := by
  rcases (show a = 0 ∨ a = 1 ∨ a = 2 ∨ (a ≠ 0 ∧ a ≠ 1 ∧ a ≠ 2) by omega) with ha | ha | ha | ha
  all_goals
    rcases (show b = 1 ∨ b = 2 ∨ b = 3 ∨ b = 4 ∨ b = 5 ∨ (b ≠ 1 ∧ b ≠ 2 ∧ b ≠ 3 ∧ b ≠ 4 ∧ b ≠ 5) by omega) with hb | hb | hb | hb | hb | hb
  · have HV : Hid (follows a b = true) := by unfold Hid follows; simp; omega
    have ba0 : (a == 0) = true := beq_iff_eq.2 (by omega)
    have ba1 : (a == 1) = false := beq_eq_false_iff_ne.2 (by omega)
    have ba2 : (a == 2) = false := beq_eq_false_iff_ne.2 (by omega)
    have bb1 : (b == 1) = true := beq_iff_eq.2 (by omega)
    have bb2 : (b == 2) = false := beq_eq_false_iff_ne.2 (by omega)
    have bb3 : (b == 3) = false := beq_eq_false_iff_ne.2 (by omega)
    have bb4 : (b == 4) = false := beq_eq_false_iff_ne.2 (by omega)
    have bb5 : (b == 5) = false := beq_eq_false_iff_ne.2 (by omega)
    clear ha hb
    go_enter Try.func54, Try.ntmps54
    go_wp2
    go_ret
    exact ⟨by rw [HV.out]; rfl, rfl⟩
  · have HV : Hid (follows a b = false) := by unfold Hid follows; simp; omega
    have ba0 : (a == 0) = true := beq_iff_eq.2 (by omega)
    have ba1 : (a == 1) = false := beq_eq_false_iff_ne.2 (by omega)
    have ba2 : (a == 2) = false := beq_eq_false_iff_ne.2 (by omega)
    have bb1 : (b == 1) = false := beq_eq_false_iff_ne.2 (by omega)
    have bb2 : (b == 2) = true := beq_iff_eq.2 (by omega)
    have bb3 : (b == 3) = false := beq_eq_false_iff_ne.2 (by omega)
    have bb4 : (b == 4) = false := beq_eq_false_iff_ne.2 (by omega)
    have bb5 : (b == 5) = false := beq_eq_false_iff_ne.2 (by omega)
    clear ha hb
    go_enter Try.func54, Try.ntmps54
    go_wp2
    go_ret
    exact ⟨by rw [HV.out]; rfl, rfl⟩
  · have HV : Hid (follows a b = false) := by unfold Hid follows; simp; omega
    have ba0 : (a == 0) = true := beq_iff_eq.2 (by omega)
    have ba1 : (a == 1) = false := beq_eq_false_iff_ne.2 (by omega)
    have ba2 : (a == 2) = false := beq_eq_false_iff_ne.2 (by omega)
    have bb1 : (b == 1) = false := beq_eq_false_iff_ne.2 (by omega)
    have bb2 : (b == 2) = false := beq_eq_false_iff_ne.2 (by omega)
    have bb3 : (b == 3) = true := beq_iff_eq.2 (by omega)
    have bb4 : (b == 4) = false := beq_eq_false_iff_ne.2 (by omega)
    have bb5 : (b == 5) = false := beq_eq_false_iff_ne.2 (by omega)
    clear ha hb
    go_enter Try.func54, Try.ntmps54
    go_wp2
    go_ret
    exact ⟨by rw [HV.out]; rfl, rfl⟩
  · have HV : Hid (follows a b = true) := by unfold Hid follows; simp; omega
    have ba0 : (a == 0) = true := beq_iff_eq.2 (by omega)
    have ba1 : (a == 1) = false := beq_eq_false_iff_ne.2 (by omega)
    have ba2 : (a == 2) = false := beq_eq_false_iff_ne.2 (by omega)
    have bb1 : (b == 1) = false := beq_eq_false_iff_ne.2 (by omega)
    have bb2 : (b == 2) = false := beq_eq_false_iff_ne.2 (by omega)
    have bb3 : (b == 3) = false := beq_eq_false_iff_ne.2 (by omega)
    have bb4 : (b == 4) = true := beq_iff_eq.2 (by omega)
    have bb5 : (b == 5) = false := beq_eq_false_iff_ne.2 (by omega)
    clear ha hb
    go_enter Try.func54, Try.ntmps54
    go_wp2
    go_ret
    exact ⟨by rw [HV.out]; rfl, rfl⟩
  · have HV : Hid (follows a b = false) := by unfold Hid follows; simp; omega
    have ba0 : (a == 0) = true := beq_iff_eq.2 (by omega)
    have ba1 : (a == 1) = false := beq_eq_false_iff_ne.2 (by omega)
    have ba2 : (a == 2) = false := beq_eq_false_iff_ne.2 (by omega)
    have bb1 : (b == 1) = false := beq_eq_false_iff_ne.2 (by omega)
    have bb2 : (b == 2) = false := beq_eq_false_iff_ne.2 (by omega)
    have bb3 : (b == 3) = false := beq_eq_false_iff_ne.2 (by omega)
    have bb4 : (b == 4) = false := beq_eq_false_iff_ne.2 (by omega)
    have bb5 : (b == 5) = true := beq_iff_eq.2 (by omega)
    clear ha hb
    go_enter Try.func54, Try.ntmps54
    go_wp2
    go_ret
    exact ⟨by rw [HV.out]; rfl, rfl⟩
  · have HV : Hid (follows a b = false) := by unfold Hid follows; simp; omega
    have ba0 : (a == 0) = true := beq_iff_eq.2 (by omega)
    have ba1 : (a == 1) = false := beq_eq_false_iff_ne.2 (by omega)
    have ba2 : (a == 2) = false := beq_eq_false_iff_ne.2 (by omega)
    have bb1 : (b == 1) = false := beq_eq_false_iff_ne.2 (by omega)
    have bb2 : (b == 2) = false := beq_eq_false_iff_ne.2 (by omega)
    have bb3 : (b == 3) = false := beq_eq_false_iff_ne.2 (by omega)
    have bb4 : (b == 4) = false := beq_eq_false_iff_ne.2 (by omega)
    have bb5 : (b == 5) = false := beq_eq_false_iff_ne.2 (by omega)
    clear ha hb
    go_enter Try.func54, Try.ntmps54
    go_wp2
    go_ret
    exact ⟨by rw [HV.out]; rfl, rfl⟩
  · have HV : Hid (follows a b = false) := by unfold Hid follows; simp; omega
    have ba0 : (a == 0) = false := beq_eq_false_iff_ne.2 (by omega)
    have ba1 : (a == 1) = true := beq_iff_eq.2 (by omega)
    have ba2 : (a == 2) = false := beq_eq_false_iff_ne.2 (by omega)
    have bb1 : (b == 1) = true := beq_iff_eq.2 (by omega)
    have bb2 : (b == 2) = false := beq_eq_false_iff_ne.2 (by omega)
    have bb3 : (b == 3) = false := beq_eq_false_iff_ne.2 (by omega)
    have bb4 : (b == 4) = false := beq_eq_false_iff_ne.2 (by omega)
    have bb5 : (b == 5) = false := beq_eq_false_iff_ne.2 (by omega)
    clear ha hb
    go_enter Try.func54, Try.ntmps54
    go_wp2
    go_ret
    exact ⟨by rw [HV.out]; rfl, rfl⟩
  · have HV : Hid (follows a b = true) := by unfold Hid follows; simp; omega
    have ba0 : (a == 0) = false := beq_eq_false_iff_ne.2 (by omega)
    have ba1 : (a == 1) = true := beq_iff_eq.2 (by omega)
    have ba2 : (a == 2) = false := beq_eq_false_iff_ne.2 (by omega)
    have bb1 : (b == 1) = false := beq_eq_false_iff_ne.2 (by omega)
    have bb2 : (b == 2) = true := beq_iff_eq.2 (by omega)
    have bb3 : (b == 3) = false := beq_eq_false_iff_ne.2 (by omega)
    have bb4 : (b == 4) = false := beq_eq_false_iff_ne.2 (by omega)
    have bb5 : (b == 5) = false := beq_eq_false_iff_ne.2 (by omega)
    clear ha hb
    go_enter Try.func54, Try.ntmps54
    go_wp2
    go_ret
    exact ⟨by rw [HV.out]; rfl, rfl⟩
  · have HV : Hid (follows a b = false) := by unfold Hid follows; simp; omega
    have ba0 : (a == 0) = false := beq_eq_false_iff_ne.2 (by omega)
    have ba1 : (a == 1) = true := beq_iff_eq.2 (by omega)
    have ba2 : (a == 2) = false := beq_eq_false_iff_ne.2 (by omega)
    have bb1 : (b == 1) = false := beq_eq_false_iff_ne.2 (by omega)
    have bb2 : (b == 2) = false := beq_eq_false_iff_ne.2 (by omega)
    have bb3 : (b == 3) = true := beq_iff_eq.2 (by omega)
    have bb4 : (b == 4) = false := beq_eq_false_iff_ne.2 (by omega)
    have bb5 : (b == 5) = false := beq_eq_false_iff_ne.2 (by omega)
    clear ha hb
    go_enter Try.func54, Try.ntmps54
    go_wp2
    go_ret
    exact ⟨by rw [HV.out]; rfl, rfl⟩
  · have HV : Hid (follows a b = false) := by unfold Hid follows; simp; omega
    have ba0 : (a == 0) = false := beq_eq_false_iff_ne.2 (by omega)
    have ba1 : (a == 1) = true := beq_iff_eq.2 (by omega)
    have ba2 : (a == 2) = false := beq_eq_false_iff_ne.2 (by omega)
    have bb1 : (b == 1) = false := beq_eq_false_iff_ne.2 (by omega)
    have bb2 : (b == 2) = false := beq_eq_false_iff_ne.2 (by omega)
    have bb3 : (b == 3) = false := beq_eq_false_iff_ne.2 (by omega)
    have bb4 : (b == 4) = true := beq_iff_eq.2 (by omega)
    have bb5 : (b == 5) = false := beq_eq_false_iff_ne.2 (by omega)
    clear ha hb
    go_enter Try.func54, Try.ntmps54
    go_wp2
    go_ret
    exact ⟨by rw [HV.out]; rfl, rfl⟩
  · have HV : Hid (follows a b = false) := by unfold Hid follows; simp; omega
    have ba0 : (a == 0) = false := beq_eq_false_iff_ne.2 (by omega)
    have ba1 : (a == 1) = true := beq_iff_eq.2 (by omega)
    have ba2 : (a == 2) = false := beq_eq_false_iff_ne.2 (by omega)
    have bb1 : (b == 1) = false := beq_eq_false_iff_ne.2 (by omega)
    have bb2 : (b == 2) = false := beq_eq_false_iff_ne.2 (by omega)
    have bb3 : (b == 3) = false := beq_eq_false_iff_ne.2 (by omega)
    have bb4 : (b == 4) = false := beq_eq_false_iff_ne.2 (by omega)
    have bb5 : (b == 5) = true := beq_iff_eq.2 (by omega)
    clear ha hb
    go_enter Try.func54, Try.ntmps54
    go_wp2
    go_ret
    exact ⟨by rw [HV.out]; rfl, rfl⟩
  · have HV : Hid (follows a b = false) := by unfold Hid follows; simp; omega
    have ba0 : (a == 0) = false := beq_eq_false_iff_ne.2 (by omega)
    have ba1 : (a == 1) = true := beq_iff_eq.2 (by omega)
    have ba2 : (a == 2) = false := beq_eq_false_iff_ne.2 (by omega)
    have bb1 : (b == 1) = false := beq_eq_false_iff_ne.2 (by omega)
    have bb2 : (b == 2) = false := beq_eq_false_iff_ne.2 (by omega)
    have bb3 : (b == 3) = false := beq_eq_false_iff_ne.2 (by omega)
    have bb4 : (b == 4) = false := beq_eq_false_iff_ne.2 (by omega)
    have bb5 : (b == 5) = false := beq_eq_false_iff_ne.2 (by omega)
    clear ha hb
    go_enter Try.func54, Try.ntmps54
    go_wp2
    go_ret
    exact ⟨by rw [HV.out]; rfl, rfl⟩
  · have HV : Hid (follows a b = false) := by unfold Hid follows; simp; omega
    have ba0 : (a == 0) = false := beq_eq_false_iff_ne.2 (by omega)
    have ba1 : (a == 1) = false := beq_eq_false_iff_ne.2 (by omega)
    have ba2 : (a == 2) = true := beq_iff_eq.2 (by omega)
    have bb1 : (b == 1) = true := beq_iff_eq.2 (by omega)
    have bb2 : (b == 2) = false := beq_eq_false_iff_ne.2 (by omega)
    have bb3 : (b == 3) = false := beq_eq_false_iff_ne.2 (by omega)
    have bb4 : (b == 4) = false := beq_eq_false_iff_ne.2 (by omega)
    have bb5 : (b == 5) = false := beq_eq_false_iff_ne.2 (by omega)
    clear ha hb
    go_enter Try.func54, Try.ntmps54
    go_wp2
    go_ret
    exact ⟨by rw [HV.out]; rfl, rfl⟩
  · have HV : Hid (follows a b = false) := by unfold Hid follows; simp; omega
    have ba0 : (a == 0) = false := beq_eq_false_iff_ne.2 (by omega)
    have ba1 : (a == 1) = false := beq_eq_false_iff_ne.2 (by omega)
    have ba2 : (a == 2) = true := beq_iff_eq.2 (by omega)
    have bb1 : (b == 1) = false := beq_eq_false_iff_ne.2 (by omega)
    have bb2 : (b == 2) = true := beq_iff_eq.2 (by omega)
    have bb3 : (b == 3) = false := beq_eq_false_iff_ne.2 (by omega)
    have bb4 : (b == 4) = false := beq_eq_false_iff_ne.2 (by omega)
    have bb5 : (b == 5) = false := beq_eq_false_iff_ne.2 (by omega)
    clear ha hb
    go_enter Try.func54, Try.ntmps54
    go_wp2
    go_ret
    exact ⟨by rw [HV.out]; rfl, rfl⟩
  · have HV : Hid (follows a b = true) := by unfold Hid follows; simp; omega
    have ba0 : (a == 0) = false := beq_eq_false_iff_ne.2 (by omega)
    have ba1 : (a == 1) = false := beq_eq_false_iff_ne.2 (by omega)
    have ba2 : (a == 2) = true := beq_iff_eq.2 (by omega)
    have bb1 : (b == 1) = false := beq_eq_false_iff_ne.2 (by omega)
    have bb2 : (b == 2) = false := beq_eq_false_iff_ne.2 (by omega)
    have bb3 : (b == 3) = true := beq_iff_eq.2 (by omega)
    have bb4 : (b == 4) = false := beq_eq_false_iff_ne.2 (by omega)
    have bb5 : (b == 5) = false := beq_eq_false_iff_ne.2 (by omega)
    clear ha hb
    go_enter Try.func54, Try.ntmps54
    go_wp2
    go_ret
    exact ⟨by rw [HV.out]; rfl, rfl⟩
  · have HV : Hid (follows a b = false) := by unfold Hid follows; simp; omega
    have ba0 : (a == 0) = false := beq_eq_false_iff_ne.2 (by omega)
    have ba1 : (a == 1) = false := beq_eq_false_iff_ne.2 (by omega)
    have ba2 : (a == 2) = true := beq_iff_eq.2 (by omega)
    have bb1 : (b == 1) = false := beq_eq_false_iff_ne.2 (by omega)
    have bb2 : (b == 2) = false := beq_eq_false_iff_ne.2 (by omega)
    have bb3 : (b == 3) = false := beq_eq_false_iff_ne.2 (by omega)
    have bb4 : (b == 4) = true := beq_iff_eq.2 (by omega)
    have bb5 : (b == 5) = false := beq_eq_false_iff_ne.2 (by omega)
    clear ha hb
    go_enter Try.func54, Try.ntmps54
    go_wp2
    go_ret
    exact ⟨by rw [HV.out]; rfl, rfl⟩
  · have HV : Hid (follows a b = true) := by unfold Hid follows; simp; omega
    have ba0 : (a == 0) = false := beq_eq_false_iff_ne.2 (by omega)
    have ba1 : (a == 1) = false := beq_eq_false_iff_ne.2 (by omega)
    have ba2 : (a == 2) = true := beq_iff_eq.2 (by omega)
    have bb1 : (b == 1) = false := beq_eq_false_iff_ne.2 (by omega)
    have bb2 : (b == 2) = false := beq_eq_false_iff_ne.2 (by omega)
    have bb3 : (b == 3) = false := beq_eq_false_iff_ne.2 (by omega)
    have bb4 : (b == 4) = false := beq_eq_false_iff_ne.2 (by omega)
    have bb5 : (b == 5) = true := beq_iff_eq.2 (by omega)
    clear ha hb
    go_enter Try.func54, Try.ntmps54
    go_wp2
    go_ret
    exact ⟨by rw [HV.out]; rfl, rfl⟩
  · have HV : Hid (follows a b = false) := by unfold Hid follows; simp; omega
    have ba0 : (a == 0) = false := beq_eq_false_iff_ne.2 (by omega)
    have ba1 : (a == 1) = false := beq_eq_false_iff_ne.2 (by omega)
    have ba2 : (a == 2) = true := beq_iff_eq.2 (by omega)
    have bb1 : (b == 1) = false := beq_eq_false_iff_ne.2 (by omega)
    have bb2 : (b == 2) = false := beq_eq_false_iff_ne.2 (by omega)
    have bb3 : (b == 3) = false := beq_eq_false_iff_ne.2 (by omega)
    have bb4 : (b == 4) = false := beq_eq_false_iff_ne.2 (by omega)
    have bb5 : (b == 5) = false := beq_eq_false_iff_ne.2 (by omega)
    clear ha hb
    go_enter Try.func54, Try.ntmps54
    go_wp2
    go_ret
    exact ⟨by rw [HV.out]; rfl, rfl⟩
  · have HV : Hid (follows a b = false) := by unfold Hid follows; simp; omega
    have ba0 : (a == 0) = false := beq_eq_false_iff_ne.2 (by omega)
    have ba1 : (a == 1) = false := beq_eq_false_iff_ne.2 (by omega)
    have ba2 : (a == 2) = false := beq_eq_false_iff_ne.2 (by omega)
    have bb1 : (b == 1) = true := beq_iff_eq.2 (by omega)
    have bb2 : (b == 2) = false := beq_eq_false_iff_ne.2 (by omega)
    have bb3 : (b == 3) = false := beq_eq_false_iff_ne.2 (by omega)
    have bb4 : (b == 4) = false := beq_eq_false_iff_ne.2 (by omega)
    have bb5 : (b == 5) = false := beq_eq_false_iff_ne.2 (by omega)
    clear ha hb
    go_enter Try.func54, Try.ntmps54
    go_wp2
    go_ret
    exact ⟨by rw [HV.out]; rfl, rfl⟩
  · have HV : Hid (follows a b = false) := by unfold Hid follows; simp; omega
    have ba0 : (a == 0) = false := beq_eq_false_iff_ne.2 (by omega)
    have ba1 : (a == 1) = false := beq_eq_false_iff_ne.2 (by omega)
    have ba2 : (a == 2) = false := beq_eq_false_iff_ne.2 (by omega)
    have bb1 : (b == 1) = false := beq_eq_false_iff_ne.2 (by omega)
    have bb2 : (b == 2) = true := beq_iff_eq.2 (by omega)
    have bb3 : (b == 3) = false := beq_eq_false_iff_ne.2 (by omega)
    have bb4 : (b == 4) = false := beq_eq_false_iff_ne.2 (by omega)
    have bb5 : (b == 5) = false := beq_eq_false_iff_ne.2 (by omega)
    clear ha hb
    go_enter Try.func54, Try.ntmps54
    go_wp2
    go_ret
    exact ⟨by rw [HV.out]; rfl, rfl⟩
  · have HV : Hid (follows a b = false) := by unfold Hid follows; simp; omega
    have ba0 : (a == 0) = false := beq_eq_false_iff_ne.2 (by omega)
    have ba1 : (a == 1) = false := beq_eq_false_iff_ne.2 (by omega)
    have ba2 : (a == 2) = false := beq_eq_false_iff_ne.2 (by omega)
    have bb1 : (b == 1) = false := beq_eq_false_iff_ne.2 (by omega)
    have bb2 : (b == 2) = false := beq_eq_false_iff_ne.2 (by omega)
    have bb3 : (b == 3) = true := beq_iff_eq.2 (by omega)
    have bb4 : (b == 4) = false := beq_eq_false_iff_ne.2 (by omega)
    have bb5 : (b == 5) = false := beq_eq_false_iff_ne.2 (by omega)
    clear ha hb
    go_enter Try.func54, Try.ntmps54
    go_wp2
    go_ret
    exact ⟨by rw [HV.out]; rfl, rfl⟩
  · have HV : Hid (follows a b = false) := by unfold Hid follows; simp; omega
    have ba0 : (a == 0) = false := beq_eq_false_iff_ne.2 (by omega)
    have ba1 : (a == 1) = false := beq_eq_false_iff_ne.2 (by omega)
    have ba2 : (a == 2) = false := beq_eq_false_iff_ne.2 (by omega)
    have bb1 : (b == 1) = false := beq_eq_false_iff_ne.2 (by omega)
    have bb2 : (b == 2) = false := beq_eq_false_iff_ne.2 (by omega)
    have bb3 : (b == 3) = false := beq_eq_false_iff_ne.2 (by omega)
    have bb4 : (b == 4) = true := beq_iff_eq.2 (by omega)
    have bb5 : (b == 5) = false := beq_eq_false_iff_ne.2 (by omega)
    clear ha hb
    go_enter Try.func54, Try.ntmps54
    go_wp2
    go_ret
    exact ⟨by rw [HV.out]; rfl, rfl⟩
  · have HV : Hid (follows a b = false) := by unfold Hid follows; simp; omega
    have ba0 : (a == 0) = false := beq_eq_false_iff_ne.2 (by omega)
    have ba1 : (a == 1) = false := beq_eq_false_iff_ne.2 (by omega)
    have ba2 : (a == 2) = false := beq_eq_false_iff_ne.2 (by omega)
    have bb1 : (b == 1) = false := beq_eq_false_iff_ne.2 (by omega)
    have bb2 : (b == 2) = false := beq_eq_false_iff_ne.2 (by omega)
    have bb3 : (b == 3) = false := beq_eq_false_iff_ne.2 (by omega)
    have bb4 : (b == 4) = false := beq_eq_false_iff_ne.2 (by omega)
    have bb5 : (b == 5) = true := beq_iff_eq.2 (by omega)
    clear ha hb
    go_enter Try.func54, Try.ntmps54
    go_wp2
    go_ret
    exact ⟨by rw [HV.out]; rfl, rfl⟩
  · have HV : Hid (follows a b = false) := by unfold Hid follows; simp; omega
    have ba0 : (a == 0) = false := beq_eq_false_iff_ne.2 (by omega)
    have ba1 : (a == 1) = false := beq_eq_false_iff_ne.2 (by omega)
    have ba2 : (a == 2) = false := beq_eq_false_iff_ne.2 (by omega)
    have bb1 : (b == 1) = false := beq_eq_false_iff_ne.2 (by omega)
    have bb2 : (b == 2) = false := beq_eq_false_iff_ne.2 (by omega)
    have bb3 : (b == 3) = false := beq_eq_false_iff_ne.2 (by omega)
    have bb4 : (b == 4) = false := beq_eq_false_iff_ne.2 (by omega)
    have bb5 : (b == 5) = false := beq_eq_false_iff_ne.2 (by omega)
    clear ha hb
    go_enter Try.func54, Try.ntmps54
    go_wp2
    go_ret
    exact ⟨by rw [HV.out]; rfl, rfl⟩
theorem follows_v (w : World) (a b : Int) (v : Bool) (h : follows a b = v) : Calls Try.prog 54 #[.int .i64 a, .int .i64 b] w fun e w' => e = .returned (.bool v) ∧ w = w' := h ▸ follows_any w a b
set_option maxHeartbeats 1000000 in
theorem final_any (w : World) (a : Int) : Calls Try.prog 55 #[.int .i64 a] w fun e w' => e = .returned (.bool (final a)) ∧ w = w' := by
  rcases (show a = 3 ∨ a = 4 ∨ a = 5 ∨ (a ≠ 3 ∧ a ≠ 4 ∧ a ≠ 5) by omega) with ha | ha | ha | ha
  · have HV : Hid (final a = true) := by unfold Hid final; simp; omega
    have ba3 : (a == 3) = true := beq_iff_eq.2 (by omega)
    have ba4 : (a == 4) = false := beq_eq_false_iff_ne.2 (by omega)
    have ba5 : (a == 5) = false := beq_eq_false_iff_ne.2 (by omega)
    clear ha
    go_enter Try.func55, Try.ntmps55
    go_wp2
    go_ret
    exact ⟨by rw [HV.out]; rfl, rfl⟩
  · have HV : Hid (final a = true) := by unfold Hid final; simp; omega
    have ba3 : (a == 3) = false := beq_eq_false_iff_ne.2 (by omega)
    have ba4 : (a == 4) = true := beq_iff_eq.2 (by omega)
    have ba5 : (a == 5) = false := beq_eq_false_iff_ne.2 (by omega)
    clear ha
    go_enter Try.func55, Try.ntmps55
    go_wp2
    go_ret
    exact ⟨by rw [HV.out]; rfl, rfl⟩
  · have HV : Hid (final a = true) := by unfold Hid final; simp; omega
    have ba3 : (a == 3) = false := beq_eq_false_iff_ne.2 (by omega)
    have ba4 : (a == 4) = false := beq_eq_false_iff_ne.2 (by omega)
    have ba5 : (a == 5) = true := beq_iff_eq.2 (by omega)
    clear ha
    go_enter Try.func55, Try.ntmps55
    go_wp2
    go_ret
    exact ⟨by rw [HV.out]; rfl, rfl⟩
  · have HV : Hid (final a = false) := by unfold Hid final; simp; omega
    have ba3 : (a == 3) = false := beq_eq_false_iff_ne.2 (by omega)
    have ba4 : (a == 4) = false := beq_eq_false_iff_ne.2 (by omega)
    have ba5 : (a == 5) = false := beq_eq_false_iff_ne.2 (by omega)
    clear ha
    go_enter Try.func55, Try.ntmps55
    go_wp2
    go_ret
    exact ⟨by rw [HV.out]; rfl, rfl⟩
theorem final_v (w : World) (a : Int) (v : Bool) (h : final a = v) : Calls Try.prog 55 #[.int .i64 a] w fun e w' => e = .returned (.bool v) ∧ w = w' := h ▸ final_any w a
end Go.Proofs.Ytfkbcflgbjncdaa
