/- The contracts of Valid and Check of the limits and of their reference. -/
import Derived.Test.YtmefdiidgnpklaaLL
import Derived.Test.YtmefdiidgnpklaaPlain
import Derived.BigQuiet
import Derived.Deep.QuietTactic
import Derived.BigRegion
import Derived.Lib.Hide
namespace Go.Proofs.Ytmefdiidgnpklaa
set_option linter.unusedVariables false
set_option linter.unusedSimpArgs false
open Go.RowKit
abbrev bptr (g : Nat) : Value := .pointer (some ⟨g, 0, none⟩)
abbrev lbox (l : Li) : Obj := .cells #[.int .i64 l.hl, .int .i64 l.sl, .int .i64 l.sh, .int .i64 l.hh] 23
abbrev lagg (l : Li) : Value := .agg #[.int .i64 l.hl, .int .i64 l.sl, .int .i64 l.sh, .int .i64 l.hh]
theorem valid_of (l : Li) (h1 : l.hl ≤ l.sl) (h2 : l.sl ≤ l.sh) (h3 : l.sh ≤ l.hh) : l.valid = true := (valid_iff l).2 ⟨h1, h2, h3⟩
theorem valid_no (l : Li) (h : ¬ (l.hl ≤ l.sl ∧ l.sl ≤ l.sh ∧ l.sh ≤ l.hh)) : l.valid = false := by
  cases e : l.valid
  · rfl
  · exact absurd ((valid_iff l).1 e) h
theorem check_0 (l : Li) (v : Int) (h : l.valid = false) : l.check v = 0 := if_pos h
theorem check_3 (l : Li) (v : Int) (h : l.valid = true) (h1 : v < l.hl) : l.check v = 3 := by rw [Li.check, if_neg (by simp [h]), if_pos h1]
theorem check_4 (l : Li) (v : Int) (h : l.valid = true) (h1 : ¬ v < l.hl) (h2 : l.hh < v) : l.check v = 4 := by rw [Li.check, if_neg (by simp [h]), if_neg h1, if_pos h2]
theorem check_1 (l : Li) (v : Int) (h : l.valid = true) (h1 : ¬ v < l.hl) (h2 : ¬ l.hh < v) (h3 : v < l.sl) : l.check v = 1 := by rw [Li.check, if_neg (by simp [h]), if_neg h1, if_neg h2, if_pos h3]
theorem check_2 (l : Li) (v : Int) (h : l.valid = true) (h1 : ¬ v < l.hl) (h2 : ¬ l.hh < v) (h3 : ¬ v < l.sl) (h4 : l.sh < v) : l.check v = 2 := by rw [Li.check, if_neg (by simp [h]), if_neg h1, if_neg h2, if_neg h3, if_pos h4]
theorem check_5 (l : Li) (v : Int) (h : l.valid = true) (h1 : ¬ v < l.hl) (h2 : ¬ l.hh < v) (h3 : ¬ v < l.sl) (h4 : ¬ l.sh < v) : l.check v = 0 := by rw [Li.check, if_neg (by simp [h]), if_neg h1, if_neg h2, if_neg h3, if_neg h4]

set_option maxHeartbeats 400000 in
theorem valid_any (w : World) (l : Li) : Calls Try.prog 8 #[lagg l] w fun e w' => e = .returned (.bool l.valid) ∧ w.alloc (lbox l) = w' := by
  by_cases h1 : l.hl ≤ l.sl
  · by_cases h2 : l.sl ≤ l.sh
    · by_cases h3 : l.sh ≤ l.hh
      · have HV := Lib.hid (valid_of l h1 h2 h3)
        go_enter Try.func8, Try.ntmps8
        go_wp2
        go_ret
        exact ⟨by rw [HV.out]; rfl, rfl⟩
      · have HV := Lib.hid (valid_no l (fun h => h3 h.2.2))
        go_enter Try.func8, Try.ntmps8
        go_wp2
        go_ret
        exact ⟨by rw [HV.out]; rfl, rfl⟩
    · have HV := Lib.hid (valid_no l (fun h => h2 h.2.1))
      go_enter Try.func8, Try.ntmps8
      go_wp2
      go_ret
      exact ⟨by rw [HV.out]; rfl, rfl⟩
  · have HV := Lib.hid (valid_no l (fun h => h1 h.1))
    go_enter Try.func8, Try.ntmps8
    go_wp2
    go_ret
    exact ⟨by rw [HV.out]; rfl, rfl⟩
theorem valid_v (w : World) (l : Li) (b : Bool) (h : l.valid = b) : Calls Try.prog 8 #[lagg l] w fun e w' => e = .returned (.bool b) ∧ w.alloc (lbox l) = w' := h ▸ valid_any w l
set_option maxHeartbeats 1000000 in
theorem check_any (w : World) (l : Li) (v : Int) : Calls Try.prog 10 #[lagg l, .int .i64 v] w fun e w' => e = .returned (.int .i64 (l.check v)) ∧ (w.alloc (lbox l)).alloc (lbox l) = w' := by
  cases hb : l.valid with
  | false =>
    have HV := Lib.hid (check_0 l v hb)
    have HB := Lib.hid hb
    clear hb
    go_enter Try.func10, Try.ntmps10
    go_wp2_with fail
    refine (valid_v _ l false HB.out).mono ?_
    rintro e w' ⟨rfl, rfl⟩
    go_wp2_with fail
    go_ret
    exact ⟨by rw [HV.out]; rfl, rfl⟩
  | true =>
    have HB := Lib.hid hb
    clear hb
    by_cases h1 : v < l.hl
    · have HV := Lib.hid (check_3 l v HB.out h1)
      go_enter Try.func10, Try.ntmps10
      go_wp2_with fail
      refine (valid_v _ l true HB.out).mono ?_
      rintro e w' ⟨rfl, rfl⟩
      go_wp2_with fail
      go_ret
      exact ⟨by rw [HV.out]; rfl, rfl⟩
    by_cases h2 : l.hh < v
    · have HV := Lib.hid (check_4 l v HB.out h1 h2)
      go_enter Try.func10, Try.ntmps10
      go_wp2_with fail
      refine (valid_v _ l true HB.out).mono ?_
      rintro e w' ⟨rfl, rfl⟩
      go_wp2_with fail
      go_ret
      exact ⟨by rw [HV.out]; rfl, rfl⟩
    by_cases h3 : v < l.sl
    · have HV := Lib.hid (check_1 l v HB.out h1 h2 h3)
      go_enter Try.func10, Try.ntmps10
      go_wp2_with fail
      refine (valid_v _ l true HB.out).mono ?_
      rintro e w' ⟨rfl, rfl⟩
      go_wp2_with fail
      go_ret
      exact ⟨by rw [HV.out]; rfl, rfl⟩
    by_cases h4 : l.sh < v
    · have HV := Lib.hid (check_2 l v HB.out h1 h2 h3 h4)
      go_enter Try.func10, Try.ntmps10
      go_wp2_with fail
      refine (valid_v _ l true HB.out).mono ?_
      rintro e w' ⟨rfl, rfl⟩
      go_wp2_with fail
      go_ret
      exact ⟨by rw [HV.out]; rfl, rfl⟩
    have HV := Lib.hid (check_5 l v HB.out h1 h2 h3 h4)
    go_enter Try.func10, Try.ntmps10
    go_wp2_with fail
    refine (valid_v _ l true HB.out).mono ?_
    rintro e w' ⟨rfl, rfl⟩
    go_wp2_with fail
    go_ret
    exact ⟨by rw [HV.out]; rfl, rfl⟩
theorem check_v (w : World) (l : Li) (v x : Int) (h : l.check v = x) : Calls Try.prog 10 #[lagg l, .int .i64 v] w fun e w' => e = .returned (.int .i64 x) ∧ (w.alloc (lbox l)).alloc (lbox l) = w' := h ▸ check_any w l v
set_option maxHeartbeats 400000 in
theorem rvalid_any (w : World) (l : Li) : Calls Try.prog 9 #[lagg l] w fun e w' => e = .returned (.bool l.valid) ∧ w.alloc (lbox l) = w' := by
  by_cases h1 : l.hl ≤ l.sl
  · by_cases h2 : l.sl ≤ l.sh
    · by_cases h3 : l.sh ≤ l.hh
      · have HV := Lib.hid (valid_of l h1 h2 h3)
        go_enter Try.func9, Try.ntmps9
        go_wp2
        go_ret
        exact ⟨by rw [HV.out]; rfl, rfl⟩
      · have HV := Lib.hid (valid_no l (fun h => h3 h.2.2))
        go_enter Try.func9, Try.ntmps9
        go_wp2
        go_ret
        exact ⟨by rw [HV.out]; rfl, rfl⟩
    · have HV := Lib.hid (valid_no l (fun h => h2 h.2.1))
      go_enter Try.func9, Try.ntmps9
      go_wp2
      go_ret
      exact ⟨by rw [HV.out]; rfl, rfl⟩
  · have HV := Lib.hid (valid_no l (fun h => h1 h.1))
    go_enter Try.func9, Try.ntmps9
    go_wp2
    go_ret
    exact ⟨by rw [HV.out]; rfl, rfl⟩
theorem rvalid_v (w : World) (l : Li) (b : Bool) (h : l.valid = b) : Calls Try.prog 9 #[lagg l] w fun e w' => e = .returned (.bool b) ∧ w.alloc (lbox l) = w' := h ▸ rvalid_any w l
set_option maxHeartbeats 1000000 in
theorem rcheck_any (w : World) (l : Li) (v : Int) : Calls Try.prog 11 #[lagg l, .int .i64 v] w fun e w' => e = .returned (.int .i64 (l.check v)) ∧ (w.alloc (lbox l)).alloc (lbox l) = w' := by
  cases hb : l.valid with
  | false =>
    have HV := Lib.hid (check_0 l v hb)
    have HB := Lib.hid hb
    clear hb
    go_enter Try.func11, Try.ntmps11
    go_wp2_with fail
    refine (rvalid_v _ l false HB.out).mono ?_
    rintro e w' ⟨rfl, rfl⟩
    go_wp2_with fail
    go_ret
    exact ⟨by rw [HV.out]; rfl, rfl⟩
  | true =>
    have HB := Lib.hid hb
    clear hb
    by_cases h1 : v < l.hl
    · have HV := Lib.hid (check_3 l v HB.out h1)
      go_enter Try.func11, Try.ntmps11
      go_wp2_with fail
      refine (rvalid_v _ l true HB.out).mono ?_
      rintro e w' ⟨rfl, rfl⟩
      go_wp2_with fail
      go_ret
      exact ⟨by rw [HV.out]; rfl, rfl⟩
    by_cases h2 : l.hh < v
    · have HV := Lib.hid (check_4 l v HB.out h1 h2)
      go_enter Try.func11, Try.ntmps11
      go_wp2_with fail
      refine (rvalid_v _ l true HB.out).mono ?_
      rintro e w' ⟨rfl, rfl⟩
      go_wp2_with fail
      go_ret
      exact ⟨by rw [HV.out]; rfl, rfl⟩
    by_cases h3 : v < l.sl
    · have HV := Lib.hid (check_1 l v HB.out h1 h2 h3)
      go_enter Try.func11, Try.ntmps11
      go_wp2_with fail
      refine (rvalid_v _ l true HB.out).mono ?_
      rintro e w' ⟨rfl, rfl⟩
      go_wp2_with fail
      go_ret
      exact ⟨by rw [HV.out]; rfl, rfl⟩
    by_cases h4 : l.sh < v
    · have HV := Lib.hid (check_2 l v HB.out h1 h2 h3 h4)
      go_enter Try.func11, Try.ntmps11
      go_wp2_with fail
      refine (rvalid_v _ l true HB.out).mono ?_
      rintro e w' ⟨rfl, rfl⟩
      go_wp2_with fail
      go_ret
      exact ⟨by rw [HV.out]; rfl, rfl⟩
    have HV := Lib.hid (check_5 l v HB.out h1 h2 h3 h4)
    go_enter Try.func11, Try.ntmps11
    go_wp2_with fail
    refine (rvalid_v _ l true HB.out).mono ?_
    rintro e w' ⟨rfl, rfl⟩
    go_wp2_with fail
    go_ret
    exact ⟨by rw [HV.out]; rfl, rfl⟩
theorem rcheck_v (w : World) (l : Li) (v x : Int) (h : l.check v = x) : Calls Try.prog 11 #[lagg l, .int .i64 v] w fun e w' => e = .returned (.int .i64 x) ∧ (w.alloc (lbox l)).alloc (lbox l) = w' := h ▸ rcheck_any w l v
end Go.Proofs.Ytmefdiidgnpklaa
