/- The reference's units: Valid, all kinds; Forward. -/
import Derived.Test.YtijionfhnoffcaaPWalkEM
namespace Go.Proofs.Ytijionfhnoffcaa
set_option linter.unusedVariables false
set_option linter.unusedSimpArgs false
open Go.RowKit
theorem rvalid_b (w : World) (p : Pd) (l : Lc) (v : Bool) (hp : PIn w p l) (hv : validP p = v) : Calls Try.prog 13 #[.agg (pcs p l)] w fun e w' => e = .returned (.bool v) ∧ Keep w.heap.size [] w w' := by
  cases hh : headB p with
  | false =>
    have ev : v = false := by rw [← hv]; unfold validP; rw [hh]; rfl
    subst ev
    exact rvalid_no w p l hh
  | true =>
    by_cases h1 : p.kind = 1; · exact rvalid_1 w p l v hp hh h1 hv
    by_cases h2 : p.kind = 2; · exact rvalid_2 w p l v hp hh h2 hv
    by_cases h3 : p.kind = 3; · exact rvalid_3 w p l v hp hh h3 hv
    by_cases h4 : p.kind = 4; · exact rvalid_4 w p l v hp hh h4 hv
    by_cases h5 : p.kind = 5; · exact rvalid_5 w p l v hp hh h5 hv
    have hh' := hh
    unfold headB at hh'
    simp only [Bool.and_eq_true, inB_iff] at hh'
    exact rvalid_0 w p l v hp hh (by omega) hv
def fwdB (k : Int) : Bool := inB k 1 3 || decide (k = 7)
theorem pfwd_b (w : World) (k : Int) (v : Bool) (hv : fwdB k = v) : Calls Try.prog 14 #[.int .i64 k] w fun e w' => e = .returned (.bool v) ∧ w = w' := by
  have HV := Lib.hid hv
  clear hv
  obtain ⟨b, hb⟩ : ∃ b, inB k 1 3 = b := ⟨_, rfl⟩
  have HB := Lib.hid hb
  clear hb
  go_enter Try.func14, Try.ntmps14
  go_wp2_with fail
  refine (within_b _ _ _ _ b HB.out).mono ?_
  rintro e w' ⟨rfl, rfl⟩
  cases b
  all_goals go_wp2_with fail
  all_goals go_ret
  all_goals
    refine ⟨?_, rfl⟩
    rw [← HV.out]
    unfold fwdB
    rw [HB.out]
    simp
  all_goals try (by_cases h7 : k = 7 <;> simp [h7])
theorem rfwd_b (w : World) (k : Int) (v : Bool) (hv : fwdB k = v) : Calls Try.prog 15 #[.int .i64 k] w fun e w' => e = .returned (.bool v) ∧ w = w' := by
  have HV := Lib.hid hv
  clear hv
  go_enter Try.func15, Try.ntmps15
  go_wp2_with fail
  all_goals go_ret
  all_goals
    refine ⟨?_, rfl⟩
    rw [← HV.out]
    unfold fwdB inB
    simp_all
  all_goals
    rename_i x1 x2 x3
    rw [beq_false_of_ne x1, beq_false_of_ne x2, beq_false_of_ne x3]
    by_cases g7 : k = 7
    · subst g7; rfl
    · rw [beq_false_of_ne g7, decide_eq_false g7]
      have : (decide (1 ≤ k) && decide (k ≤ 3)) = false := by
        by_cases g1 : 1 ≤ k
        · rw [decide_eq_false (show ¬ k ≤ 3 by omega)]; simp
        · rw [decide_eq_false g1]; rfl
      rw [this]; rfl
end Go.Proofs.Ytijionfhnoffcaa
