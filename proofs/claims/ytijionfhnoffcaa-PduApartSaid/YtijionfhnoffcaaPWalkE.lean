/- The reference's units: Valid. -/
import Derived.Test.YtijionfhnoffcaaPWalkD
import Derived.Test.YtijionfhnoffcaaPWalkG
import Derived.Test.YtijionfhnoffcaaPWalkB
namespace Go.Proofs.Ytijionfhnoffcaa
set_option linter.unusedVariables false
set_option linter.unusedSimpArgs false
open Go.RowKit
theorem len0 {α : Type} (L : List α) [DecidableEq (List α)] : ((L.length : Int) == 0) = decide (L = []) := by
  cases L <;> simp <;> omega
theorem headB_no {p : Pd} (h : headB p = false) : p.kind < 1 ∨ 7 < p.kind ∨ p.src < 0 ∨ 15 < p.src ∨ p.num < 0 ∨ 65535 < p.num := by
  by_cases h1 : p.kind < 1; · exact .inl h1
  by_cases h2 : 7 < p.kind; · exact .inr (.inl h2)
  by_cases h3 : p.src < 0; · exact .inr (.inr (.inl h3))
  by_cases h4 : 15 < p.src; · exact .inr (.inr (.inr (.inl h4)))
  by_cases h5 : p.num < 0; · exact .inr (.inr (.inr (.inr (.inl h5))))
  by_cases h6 : 65535 < p.num; · exact .inr (.inr (.inr (.inr (.inr h6))))
  have : headB p = true := by
    unfold headB
    rw [inB_iff.2 (by omega), inB_iff.2 (by omega), inB_iff.2 (by omega)]; rfl
  rw [this] at h; cases h
set_option maxRecDepth 100000 in
set_option maxHeartbeats 16000000 in
theorem rvalid_no (w : World) (p : Pd) (l : Lc) (hh : headB p = false) : Calls Try.prog 13 #[.agg (pcs p l)] w fun e w' => e = .returned (.bool false) ∧ Keep w.heap.size [] w w' := by
  have K1 : Hid (∀ cs t, Keep w.heap.size [] w (w.alloc (.cells cs t))) := Lib.hid (fun cs t => (Keep.refl _ _ w).alloc (Nat.le_refl _) _)
  have h6 := headB_no hh
  clear hh
  unfold pcs
  obtain ⟨s, hs⟩ : ∃ s, strOfNums p.name = s := ⟨_, rfl⟩
  rw [hs]
  clear hs
  by_cases h1 : p.kind < 1
  · clear h6
    go_enter Try.func13, Try.ntmps13
    go_wp2_with fail
    go_ret
    exact ⟨rfl, K1.out _ _⟩
  have g1 : 1 ≤ p.kind := by omega
  clear h1
  by_cases h2 : 7 < p.kind
  · clear h6
    go_enter Try.func13, Try.ntmps13
    go_wp2_with fail
    go_ret
    exact ⟨rfl, K1.out _ _⟩
  have g2 : p.kind ≤ 7 := by omega
  clear h2
  by_cases h2 : p.src < 0
  · clear h6
    go_enter Try.func13, Try.ntmps13
    go_wp2_with fail
    go_ret
    exact ⟨rfl, K1.out _ _⟩
  have g3 : 0 ≤ p.src := by omega
  clear h2
  by_cases h2 : 15 < p.src
  · clear h6
    go_enter Try.func13, Try.ntmps13
    go_wp2_with fail
    go_ret
    exact ⟨rfl, K1.out _ _⟩
  have g4 : p.src ≤ 15 := by omega
  clear h2
  by_cases h2 : p.num < 0
  · clear h6
    go_enter Try.func13, Try.ntmps13
    go_wp2_with fail
    go_ret
    exact ⟨rfl, K1.out _ _⟩
  have g5 : 0 ≤ p.num := by omega
  clear h2
  have h7 : 65535 < p.num := by omega
  clear h6
  go_enter Try.func13, Try.ntmps13
  go_wp2_with fail
  go_ret
  exact ⟨rfl, K1.out _ _⟩
end Go.Proofs.Ytijionfhnoffcaa
