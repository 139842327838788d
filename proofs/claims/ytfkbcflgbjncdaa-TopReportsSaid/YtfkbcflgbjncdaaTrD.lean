/- The tracker: Take, Stage, Code: their contracts. -/
import Derived.Test.YtfkbcflgbjncdaaTrC
namespace Go.Proofs.Ytfkbcflgbjncdaa
set_option linter.unusedVariables false
set_option linter.unusedSimpArgs false
open Go.RowKit
set_option maxHeartbeats 400000 in
theorem take_nil (w : World) (a : Ak) (now : Int) : Calls Try.prog 15 #[.pointer none, aagg a, .int .i64 now] w fun e w' => e = .returned (.int .i64 2) ∧ Keep w.heap.size [] w w' := by
  go_enter Try.func15, Try.ntmps15
  go_wp2_with fail
  refine (tvalid_nil _).mono ?_
  rintro e w' ⟨rfl, rfl⟩
  go_wp2_with fail
  go_ret
  exact ⟨rfl, (Keep.refl _ _ _).alloc (Nat.le_refl _) _⟩
set_option maxHeartbeats 400000 in
theorem stage_nil (w : World) (s n : Int) : Calls Try.prog 16 #[.pointer none, .int .i64 s, .int .i64 n] w fun e w' => e = .returned (.int .i64 0) ∧ w = w' := by
  go_enter Try.func16, Try.ntmps16
  go_wp2_with fail
  refine (find_nil _ s n).mono ?_
  rintro e w' ⟨rfl, rfl⟩
  go_wp2_with fail
  go_ret
  exact ⟨rfl, rfl⟩
/-- the stage of a command -/
def stageP (t : Tk) (s n : Int) : Int := match findI t.D s n with | some i => (match t.D[i]? with | some x => x.g | none => 0) | none => 0
def codeP (t : Tk) (s n : Int) : Int := match findI t.D s n with | some i => (match t.D[i]? with | some x => x.c | none => 0) | none => 0
set_option maxHeartbeats 1000000 in
theorem stage_any (w : World) (g : Nat) (A : Option Addr) (t : Tk) (s n v : Int) (hv : stageP t s n = v) (h : Tr w g A t) :
    Calls Try.prog 16 #[bptr g, .int .i64 s, .int .i64 n] w fun e w' => e = .returned (.int .i64 v) ∧ w = w' := by
  obtain ⟨r, hr⟩ : ∃ r, findI t.D s n = r := ⟨_, rfl⟩
  have HT := Lib.hid h
  have HR := Lib.hid hr
  have HV := Lib.hid hv
  clear h hr hv
  go_enter Try.func16, Try.ntmps16
  go_wp2_with fail
  refine (find_any _ g A t s n r HR.out HT.out).mono ?_
  rintro e w' ⟨rfl, rfl⟩
  cases r with
  | none =>
    have hp : ptrI A none = .pointer none := by cases A <;> rfl
    rw [hp]
    clear hp
    have hq : v = 0 := by rw [← HV.out]; unfold stageP; rw [HR.out]
    subst hq
    go_wp2_with fail
    go_ret
    exact ⟨rfl, rfl⟩
  | some i =>
    obtain ⟨b, x, hA, hx, _⟩ := HT.out.nonnil HR.out
    subst hA
    obtain ⟨m, c, hm, _, hs, _⟩ := HT.out
    obtain ⟨b', hA', _, hc⟩ := hs.icell hm hx
    cases hA'
    have e3 : w.cell? ⟨b, i * 5 + 3, none⟩ = some (.int .i64 x.g) := hc 3 _ rfl
    have hq : v = x.g := by rw [← HV.out]; unfold stageP; rw [HR.out]; simp only [hx]
    subst hq
    clear hs hc hm hx
    have hp : ptrI (some ⟨b, 0, none⟩) (some i) = .pointer (some ⟨b, i * 5, none⟩) := rfl
    rw [hp]
    go_wp2_with fail
    go_ret
    exact ⟨rfl, rfl⟩
end Go.Proofs.Ytfkbcflgbjncdaa
