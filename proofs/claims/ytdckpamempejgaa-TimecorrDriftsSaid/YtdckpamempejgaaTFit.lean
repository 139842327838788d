/- The program's correlation. -/
import Derived.Test.YtdckpamempejgaaTScale
namespace Go.Proofs.Ytdckpamempejgaa
set_option linter.unusedVariables false
set_option linter.unusedSimpArgs false
open Go.RowKit
/-- a correlation: the number of samples, the first and the last -/
structure Ft where
  n : Int
  g0 : Int
  b0 : Int
  g1 : Int
  b1 : Int
abbrev fcells (f : Ft) : Array Value := #[.bool true, .int .i64 f.g0, .int .i64 f.b0, .int .i64 f.g1, .int .i64 f.b1, .int .i64 f.n]
abbrev pf (g : Nat) : Value := .pointer (some ⟨g, 0, none⟩)
def f0 : Ft := ⟨0, 0, 0, 0, 0⟩
/-- what holds of every correlation that Add has made -/
structure Fo (f : Ft) : Prop where
  n0 : 0 ≤ f.n
  n1 : f.n ≤ 1000000
  a0 : 0 ≤ f.g0
  a1 : f.g0 ≤ 1099511627776
  c0 : 0 ≤ f.b0
  c1 : f.b0 ≤ 1099511627776
  d0 : 0 ≤ f.g1
  d1 : f.g1 ≤ 1099511627776
  e0 : 0 ≤ f.b1
  e1 : f.b1 ≤ 1099511627776
  one : f.n < 2 → f.g0 = f.g1 ∧ f.b0 = f.b1
  two : 2 ≤ f.n → f.g0 < f.g1 ∧ f.b0 < f.b1
theorem f0_ok : Fo f0 := ⟨by decide, by decide, by decide, by decide, by decide, by decide, by decide, by decide, by decide, by decide, fun _ => ⟨rfl, rfl⟩, fun h => by simp [f0] at h⟩
def badP (f : Ft) (a b : Int) : Prop := a < 0 ∨ 1099511627776 < a ∨ b < 0 ∨ 1099511627776 < b ∨ (0 < f.n ∧ (a ≤ f.g1 ∨ b ≤ f.b1))
instance (f : Ft) (a b : Int) : Decidable (badP f a b) := by unfold badP; exact inferInstance
def goodF (f : Ft) (a b : Int) : Ft := ⟨f.n + 1, if f.n = 0 then a else f.g0, if f.n = 0 then b else f.b0, a, b⟩
def addP (f : Ft) (a b : Int) : Ft × Int := if badP f a b then (f, 10) else (goodF f a b, 0)
theorem addP_bad {f : Ft} {a b : Int} (h : badP f a b) : addP f a b = (f, 10) := if_pos h
theorem addP_good {f : Ft} {a b : Int} (h : ¬ badP f a b) : addP f a b = (goodF f a b, 0) := if_neg h
theorem good_ok {f : Ft} {a b : Int} (h : Fo f) (hn : f.n < 1000000) (hb : ¬ badP f a b) : Fo (goodF f a b) := by
  unfold badP at hb
  have n0 := h.n0; have a0 := h.a0; have a1 := h.a1; have c0 := h.c0; have c1 := h.c1; have d0 := h.d0; have d1 := h.d1; have e0 := h.e0; have e1 := h.e1
  have one := h.one; have two := h.two
  by_cases h0 : f.n = 0
  · unfold goodF
    rw [if_pos h0, if_pos h0]
    exact ⟨by simp only; omega, by simp only; omega, by simp only; omega, by simp only; omega, by simp only; omega, by simp only; omega, by simp only; omega, by simp only; omega, by simp only; omega, by simp only; omega, fun _ => ⟨rfl, rfl⟩, by simp only; omega⟩
  · unfold goodF
    rw [if_neg h0, if_neg h0]
    exact ⟨by simp only; omega, by simp only; omega, by simp only; omega, by simp only; omega, by simp only; omega, by simp only; omega, by simp only; omega, by simp only; omega, by simp only; omega, by simp only; omega, by simp only; omega, by simp only; omega⟩
theorem add_ok {f : Ft} {a b : Int} (h : Fo f) (hn : f.n < 1000000) : Fo (addP f a b).1 ∧ (addP f a b).1.n ≤ f.n + 1 := by
  by_cases hb : badP f a b
  · rw [addP_bad hb]; exact ⟨h, by simp only; omega⟩
  · rw [addP_good hb]; exact ⟨good_ok h hn hb, by simp [goodF]⟩
set_option maxHeartbeats 400000 in
theorem none_any (w : World) (g : Nat) (f : Ft) (hb : Blk w g 51 (fcells f)) : Calls Try.prog 22 #[pf g] w fun e w' => e = .returned (.bool false) ∧ w' = w := by
  have h0 : w.cell? ⟨g, 0, none⟩ = some (.bool true) := hb.cell 0
  clear hb
  go_enter Try.func22, Try.ntmps22
  go_wp2_with fail
  go_ret
  exact ⟨rfl, rfl⟩
set_option maxHeartbeats 400000 in
theorem none_nil (w : World) : Calls Try.prog 22 #[.pointer none] w fun e w' => e = .returned (.bool true) ∧ w' = w := by
  go_enter Try.func22, Try.ntmps22
  go_wp2_with fail
  go_ret
  exact ⟨rfl, rfl⟩
set_option maxHeartbeats 400000 in
theorem new_any (w : World) : Calls Try.prog 12 #[] w fun e w' => e = .returned (pf w.heap.size) ∧ Blk w' w.heap.size 51 (fcells f0) ∧ Keep w.heap.size [] w w' := by
  go_enter Try.func12, Try.ntmps12
  go_wp2_with fail
  go_ret
  exact ⟨rfl, Blk.new _ _ _, (Keep.refl _ _ w).alloc (Nat.le_refl _) _⟩
theorem fcell6 {w : World} {g : Nat} {t : TypeId} {f : Ft} (h : Blk w g t (fcells f)) : w.cell? ⟨g, 1, none⟩ = some (.int .i64 f.g0) ∧ w.cell? ⟨g, 2, none⟩ = some (.int .i64 f.b0) ∧ w.cell? ⟨g, 3, none⟩ = some (.int .i64 f.g1) ∧ w.cell? ⟨g, 4, none⟩ = some (.int .i64 f.b1) ∧ w.cell? ⟨g, 5, none⟩ = some (.int .i64 f.n) :=
  ⟨h.cell 1, h.cell 2, h.cell 3, h.cell 4, h.cell 5⟩
set_option maxHeartbeats 400000 in
theorem samples_any (w : World) (g : Nat) (f : Ft) (hb : Blk w g 51 (fcells f)) : Calls Try.prog 19 #[pf g] w fun e w' => e = .returned (.int .i64 f.n) ∧ w' = w := by
  have h5 : w.cell? ⟨g, 5, none⟩ = some (.int .i64 f.n) := hb.cell 5
  have HB := Lib.hid hb
  clear hb
  go_enter Try.func19, Try.ntmps19
  go_wp2_with fail
  refine (none_any _ g f HB.out).mono ?_
  rintro e w' ⟨rfl, rfl⟩
  go_wp2_with fail
  go_ret
  exact ⟨rfl, rfl⟩
set_option maxHeartbeats 400000 in
theorem samples_nil (w : World) : Calls Try.prog 19 #[.pointer none] w fun e w' => e = .returned (.int .i64 0) ∧ w' = w := by
  go_enter Try.func19, Try.ntmps19
  go_wp2_with fail
  refine (none_nil _).mono ?_
  rintro e w' ⟨rfl, rfl⟩
  go_wp2_with fail
  go_ret
  exact ⟨rfl, rfl⟩
set_option maxHeartbeats 400000 in
theorem clone_any (w : World) (g : Nat) (f : Ft) (hb : Blk w g 51 (fcells f)) : Calls Try.prog 16 #[pf g] w fun e w' => e = .returned (pf w.heap.size) ∧ Blk w' w.heap.size 51 (fcells f) ∧ Keep w.heap.size [] w w' := by
  have h0 : w.cell? ⟨g, 0, none⟩ = some (.bool true) := hb.cell 0
  obtain ⟨h1, h2, h3, h4, h5⟩ := fcell6 hb
  have HB := Lib.hid hb
  clear hb
  go_enter Try.func16, Try.ntmps16
  go_wp2_with fail
  refine (none_any _ g f HB.out).mono ?_
  rintro e w' ⟨rfl, rfl⟩
  go_wp2_with fail
  go_ret
  exact ⟨rfl, Blk.new _ _ _, (Keep.refl _ _ _).alloc (Nat.le_refl _) _⟩
set_option maxHeartbeats 400000 in
theorem clone_nil (w : World) : Calls Try.prog 16 #[.pointer none] w fun e w' => e = .returned (.pointer none) ∧ w' = w := by
  go_enter Try.func16, Try.ntmps16
  go_wp2_with fail
  refine (none_nil _).mono ?_
  rintro e w' ⟨rfl, rfl⟩
  go_wp2_with fail
  go_ret
  exact ⟨rfl, rfl⟩
def stP (f : Ft) : Int := if f.n < 2 then 12 else 0
set_option maxHeartbeats 400000 in
theorem state_any (w : World) (g : Nat) (f : Ft) (z : Int) (hz : stP f = z) (hb : Blk w g 51 (fcells f)) : Calls Try.prog 21 #[pf g] w fun e w' => e = .returned (.int .i64 z) ∧ w' = w := by
  have h5 : w.cell? ⟨g, 5, none⟩ = some (.int .i64 f.n) := hb.cell 5
  have HB := Lib.hid hb
  clear hb
  by_cases h : f.n < 2
  · have e0 : z = 12 := by rw [← hz]; unfold stP; rw [if_pos h]
    subst e0
    clear hz
    go_enter Try.func21, Try.ntmps21
    go_wp2_with fail
    refine (none_any _ g f HB.out).mono ?_
    rintro e w' ⟨rfl, rfl⟩
    go_wp2_with fail
    go_ret
    exact ⟨rfl, rfl⟩
  · have e0 : z = 0 := by rw [← hz]; unfold stP; rw [if_neg h]
    subst e0
    clear hz
    go_enter Try.func21, Try.ntmps21
    go_wp2_with fail
    refine (none_any _ g f HB.out).mono ?_
    rintro e w' ⟨rfl, rfl⟩
    go_wp2_with fail
    go_ret
    exact ⟨rfl, rfl⟩
set_option maxHeartbeats 400000 in
theorem state_nil (w : World) : Calls Try.prog 21 #[.pointer none] w fun e w' => e = .returned (.int .i64 2) ∧ w' = w := by
  go_enter Try.func21, Try.ntmps21
  go_wp2_with fail
  refine (none_nil _).mono ?_
  rintro e w' ⟨rfl, rfl⟩
  go_wp2_with fail
  go_ret
  exact ⟨rfl, rfl⟩
end Go.Proofs.Ytdckpamempejgaa
