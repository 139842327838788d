/- The limit check and the watch with hysteresis in plain Lean. -/
namespace Go.Proofs.Ytmefdiidgnpklaa
set_option linter.unusedVariables false
set_option linter.unusedSimpArgs false

structure Li where
  hl : Int
  sl : Int
  sh : Int
  hh : Int

def Fit (x : Int) : Prop := -9223372036854775808 ≤ x ∧ x ≤ 9223372036854775807
instance (x : Int) : Decidable (Fit x) := inferInstanceAs (Decidable (_ ∧ _))
structure Li.Fit (l : Li) : Prop where
  a : Go.Proofs.Ytmefdiidgnpklaa.Fit l.hl
  b : Go.Proofs.Ytmefdiidgnpklaa.Fit l.sl
  c : Go.Proofs.Ytmefdiidgnpklaa.Fit l.sh
  d : Go.Proofs.Ytmefdiidgnpklaa.Fit l.hh

def Li.valid (l : Li) : Bool := decide (l.hl ≤ l.sl ∧ l.sl ≤ l.sh ∧ l.sh ≤ l.hh)
def Li.check (l : Li) (v : Int) : Int :=
  if l.valid = false then 0 else if v < l.hl then 3 else if l.hh < v then 4 else if v < l.sl then 1 else if l.sh < v then 2 else 0

theorem check_cases (l : Li) (v : Int) : l.check v = 0 ∨ l.check v = 1 ∨ l.check v = 2 ∨ l.check v = 3 ∨ l.check v = 4 := by
  unfold Li.check
  repeat' split
  all_goals simp

structure Wt where
  l : Li
  s : Int
  last : Int
  c0 : Int
  c1 : Int
  c2 : Int
  c3 : Int
  c4 : Int

structure Wt.Inv (w : Wt) : Prop where
  fit : w.l.Fit
  ok : w.l.valid = true
  s0 : 0 ≤ w.s
  s1 : w.s ≤ w.l.sh - w.l.sl
  s2 : w.s ≤ 9223372036854775807
  last : w.last = 0 ∨ w.last = 1 ∨ w.last = 2 ∨ w.last = 3 ∨ w.last = 4

def Wt.low (w : Wt) (v : Int) : Int := if w.last = 3 ∧ v < w.l.hl + w.s then 3 else if v < w.l.sl + w.s then 1 else 0
def Wt.high (w : Wt) (v : Int) : Int := if w.last = 4 ∧ w.l.hh - w.s < v then 4 else if w.l.sh - w.s < v then 2 else 0
def Wt.next (w : Wt) (v : Int) : Int :=
  if (w.last = 3 ∧ (w.l.check v = 1 ∨ w.l.check v = 0)) ∨ (w.last = 1 ∧ w.l.check v = 0) then w.low v
  else if (w.last = 4 ∧ (w.l.check v = 2 ∨ w.l.check v = 0)) ∨ (w.last = 2 ∧ w.l.check v = 0) then w.high v
  else w.l.check v
theorem low_cases (w : Wt) (v : Int) : w.low v = 0 ∨ w.low v = 1 ∨ w.low v = 3 := by
  unfold Wt.low
  repeat' split
  all_goals simp
theorem high_cases (w : Wt) (v : Int) : w.high v = 0 ∨ w.high v = 2 ∨ w.high v = 4 := by
  unfold Wt.high
  repeat' split
  all_goals simp
theorem next_cases (w : Wt) (v : Int) : w.next v = 0 ∨ w.next v = 1 ∨ w.next v = 2 ∨ w.next v = 3 ∨ w.next v = 4 := by
  unfold Wt.next
  have h1 := low_cases w v
  have h2 := high_cases w v
  have h3 := check_cases w.l v
  repeat' split
  all_goals omega

theorem valid_iff (l : Li) : l.valid = true ↔ (l.hl ≤ l.sl ∧ l.sl ≤ l.sh ∧ l.sh ≤ l.hh) := by simp [Li.valid]
/-- severity: 0, 1, 2 -/
def sev (x : Int) : Int := (x + 1) / 2

/-- a value never has a less severe result than the plain check -/
theorem next_sev (w : Wt) (v : Int) (hi : w.Inv) : sev (w.l.check v) ≤ sev (w.next v) := by
  unfold Wt.next
  have h1 := low_cases w v
  have h2 := high_cases w v
  have hs0 := hi.s0
  have hv := (valid_iff w.l).1 hi.ok
  have hc : w.l.check v = if v < w.l.hl then 3 else if w.l.hh < v then 4 else if v < w.l.sl then 1 else if w.l.sh < v then 2 else 0 := by
    unfold Li.check; rw [if_neg (by rw [hi.ok]; simp)]
  split
  · rename_i hA
    have hlow : w.l.check v = 1 → v < w.l.sl := by
      rw [hc]
      repeat' split
      all_goals omega
    unfold Wt.low
    unfold sev
    split
    · rcases hA with ⟨_, h | h⟩ | ⟨_, h⟩ <;> rw [h] <;> decide
    · split
      · rcases hA with ⟨_, h | h⟩ | ⟨_, h⟩ <;> rw [h] <;> decide
      · have : w.l.check v = 0 := by
          rcases hA with ⟨_, h | h⟩ | ⟨_, h⟩
          · have := hlow h; omega
          · exact h
          · exact h
        rw [this]; decide
  · split
    · rename_i hA
      have hhigh : w.l.check v = 2 → w.l.sh < v := by
        rw [hc]
        repeat' split
        all_goals omega
      unfold Wt.high
      unfold sev
      split
      · rcases hA with ⟨_, h | h⟩ | ⟨_, h⟩ <;> rw [h] <;> decide
      · split
        · rcases hA with ⟨_, h | h⟩ | ⟨_, h⟩ <;> rw [h] <;> decide
        · have : w.l.check v = 0 := by
            rcases hA with ⟨_, h | h⟩ | ⟨_, h⟩
            · have := hhigh h; omega
            · exact h
            · exact h
          rw [this]; decide
    · exact Int.le_refl _

/-- with the slack 0 the result is the plain check -/
theorem next_plain (w : Wt) (v : Int) (hi : w.Inv) (h0 : w.s = 0) : w.next v = w.l.check v := by
  have hv := (valid_iff w.l).1 hi.ok
  have hc : w.l.check v = if v < w.l.hl then 3 else if w.l.hh < v then 4 else if v < w.l.sl then 1 else if w.l.sh < v then 2 else 0 := by
    unfold Li.check; rw [if_neg (by rw [hi.ok]; simp)]
  unfold Wt.next Wt.low Wt.high
  rw [hc, h0]
  repeat' split
  all_goals first | rfl | omega

/-- a result that is better comes beyond the slack alone (hard) -/
theorem next_hard (w : Wt) (v : Int) (hi : w.Inv) (hb : sev (w.next v) < sev w.last) : ¬ ((w.last = 3 ∧ v < w.l.hl + w.s) ∨ (w.last = 4 ∧ w.l.hh - w.s < v)) := by
  have hv := (valid_iff w.l).1 hi.ok
  have hs0 := hi.s0
  have hs1 := hi.s1
  have hc : w.l.check v = if v < w.l.hl then 3 else if w.l.hh < v then 4 else if v < w.l.sl then 1 else if w.l.sh < v then 2 else 0 := by
    unfold Li.check; rw [if_neg (by rw [hi.ok]; simp)]
  intro h
  rcases h with ⟨hl, h⟩ | ⟨hl, h⟩
  · have hn : w.next v = 3 ∨ w.next v = 4 := by
      unfold Wt.next Wt.low Wt.high
      rw [hl, hc]
      repeat' split
      all_goals omega
    rw [hl] at hb
    unfold sev at hb
    rcases hn with e | e <;> rw [e] at hb <;> revert hb <;> decide
  · have hn : w.next v = 3 ∨ w.next v = 4 := by
      unfold Wt.next Wt.low Wt.high
      rw [hl, hc]
      repeat' split
      all_goals omega
    rw [hl] at hb
    unfold sev at hb
    rcases hn with e | e <;> rw [e] at hb <;> revert hb <;> decide

theorem next_soft (w : Wt) (v : Int) (hi : w.Inv) (hb : w.next v = 0) : ¬ (((w.last = 3 ∨ w.last = 1) ∧ v < w.l.sl + w.s) ∨ ((w.last = 4 ∨ w.last = 2) ∧ w.l.sh - w.s < v)) := by
  have hv := (valid_iff w.l).1 hi.ok
  have hs0 := hi.s0
  have hs1 := hi.s1
  have hc : w.l.check v = if v < w.l.hl then 3 else if w.l.hh < v then 4 else if v < w.l.sl then 1 else if w.l.sh < v then 2 else 0 := by
    unfold Li.check; rw [if_neg (by rw [hi.ok]; simp)]
  intro h
  have hn : w.next v ≠ 0 := by
    unfold Wt.next Wt.low Wt.high
    rw [hc]
    rcases h with ⟨hl | hl, h⟩ | ⟨hl | hl, h⟩ <;> rw [hl] <;> (repeat' split) <;> omega
  exact hn hb
end Go.Proofs.Ytmefdiidgnpklaa
