/- The token bucket in plain Lean: advance, take, level, when, and their bounds. -/
namespace Go.Proofs.Ytppmbigmpilggaa
set_option linter.unusedVariables false
set_option linter.unusedSimpArgs false

structure Bu where
  r : Int
  s : Int
  l : Int
  t : Int

def maxT : Int := 1099511627776
theorem maxT_eq : maxT = 1099511627776 := rfl

structure Bu.Inv (b : Bu) : Prop where
  r0 : 0 ≤ b.r
  r1 : b.r ≤ 2147483648
  s0 : 0 ≤ b.s
  s1 : b.s ≤ 2147483648
  l0 : 0 ≤ b.l
  l1 : b.l ≤ b.s
  t0 : 0 ≤ b.t
  t1 : b.t ≤ 1099511627776

/-- the level after d ticks -/
def fill (b : Bu) (d : Int) : Int := if b.s < b.l + b.r * d then b.s else b.l + b.r * d

def Bu.adv (b : Bu) (now : Int) : Bu := if now ≤ b.t ∨ 1099511627776 < now then b else ⟨b.r, b.s, fill b (now - b.t), now⟩

theorem adv_stay (b : Bu) (now : Int) (h : now ≤ b.t ∨ 1099511627776 < now) : b.adv now = b := if_pos h
theorem adv_go (b : Bu) (now : Int) (h : b.t < now) (h' : now ≤ 1099511627776) : b.adv now = ⟨b.r, b.s, fill b (now - b.t), now⟩ := if_neg (by omega)

theorem mul_nonneg (a b : Int) (ha : 0 ≤ a) (hb : 0 ≤ b) : 0 ≤ a * b := Int.mul_nonneg ha hb

theorem fill_lo {b : Bu} (h : b.Inv) {d : Int} (hd : 0 ≤ d) : b.l ≤ fill b d := by
  have := Int.mul_nonneg h.r0 hd
  have := h.l1
  unfold fill
  split <;> omega
theorem fill_hi {b : Bu} (h : b.Inv) {d : Int} (hd : 0 ≤ d) : fill b d ≤ b.s := by
  unfold fill
  split <;> omega

theorem adv_inv {b : Bu} (h : b.Inv) (now : Int) : (b.adv now).Inv := by
  by_cases hc : now ≤ b.t ∨ 1099511627776 < now
  · rw [adv_stay b now hc]; exact h
  · rw [adv_go b now (by omega) (by omega)]
    have h1 := fill_lo h (d := now - b.t) (by omega)
    have h2 := fill_hi h (d := now - b.t) (by omega)
    have := h.l0
    have := h.t0
    exact ⟨h.r0, h.r1, h.s0, h.s1, by simp only; omega, by simp only; omega, by simp only; omega, by simp only; omega⟩

/-- the code's test: (size - level) / rate < d -/
theorem quo_lt (b : Bu) (d : Int) (hr : 0 < b.r) : (b.s - b.l) / b.r < d ↔ b.s < b.l + b.r * d := by
  rw [Int.ediv_lt_iff_lt_mul hr, Int.mul_comm]; omega
theorem quo_bd (b : Bu) (h : b.Inv) (hr : 0 < b.r) : 0 ≤ (b.s - b.l) / b.r ∧ (b.s - b.l) / b.r ≤ 2147483648 := by
  have h1 := h.l1; have h2 := h.l0; have h3 := h.s1
  refine ⟨Int.ediv_nonneg (by omega) (by omega), ?_⟩
  have : (b.s - b.l) / b.r ≤ (b.s - b.l) := Int.ediv_le_self _ (by omega)
  omega
theorem squo_bd (b : Bu) (h : b.Inv) (hr : 0 < b.r) : 0 ≤ b.s / b.r ∧ b.s / b.r ≤ 2147483648 := by
  have h1 := h.l1; have h2 := h.l0; have h3 := h.s1
  refine ⟨Int.ediv_nonneg (by omega) (by omega), ?_⟩
  have : b.s / b.r ≤ b.s := Int.ediv_le_self _ (by omega)
  omega
/-- the reference's test: d > size / rate -/
theorem squo_lt (b : Bu) (d : Int) (h : b.Inv) (hr : 0 < b.r) (hq : b.s / b.r < d) : b.s < b.l + b.r * d := by
  rw [Int.ediv_lt_iff_lt_mul hr] at hq
  have := h.l0
  rw [Int.mul_comm]; omega
theorem squo_ge (b : Bu) (d : Int) (hr : 0 < b.r) (hq : d ≤ b.s / b.r) : d * b.r ≤ b.s := by
  have h1 := Int.mul_le_mul_of_nonneg_right hq (by omega : 0 ≤ b.r)
  have h2 := Int.ediv_mul_le b.s (by omega : b.r ≠ 0)
  omega

def Bu.takes (b : Bu) (n now : Int) : Bool := decide (0 ≤ n ∧ n ≤ (b.adv now).l)
def Bu.take (b : Bu) (n now : Int) : Bu := if b.takes n now then ⟨b.r, b.s, (b.adv now).l - n, (b.adv now).t⟩ else b.adv now
theorem adv_r (b : Bu) (now : Int) : (b.adv now).r = b.r := by unfold Bu.adv; split <;> rfl
theorem adv_s (b : Bu) (now : Int) : (b.adv now).s = b.s := by unfold Bu.adv; split <;> rfl
theorem take_inv {b : Bu} (h : b.Inv) (n now : Int) : (b.take n now).Inv := by
  have h' := adv_inv h now
  unfold Bu.take
  split
  · rename_i ht
    simp only [Bu.takes, decide_eq_true_eq] at ht
    have h1 := h'.l1
    rw [adv_s] at h1
    exact ⟨h.r0, h.r1, h.s0, h.s1, by simp only; omega, by simp only; omega, h'.t0, h'.t1⟩
  · exact h'

/-- when there are n tokens: the time and whether there is one -/
def Bu.whenT (b : Bu) (n : Int) : Int := b.t + (n - b.l + b.r - 1) / b.r
def Bu.whens (b : Bu) (n : Int) : Int × Bool :=
  if n < 0 ∨ b.s < n then (0, false)
  else if n ≤ b.l then (b.t, true)
  else if b.r = 0 then (0, false)
  else if 1099511627776 < b.whenT n then (0, false) else (b.whenT n, true)
theorem whenT_bd (b : Bu) (h : b.Inv) (n : Int) (h1 : b.l < n) (h2 : n ≤ b.s) (hr : 0 < b.r) :
    0 ≤ (n - b.l + b.r - 1) / b.r ∧ (n - b.l + b.r - 1) / b.r ≤ 4294967296 := by
  have h3 := h.s1; have h4 := h.l0; have h5 := h.r1
  refine ⟨Int.ediv_nonneg (by omega) (by omega), ?_⟩
  have : (n - b.l + b.r - 1) / b.r ≤ (n - b.l + b.r - 1) := Int.ediv_le_self _ (by omega)
  omega

def clampP (n : Int) : Int := if n < 0 then 0 else if 2147483648 < n then 2147483648 else n
def newB (r s : Int) : Bu := ⟨clampP r, clampP s, clampP s, 0⟩
theorem clampP_bd (n : Int) : 0 ≤ clampP n ∧ clampP n ≤ 2147483648 := by
  unfold clampP; split
  · omega
  · split <;> omega
theorem new_inv (r s : Int) : (newB r s).Inv := by
  have h1 := clampP_bd r; have h2 := clampP_bd s
  exact ⟨h1.1, h1.2, h2.1, h2.2, h2.1, Int.le_refl _, by simp [newB], by simp [newB]⟩
theorem clampP_min (n : Int) : min (max n 0) 2147483648 = clampP n := by
  unfold clampP
  split
  · omega
  · split <;> omega
end Go.Proofs.Ytppmbigmpilggaa
