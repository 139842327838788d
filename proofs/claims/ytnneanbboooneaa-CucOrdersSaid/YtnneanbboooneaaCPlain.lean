/- Time codes, plainly. -/
import Derived.Test.YtnneanbboooneaaOctW
namespace Go.Proofs.Ytnneanbboooneaa
set_option linter.unusedVariables false
set_option linter.unusedSimpArgs false
open Go.RowKit
abbrev fagg (C F : Int) : Value := .agg #[.int .i64 C, .int .i64 F]
def okF (C F : Int) : Bool := decide (1 ≤ C ∧ C ≤ 4 ∧ 0 ≤ F ∧ F ≤ 3)
theorem okF_iff (C F : Int) : okF C F = true ↔ 1 ≤ C ∧ C ≤ 4 ∧ 0 ≤ F ∧ F ≤ 3 := by simp [okF]
theorem okF_no {C F : Int} (h : okF C F = false) : ¬ (1 ≤ C ∧ C ≤ 4 ∧ 0 ≤ F ∧ F ≤ 3) := by
  intro h2; rw [(okF_iff C F).2 h2] at h; cases h
def idxF (C F : Int) : Int := if okF C F then 4 * (C - 1) + F else -1
def sizeF (C F : Int) : Int := if okF C F then 1 + C + F else 0
def chkF (C F t : Int) : Int := if okF C F then (if t < 0 ∨ 1099511627776 < t then 10 else 0) else 1
/-- the seconds that do not fit -/
def capS (C : Int) : Int := 256 ^ C.toNat
theorem capS_cases {C : Int} (h : 1 ≤ C ∧ C ≤ 4) : (C = 1 ∧ capS C = 256) ∨ (C = 2 ∧ capS C = 65536) ∨ (C = 3 ∧ capS C = 16777216) ∨ (C = 4 ∧ capS C = 4294967296) := by
  obtain ⟨h1, h2⟩ := h
  have : C = 1 ∨ C = 2 ∨ C = 3 ∨ C = 4 := by omega
  rcases this with rfl | rfl | rfl | rfl <;> simp [capS]
theorem capS_bd {C : Int} (h : 1 ≤ C ∧ C ≤ 4) : 256 ≤ capS C ∧ capS C ≤ 4294967296 := by
  rcases capS_cases h with h | h | h | h <;> omega
def roundP (t C F : Int) : Int × Int :=
  if chkF C F t = 0 then (if F = 0 then min t (capS C * 256 - 1) - min t (capS C * 256 - 1) % 256 else min t (capS C * 256 - 1), 0) else (0, chkF C F t)
/-- the octets of the fraction -/
def fineB (t : Int) (k : Nat) : List Int := (List.range k).map (fun i => if i = 0 then t % 256 else 0)
theorem fineB_succ (t : Int) (k : Nat) : fineB t (k + 1) = fineB t k ++ [if k = 0 then t % 256 else 0] := by simp [fineB, List.range_succ]
theorem fineB_len (t : Int) (k : Nat) : (fineB t k).length = k := by simp [fineB]
def encB (t C F : Int) : List Int := (16 + idxF C F) :: (be (t / 256) C.toNat ++ fineB t F.toNat)
def encE (t C F : Int) : Int := if chkF C F t = 0 then (if t / 256 < capS C then 0 else 10) else chkF C F t
/-- what Encode returns -/
def encL (t C F : Int) : List Int := if encE t C F = 0 then encB t C F else []
/-- the formats -/
def allF (n : Nat) : List Value := (List.range n).flatMap fun i => [.int .i64 ((i / 4 : Nat) + 1 : Int), .int .i64 ((i % 4 : Nat) : Int)]
theorem allF_succ (n : Nat) : allF (n + 1) = allF n ++ [.int .i64 ((n / 4 : Nat) + 1 : Int), .int .i64 ((n % 4 : Nat) : Int)] := by simp [allF, List.range_succ]
theorem allF_len (n : Nat) : (allF n).length = n * 2 := by
  induction n with
  | zero => rfl
  | succ n ih => rw [allF_succ, List.length_append, ih]; simp; omega
theorem allF_at (n i : Nat) (h : i < n) : (allF n)[i * 2]? = some (.int .i64 ((i / 4 : Nat) + 1 : Int)) ∧ (allF n)[i * 2 + 1]? = some (.int .i64 ((i % 4 : Nat) : Int)) := by
  induction n with
  | zero => omega
  | succ n ih =>
    rw [allF_succ]
    by_cases e : i = n
    · subst e
      rw [List.getElem?_append_right (by rw [allF_len]; omega), List.getElem?_append_right (by rw [allF_len]; omega), allF_len]
      have e0 : i * 2 - i * 2 = 0 := by omega
      have e1 : i * 2 + 1 - i * 2 = 1 := by omega
      rw [e0, e1]
      exact ⟨rfl, rfl⟩
    · rw [List.getElem?_append_left (by rw [allF_len]; omega), List.getElem?_append_left (by rw [allF_len]; omega)]
      exact ih (by omega)
theorem idxF_hit {C F : Int} {i : Nat} (hi : i < 16) (h1 : ((i / 4 : Nat) : Int) + 1 = C) (h2 : ((i % 4 : Nat) : Int) = F) : idxF C F = (i : Int) := by
  unfold idxF
  rw [if_pos ((okF_iff C F).2 ⟨by omega, by omega, by omega, by omega⟩)]
  omega
theorem idxF_miss {C F : Int} (h : ∀ i : Nat, i < 16 → ¬ (((i / 4 : Nat) : Int) + 1 = C ∧ ((i % 4 : Nat) : Int) = F)) : idxF C F = -1 := by
  unfold idxF
  cases hk : okF C F with
  | false => rfl
  | true =>
    rw [okF_iff] at hk
    exact absurd ⟨by omega, by omega⟩ (h (4 * (C - 1) + F).toNat (by omega))
theorem idxF_ge (C F : Int) : decide (0 ≤ idxF C F) = okF C F := by
  unfold idxF
  cases hk : okF C F with
  | false => rfl
  | true => rw [okF_iff] at hk; simp; omega
theorem idxF_bd (C F : Int) : -1 ≤ idxF C F ∧ idxF C F ≤ 15 := by
  unfold idxF
  cases hk : okF C F with
  | false => simp
  | true => rw [okF_iff] at hk; simp; omega
end Go.Proofs.Ytnneanbboooneaa
