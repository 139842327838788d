/- TrackerOverdue: what it computes, plainly. -/
import Derived.Test.YtcpfdkmdhpclkaaWalkI
namespace Go.Proofs.Ytcpfdkmdhpclkaa
set_option linter.unusedVariables false
set_option linter.unusedSimpArgs false
open Go.RowKit
def Oct (L : List Int) : Prop := ∀ x ∈ L, 0 ≤ x ∧ x ≤ 255
def octs (L : List Int) : List Value := L.map (fun x => .int .u8 x)
/-- the time after k gaps -/
def pre (L : List Int) (k : Nat) : Int := (L.take k).sum
theorem pre_zero (L : List Int) : pre L 0 = 0 := by simp [pre]
theorem pre_succ {L : List Int} {k : Nat} {x : Int} (h : L[k]? = some x) : pre L (k + 1) = pre L k + x := by
  unfold pre
  rw [List.take_add_one, h]
  simp
theorem pre_none {L : List Int} {k : Nat} (h : L[k]? = none) : pre L (k + 1) = pre L k := by
  unfold pre
  rw [List.take_add_one, h]
  simp
theorem pre_bd {L : List Int} (hL : Oct L) : ∀ k : Nat, 0 ≤ pre L k ∧ pre L k ≤ 255 * (k : Int)
  | 0 => by rw [pre_zero]; omega
  | k + 1 => by
    have := pre_bd hL k
    cases h : L[k]? with
    | none => rw [pre_none h]; omega
    | some x => rw [pre_succ h]; have := hL x (List.mem_of_getElem? h); omega
def ats (L : List Int) (k : Nat) : List Int := (List.range k).map (fun j => pre L (j + 1))
theorem ats_succ (L : List Int) (k : Nat) : ats L (k + 1) = ats L k ++ [pre L (k + 1)] := by simp [ats, List.range_succ]
theorem ats_len (L : List Int) (k : Nat) : (ats L k).length = k := by simp [ats]
theorem ats_at (L : List Int) (k j : Nat) (h : j < k) : (ats L k)[j]? = some (pre L (j + 1)) := by simp [ats, List.getElem?_range h]
/-- the commands, whose stages are f -/
def DD (L : List Int) (f : Nat → Int) (m : Nat) : List Is := (List.range m).map (fun j : Nat => (⟨1, (j : Int), pre L (j + 1), f j, 0⟩ : Is))
theorem DD_len (L : List Int) (f : Nat → Int) (m : Nat) : (DD L f m).length = m := by simp [DD]
theorem DD_at (L : List Int) (f : Nat → Int) (m j : Nat) (h : j < m) : (DD L f m)[j]? = some ⟨1, (j : Int), pre L (j + 1), f j, 0⟩ := by simp [DD, List.getElem?_range h]
theorem DD_congr (L : List Int) (f f' : Nat → Int) (m : Nat) (h : ∀ j, j < m → f j = f' j) : DD L f m = DD L f' m := by
  apply List.map_congr_left
  intro j hj
  rw [h j (List.mem_range.1 hj)]
theorem findI_no (L : List Int) (f : Nat → Int) (m : Nat) (n : Int) (h : (m : Int) ≤ n) : findI (DD L f m) 1 n = none := by
  unfold findI
  rw [List.findIdx?_eq_none_iff]
  intro x hx
  obtain ⟨j, hj, rfl⟩ := List.mem_map.1 hx
  have := List.mem_range.1 hj
  simp
  omega
theorem findI_yes (L : List Int) (f : Nat → Int) (m n : Nat) (h : n < m) : findI (DD L f m) 1 (n : Int) = some n := by
  unfold findI
  rw [List.findIdx?_eq_some_iff_getElem]
  refine ⟨by rw [DD_len]; exact h, ?_, fun j hj => ?_⟩
  · simp [DD]
  · simp [DD]; omega
theorem issue_step {L : List Int} (hL : Oct L) {k : Nat} {x : Int} (hx : L[k]? = some x) (hk : k < 60) (to : Int) :
    issueP ⟨pre L k, to, DD L (fun _ => 0) k⟩ 1 k (pre L (k + 1)) = (0, ⟨pre L (k + 1), to, DD L (fun _ => 0) (k + 1)⟩) := by
  have h1 := pre_bd hL k
  have h2 := pre_bd hL (k + 1)
  have h3 := pre_succ hx
  have h4 := hL x (List.mem_of_getElem? hx)
  have ha : adv (pre L k) (pre L (k + 1)) = pre L (k + 1) := by unfold adv; split <;> omega
  unfold issueP
  rw [if_pos ((okSN_iff _ _).2 ⟨by omega, by omega, by omega, by omega⟩)]
  simp only [findI_no L (fun _ => 0) k (k : Int) (by omega), ha]
  simp [DD, List.range_succ]
/-- one report's effect on the stages -/
def take1 (f : Nat → Int) (n s : Int) (j : Nat) : Int := if (j : Int) = n ∧ follows (f j) s = true then s else f j
theorem take_step (L : List Int) (f : Nat → Int) (m : Nat) (nw to n s : Int) (hn : 0 ≤ n ∧ n ≤ 255) (hs : 1 ≤ s ∧ s ≤ 3) :
    (takeP ⟨nw, to, DD L f m⟩ ⟨1, n, s, 0⟩ nw).2 = ⟨nw, to, DD L (take1 f n s) m⟩ := by
  have ha : adv nw nw = nw := by unfold adv; split <;> omega
  have hv : (⟨1, n, s, 0⟩ : Ak).valid = true := by
    rw [valid_iff]
    simp only
    omega
  unfold takeP
  rw [if_pos hv]
  simp only [ha]
  by_cases hm : (m : Int) ≤ n
  · rw [findI_no L f m n hm]
    simp only
    congr 1
    refine DD_congr _ _ _ _ fun j hj => ?_
    unfold take1
    rw [if_neg (by omega)]
  · obtain ⟨q, rfl⟩ : ∃ q : Nat, n = q := ⟨n.toNat, by omega⟩
    have hq : q < m := by omega
    rw [findI_yes L f m q hq]
    simp only [DD_at L f m q hq]
    by_cases hf : follows (f q) s = true
    · rw [if_pos hf]
      simp only
      congr 1
      apply List.ext_getElem?
      intro j
      by_cases hj : j < m
      · rw [DD_at _ _ _ _ hj]
        by_cases e : q = j
        · subst e
          rw [List.getElem?_set_self (by rw [DD_len]; exact hj)]
          simp [take1, hf]
        · rw [List.getElem?_set_ne e, DD_at _ _ _ _ hj]
          unfold take1
          rw [if_neg (by omega)]
      · rw [List.getElem?_eq_none (by simp [DD_len]; omega), List.getElem?_eq_none (by simp [DD_len]; omega)]
    · rw [if_neg hf]
      simp only
      congr 1
      refine DD_congr _ _ _ _ fun j hj => ?_
      unfold take1
      by_cases e : (j : Int) = q
      · obtain rfl : j = q := by omega
        rw [if_neg (by simp [hf])]
      · rw [if_neg (by simp [e])]
/-- the stages after the reports about the commands in E -/
def stg (E : List Int) (j : Nat) : Int := if hasP E (j : Int) = true then 3 else 0
theorem has_app (E : List Int) (n j : Int) : hasP (E ++ [n]) j = (hasP E j || n == j) := by simp [hasP]
theorem stg_take (E : List Int) (n : Int) (j : Nat) : take1 (take1 (take1 (stg E) n 1) n 2) n 3 j = stg (E ++ [n]) j := by
  have e : stg (E ++ [n]) j = if (j : Int) = n then 3 else stg E j := by
    unfold stg
    rw [has_app]
    by_cases h : (j : Int) = n
    · simp [h]
    · have : ¬ n = (j : Int) := fun h' => h h'.symm
      simp [h, this]
  rw [e]
  by_cases h : (j : Int) = n
  · rw [if_pos h]
    unfold take1
    simp only [h, true_and]
    unfold stg
    rcases Bool.eq_false_or_eq_true (hasP E (j : Int)) with h2 | h2 <;> simp only [h2, if_true] <;> decide
  · unfold take1
    simp [h]
theorem three (L : List Int) (E : List Int) (m : Nat) (nw to n : Int) (hn : 0 ≤ n ∧ n ≤ 255) :
    ∃ k1 k2 k3 t1 t2, takeP ⟨nw, to, DD L (stg E) m⟩ ⟨1, n, 1, 0⟩ nw = (k1, t1) ∧ takeP t1 ⟨1, n, 2, 0⟩ nw = (k2, t2) ∧ takeP t2 ⟨1, n, 3, 0⟩ nw = (k3, ⟨nw, to, DD L (stg (E ++ [n])) m⟩) := by
  have h1 := take_step L (stg E) m nw to n 1 hn (by decide)
  have h2 := take_step L (take1 (stg E) n 1) m nw to n 2 hn (by decide)
  have h3 := take_step L (take1 (take1 (stg E) n 1) n 2) m nw to n 3 hn (by decide)
  rw [DD_congr L _ _ m (fun j _ => stg_take E n j)] at h3
  refine ⟨(takeP ⟨nw, to, DD L (stg E) m⟩ ⟨1, n, 1, 0⟩ nw).1, (takeP ⟨nw, to, DD L (take1 (stg E) n 1) m⟩ ⟨1, n, 2, 0⟩ nw).1, (takeP ⟨nw, to, DD L (take1 (take1 (stg E) n 1) n 2) m⟩ ⟨1, n, 3, 0⟩ nw).1,
    ⟨nw, to, DD L (take1 (stg E) n 1) m⟩, ⟨nw, to, DD L (take1 (take1 (stg E) n 1) n 2) m⟩, ?_, ?_, ?_⟩
  · exact Prod.ext rfl h1
  · exact Prod.ext rfl h2
  · exact Prod.ext rfl h3
/-- what the law wants -/
def due (L E : List Int) (nw to : Int) (j : Nat) : Bool := !hasP E (j : Int) && decide (to ≤ nw - pre L (j + 1))
def wantL (L E : List Int) (nw to : Int) (k : Nat) : List (Int × Int) := ((List.range k).filter (due L E nw to)).map fun j : Nat => ((1 : Int), (j : Int))
theorem want_yes {L E : List Int} {nw to : Int} {k : Nat} (h : due L E nw to k = true) : wantL L E nw to (k + 1) = wantL L E nw to k ++ [(1, (k : Int))] := by
  simp [wantL, List.range_succ, List.filter_append, h]
theorem want_no {L E : List Int} {nw to : Int} {k : Nat} (h : due L E nw to k = false) : wantL L E nw to (k + 1) = wantL L E nw to k := by
  simp [wantL, List.range_succ, List.filter_append, h]
theorem want_le (L E : List Int) (nw to : Int) (k : Nat) : (wantL L E nw to k).length ≤ k := by
  have := List.length_filter_le (due L E nw to) (List.range k)
  simpa [wantL] using this
theorem over_want (L E : List Int) (nw n2 to : Int) (m : Nat) (h : nw ≤ n2 ∧ n2 ≤ 1000000) : overP (adv nw n2) to (DD L (stg E) m) = wantL L E n2 to m := by
  have ha : adv nw n2 = n2 := by unfold adv; split <;> omega
  rw [ha]
  unfold overP wantL DD
  rw [List.filter_map, List.map_map]
  congr 1
  apply List.filter_congr
  intro j _
  simp only [Function.comp, late, due, stg]
  rcases Bool.eq_false_or_eq_true (hasP E (j : Int)) with h2 | h2 <;> simp [h2, final]
theorem over_adv (nw n2 : Int) (h : nw ≤ n2 ∧ n2 ≤ 1000000) : adv nw n2 = n2 := by unfold adv; split <;> omega
end Go.Proofs.Ytcpfdkmdhpclkaa
