/- The plain law behind BucketBounds: what was taken in an interval. -/
import Derived.Test.YtppmbigmpilggaaPlain
namespace Go.Proofs.Ytppmbigmpilggaa
set_option linter.unusedVariables false
set_option linter.unusedSimpArgs false

/-- the sum of the elements i, .., k - 1 -/
def seg (N : List Int) (i k : Nat) : Int := ((N.drop i).take (k - i)).sum

theorem seg_self (N : List Int) (i : Nat) : seg N i i = 0 := by simp [seg]
theorem seg_succ (N : List Int) (i k : Nat) (n : Int) (hik : i ≤ k) (h : N[k]? = some n) : seg N i (k + 1) = seg N i k + n := by
  unfold seg
  have e : k + 1 - i = (k - i) + 1 := by omega
  rw [e, List.take_add_one, List.getElem?_drop]
  have e2 : i + (k - i) = k := by omega
  rw [e2, h]
  simp
theorem seg_append (N : List Int) (n : Int) (i k : Nat) (h : k ≤ N.length) (hik : i ≤ k) : seg (N ++ [n]) i k = seg N i k := by
  unfold seg
  rw [List.drop_append_of_le_length (by omega), List.take_append_of_le_length (by simp; omega)]
theorem seg_last (N : List Int) (n : Int) (i : Nat) (h : i ≤ N.length) : seg (N ++ [n]) i (N.length + 1) = seg N i N.length + n := by
  rw [seg_succ (N ++ [n]) i N.length n h (by simp), seg_append N n i N.length (Nat.le_refl _) h]
theorem seg_bd (N : List Int) (hN : ∀ x ∈ N, 0 ≤ x ∧ x ≤ 1000000) (i : Nat) : ∀ k, i ≤ k → k ≤ N.length → 0 ≤ seg N i k ∧ seg N i k ≤ 1000000 * (k - i : Int) := by
  intro k
  induction k with
  | zero => intro h _; obtain rfl : i = 0 := by omega
            rw [seg_self]; omega
  | succ k ih =>
    intro h1 h2
    by_cases e : i = k + 1
    · subst e; rw [seg_self]; omega
    · have hk : k < N.length := by omega
      have hn := hN N[k] (List.getElem_mem hk)
      have hi := ih (by omega) (by omega)
      rw [seg_succ N i k N[k] (by omega) (List.getElem?_eq_getElem hk)]
      omega

/-- what the calls so far have taken -/
structure BInv (b : Bu) (T N : List Int) : Prop where
  inv : b.Inv
  len : T.length = N.length
  tt : ∀ x ∈ T, 0 ≤ x ∧ x ≤ b.t
  nn : ∀ x ∈ N, 0 ≤ x ∧ x ≤ 1000000
  pot : ∀ i t, T[i]? = some t → seg N i N.length + b.l ≤ b.s + b.r * (b.t - t)
  mono : ∀ (i k : Nat) (t u : Int), i ≤ k → T[i]? = some t → T[k]? = some u → t ≤ u
  good : ∀ i k t u, i ≤ k → T[i]? = some t → T[k]? = some u → seg N i (k + 1) ≤ b.s + b.r * (u - t)

theorem binv_new (r s : Int) : BInv (newB r s) [] [] := ⟨new_inv r s, rfl, by simp, by simp, by simp, by simp, by simp⟩

theorem binv_adv {b : Bu} {T N : List Int} (h : BInv b T N) (now : Int) (h1 : b.t ≤ now) (h2 : now ≤ 1099511627776) : BInv (b.adv now) T N ∧ (b.adv now).t = now := by
  by_cases hc : now ≤ b.t
  · rw [adv_stay b now (.inl hc)]
    exact ⟨h, by omega⟩
  · rw [adv_go b now (by omega) h2]
    have hi := adv_inv h.inv now
    rw [adv_go b now (by omega) h2] at hi
    refine ⟨⟨hi, h.len, fun x hx => ?_, h.nn, fun i t hit => ?_, h.mono, h.good⟩, rfl⟩
    · have := h.tt x hx; simp only; omega
    · have := h.pot i t hit
      have hf : fill b (now - b.t) ≤ b.l + b.r * (now - b.t) := by unfold fill; split <;> omega
      have e : b.r * (now - t) = b.r * (b.t - t) + b.r * (now - b.t) := by rw [← Int.mul_add]; congr 1; omega
      simp only
      omega

theorem binv_take {b : Bu} {T N : List Int} (h : BInv b T N) (n now : Int) (h1 : b.t ≤ now) (h2 : now ≤ 1099511627776) (hn : 0 ≤ n ∧ n ≤ 1000000) (ht : b.takes n now = true) :
    BInv (b.take n now) (T ++ [now]) (N ++ [n]) ∧ (b.take n now).t = now := by
  obtain ⟨ha, hat⟩ := binv_adv h now h1 h2
  have hk : b.take n now = ⟨b.r, b.s, (b.adv now).l - n, (b.adv now).t⟩ := by simp [Bu.take, ht]
  have hti := take_inv h.inv n now
  have hr := adv_r b now
  have hs := adv_s b now
  have hl1 := ha.inv.l1
  have hpot : ∀ i t, (T ++ [now])[i]? = some t → seg (N ++ [n]) i (N ++ [n]).length + ((b.adv now).l - n) ≤ b.s + b.r * (now - t) := by
    intro i t hit
    rw [List.length_append, List.length_singleton]
    by_cases hi : i < T.length
    · rw [List.getElem?_append_left hi] at hit
      have := ha.pot i t hit
      rw [seg_last N n i (by have := h.len; omega)]
      rw [hr, hs, hat] at this
      omega
    · have hi' : i = T.length := by
        by_cases e : i = T.length
        · exact e
        · rw [List.getElem?_eq_none (by simp; omega)] at hit; cases hit
      subst hi'
      have hnow : now = t := by simpa using hit
      subst hnow
      rw [h.len, seg_last N n _ (Nat.le_refl _), seg_self, Int.sub_self, Int.mul_zero]
      rw [hs] at hl1
      omega
  have hl0 : 0 ≤ (b.adv now).l - n := by
    have := hti.l0; rw [hk] at this; exact this
  rw [hk] at hti ⊢
  refine ⟨⟨hti, by simp [h.len], fun x hx => ?_, fun x hx => ?_, fun i t hit => ?_, fun i k t u hik hit hku => ?_, fun i k t u hik hit hku => ?_⟩, hat⟩
  · simp only [List.mem_append, List.mem_singleton] at hx
    rcases hx with hx | rfl
    · exact ha.tt x hx
    · have := h.inv.t0; simp only; omega
  · simp only [List.mem_append, List.mem_singleton] at hx
    rcases hx with hx | rfl
    · exact h.nn x hx
    · exact hn
  · have := hpot i t hit
    simp only [hat]
    exact this
  · by_cases hk' : k < T.length
    · rw [List.getElem?_append_left hk'] at hku
      rw [List.getElem?_append_left (by omega)] at hit
      exact h.mono i k t u hik hit hku
    · have hk'' : k = T.length := by
        by_cases e : k = T.length
        · exact e
        · rw [List.getElem?_eq_none (by simp; omega)] at hku; cases hku
      subst hk''
      have hu : now = u := by simpa using hku
      subst hu
      by_cases hi' : i < T.length
      · rw [List.getElem?_append_left hi'] at hit
        have := (h.tt t (List.mem_of_getElem? hit)).2
        omega
      · have : i = T.length := by omega
        subst this
        have : now = t := by simpa using hit
        omega
  · simp only
    by_cases hk' : k < T.length
    · rw [List.getElem?_append_left hk'] at hku
      rw [List.getElem?_append_left (by omega)] at hit
      rw [seg_append N n i (k + 1) (by have := h.len; omega) (by omega)]
      exact h.good i k t u hik hit hku
    · have hk'' : k = T.length := by
        by_cases e : k = T.length
        · exact e
        · rw [List.getElem?_eq_none (by simp; omega)] at hku; cases hku
      subst hk''
      have hu : now = u := by simpa using hku
      subst hu
      have := hpot i t hit
      rw [List.length_append, List.length_singleton, ← h.len] at this
      omega

theorem binv_skip {b : Bu} {T N : List Int} (h : BInv b T N) (n now : Int) (h1 : b.t ≤ now) (h2 : now ≤ 1099511627776) (ht : b.takes n now = false) :
    BInv (b.take n now) T N ∧ (b.take n now).t = now := by
  have hk : b.take n now = b.adv now := by simp [Bu.take, ht]
  rw [hk]
  exact binv_adv h now h1 h2

theorem take_r (b : Bu) (n now : Int) : (b.take n now).r = b.r := by unfold Bu.take; split; rfl; exact adv_r b now
theorem take_s (b : Bu) (n now : Int) : (b.take n now).s = b.s := by unfold Bu.take; split; rfl; exact adv_s b now
end Go.Proofs.Ytppmbigmpilggaa
