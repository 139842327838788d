/- Ranges, plainly: one list for a set; width and length as numbers of members. -/
import Derived.Test.YtfkbcflgbjncdaaTxM
namespace Go.Proofs.Ytfkbcflgbjncdaa
set_option linter.unusedVariables false
set_option linter.unusedSimpArgs false
theorem nrm_unique : ∀ {l m : List Gp}, Nrm l → Nrm m → (∀ z, mem l z ↔ mem m z) → l = m
  | [], m, _, hm, h => (nrm_empty hm fun n hn => mem_nil n ((h n).2 hn)).symm
  | r :: l, [], hl, _, h => absurd ((h r.f).1 ((nrm_first hl).2.2 r.f (Int.le_refl _) (hl.full r (by simp)))) (mem_nil _)
  | r :: l, s :: m, hl, hm, h => by
    obtain ⟨a1, a2, a3⟩ := nrm_first hl
    obtain ⟨b1, b2, b3⟩ := nrm_first hm
    have fr := hl.full r (by simp)
    have fs := hm.full s (by simp)
    have e1 : r.f = s.f := by
      have h1 := a1 s.f ((h _).2 (b3 s.f (by omega) fs))
      have h2 := b1 r.f ((h _).1 (a3 r.f (by omega) fr))
      omega
    have e2 : r.t = s.t := by
      rcases Int.lt_trichotomy r.t s.t with k | k | k
      · exact absurd ((h _).2 (b3 r.t (by omega) k)) a2
      · exact k
      · exact absurd ((h _).1 (a3 s.t (by omega) k)) b2
    have e : r = s := by cases r; cases s; simp_all
    subst e
    have p1 := (List.pairwise_cons.1 hl.apart).1
    have p2 := (List.pairwise_cons.1 hm.apart).1
    rw [nrm_unique (nrm_tail hl) (nrm_tail hm) fun z => ?_]
    have hz := h z
    rw [mem_cons, mem_cons] at hz
    constructor
    · intro k
      obtain ⟨x, hx, k1, k2⟩ := k
      have := p1 x hx
      rcases hz.1 (.inr ⟨x, hx, k1, k2⟩) with q | q
      · omega
      · exact q
    · intro k
      obtain ⟨x, hx, k1, k2⟩ := k
      have := p2 x hx
      rcases hz.2 (.inr ⟨x, hx, k1, k2⟩) with q | q
      · omega
      · exact q
theorem len_width : ∀ {l : List Gp}, Nrm l → (l.length : Int) ≤ width l
  | [], _ => by simp [width]
  | r :: l, h => by
    have := len_width (nrm_tail h)
    have := h.full r (by simp)
    simp only [width, List.map_cons, List.sum_cons, List.length_cons] at *
    omega
theorem nrm_len {l : List Gp} {a N : Int} (h : Nrm l) (hb : ∀ n, mem l n → a ≤ n ∧ n < N) (ha : a ≤ N) : (l.length : Int) ≤ N - a := by
  have := len_width h
  have := (width_le h hb ha).1
  omega
instance memDec (l : List Gp) (z : Int) : Decidable (mem l z) := by
  unfold mem; infer_instance
/-- how many of 0 .. n-1 -/
def cnt (n : Nat) (p : Nat → Bool) : Nat := (List.range n).countP p
theorem cnt_zero (p : Nat → Bool) : cnt 0 p = 0 := rfl
theorem cnt_succ (n : Nat) (p : Nat → Bool) : cnt (n + 1) p = cnt n p + if p n then 1 else 0 := by
  unfold cnt; rw [List.range_succ, List.countP_append, List.countP_singleton]
theorem cnt_le (n : Nat) (p : Nat → Bool) : cnt n p ≤ n := by
  induction n with
  | zero => simp [cnt]
  | succ n ih => rw [cnt_succ]; split <;> omega
theorem cnt_mono {n : Nat} {p q : Nat → Bool} (h : ∀ i, i < n → p i = true → q i = true) : cnt n p ≤ cnt n q := by
  induction n with
  | zero => simp [cnt]
  | succ n ih =>
    rw [cnt_succ, cnt_succ]
    have := ih fun i hi => h i (by omega)
    have := h n (by omega)
    cases hp : p n <;> cases hq : q n <;> simp_all <;> omega
theorem cnt_lt {n k : Nat} {p q : Nat → Bool} (h : ∀ i, i < n → p i = true → q i = true) (hk : k < n) (h1 : p k = false) (h2 : q k = true) : cnt n p + 1 ≤ cnt n q := by
  induction n with
  | zero => omega
  | succ n ih =>
    rw [cnt_succ, cnt_succ]
    have hm := cnt_mono (n := n) fun i hi => h i (by omega)
    by_cases he : k = n
    · subst he; simp [h1, h2]; exact hm
    · have := ih (fun i hi => h i (by omega)) (by omega)
      have := h n (by omega)
      cases hp : p n <;> cases hq : q n <;> simp_all <;> omega
theorem cnt_lt2 {n k j : Nat} {p q : Nat → Bool} (h : ∀ i, i < n → p i = true → q i = true) (hk : k < n) (hj : j < k) (h1 : p k = false) (h2 : q k = true) (h3 : p j = false) (h4 : q j = true) : cnt n p + 2 ≤ cnt n q := by
  induction n with
  | zero => omega
  | succ n ih =>
    rw [cnt_succ, cnt_succ]
    by_cases he : k = n
    · subst he
      have := cnt_lt (n := k) (k := j) (fun i hi => h i (by omega)) hj h3 h4
      simp [h1, h2]; omega
    · have := ih (fun i hi => h i (by omega)) (by omega)
      have := h n (by omega)
      cases hp : p n <;> cases hq : q n <;> simp_all <;> omega
theorem cnt_eq {n : Nat} {p q : Nat → Bool} (h : ∀ i, i < n → p i = q i) : cnt n p = cnt n q := by
  apply Nat.le_antisymm
  · exact cnt_mono fun i hi hp => by rw [← h i hi]; exact hp
  · exact cnt_mono fun i hi hp => by rw [h i hi]; exact hp
theorem cnt_none {n : Nat} {p : Nat → Bool} (h : cnt n p = 0) : ∀ i, i < n → p i = false := by
  induction n with
  | zero => intro i hi; omega
  | succ n ih =>
    rw [cnt_succ] at h
    intro i hi
    by_cases he : i = n
    · subst he; cases hp : p i with
      | false => rfl
      | true => simp [hp] at h
    · exact ih (by omega) i (by omega)
theorem cnt_or {n : Nat} {p q : Nat → Bool} (h : ∀ i, i < n → ¬(p i = true ∧ q i = true)) : cnt n (fun i => p i || q i) = cnt n p + cnt n q := by
  induction n with
  | zero => simp [cnt]
  | succ n ih =>
    rw [cnt_succ, cnt_succ, cnt_succ, ih fun i hi => h i (by omega)]
    have := h n (by omega)
    cases hp : p n <;> cases hq : q n <;> simp_all <;> omega
theorem cnt_seg (n a b : Nat) (hab : a ≤ b) : cnt n (fun i => decide (a ≤ i ∧ i < b)) = min b n - min a n := by
  induction n with
  | zero => simp [cnt]
  | succ n ih =>
    rw [cnt_succ, ih]
    by_cases h : a ≤ n ∧ n < b
    · simp [h]; omega
    · simp [h]; omega
/-- the width is the number of members -/
theorem width_cnt {N : Nat} : ∀ {l : List Gp}, Nrm l → (∀ n, mem l n → 0 ≤ n ∧ n < N) → width l = (cnt N (fun i => decide (mem l (i : Int))) : Nat)
  | [], _, _ => by
    have : cnt N (fun i => decide (mem [] (i : Int))) = 0 := by
      rw [cnt_eq (q := fun i => decide (0 ≤ i ∧ i < 0)) fun i _ => by simp [mem_nil], cnt_seg _ _ _ (Nat.le_refl _)]; omega
    rw [this]; simp [width]
  | r :: l, h, hb => by
    have hr := h.full r (by simp)
    obtain ⟨h1, h2⟩ := List.pairwise_cons.1 h.apart
    have hf := hb r.f ((mem_cons r l r.f).2 (.inl ⟨by omega, hr⟩))
    have hl := hb (r.t - 1) ((mem_cons r l _).2 (.inl ⟨by omega, by omega⟩))
    have ih := width_cnt (N := N) (l := l) (nrm_tail h) fun n hn => hb n ((mem_cons r l n).2 (.inr hn))
    have hw : width (r :: l) = (r.t - r.f) + width l := by simp [width]
    have e : cnt N (fun i => decide (mem (r :: l) (i : Int))) = cnt N (fun i => decide (r.f.toNat ≤ i ∧ i < r.t.toNat)) + cnt N (fun i => decide (mem l (i : Int))) := by
      rw [← cnt_or]
      · refine cnt_eq fun i _ => ?_
        have := mem_cons r l (i : Int)
        by_cases k : mem l (i : Int)
        · simp [k, this]
        · simp only [this, k, or_false, decide_false, Bool.or_false]
          congr 1
          apply propext
          omega
      · intro i _ hk
        simp only [decide_eq_true_eq] at hk
        obtain ⟨k1, x, hx, k2⟩ := hk
        have := h1 x hx
        omega
    rw [hw, e, cnt_seg _ _ _ (by omega), ih]
    omega
/-- more members, more width -/
theorem width_lt {l m : List Gp} {N : Nat} (hl : Nrm l) (hm : Nrm m) (hb : ∀ n, mem m n → 0 ≤ n ∧ n < N) (hs : ∀ n, mem l n → mem m n) (z : Int) (hz : mem m z) (hn : ¬ mem l z) : width l < width m := by
  rw [width_cnt hl fun n h => hb n (hs n h), width_cnt hm hb]
  have := hb z hz
  have := cnt_lt (n := N) (k := z.toNat) (p := fun i => decide (mem l (i : Int))) (q := fun i => decide (mem m (i : Int))) (fun i _ h => by simpa using hs _ (by simpa using h)) (by omega) (by rw [show ((z.toNat : Nat) : Int) = z by omega]; simp [hn]) (by rw [show ((z.toNat : Nat) : Int) = z by omega]; simp [hz])
  omega
theorem width_same {l m : List Gp} (hl : Nrm l) (hm : Nrm m) (h : ∀ n, mem l n ↔ mem m n) : width l = width m := by rw [nrm_unique hl hm h]
/-- the end of the last range -/
def lastT (l : List Gp) : Int := match l.getLast? with | some g => g.t | none => 0
theorem lastT_le {l : List Gp} {N : Int} (hl : Nrm l) (hb : ∀ n, mem l n → n < N) (h0 : 0 ≤ N) : lastT l ≤ N := by
  unfold lastT
  cases h : l.getLast? with
  | none => simpa using h0
  | some g =>
    have hg : g ∈ l := List.mem_of_getLast? h
    have := hl.full g hg
    have := hb (g.t - 1) ⟨g, hg, by omega, by omega⟩
    simp only; omega
end Go.Proofs.Ytfkbcflgbjncdaa
