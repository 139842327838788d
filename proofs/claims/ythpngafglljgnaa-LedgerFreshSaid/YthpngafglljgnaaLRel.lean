/- The ledger and the reference's ledger: the plain relation. -/
import Derived.Test.YthpngafglljgnaaBits
namespace Go.Proofs.Ythpngafglljgnaa
set_option linter.unusedVariables false
set_option linter.unusedSimpArgs false
open Go.RowKit
theorem add_bit : ∀ (k m j : Nat), m.testBit k = false → (m + 2 ^ k).testBit j = (m.testBit j || decide (j = k))
  | 0, m, 0, h => by
    simp only [Nat.testBit_zero, decide_eq_false_iff_not] at h ⊢
    have : m % 2 = 0 := by omega
    simp; omega
  | 0, m, j + 1, h => by
    simp only [Nat.testBit_zero, decide_eq_false_iff_not] at h
    rw [Nat.testBit_succ, Nat.testBit_succ, show (m + 2 ^ 0) / 2 = m / 2 by omega]
    simp
  | k + 1, m, 0, h => by
    simp only [Nat.testBit_zero]
    have : (m + 2 ^ (k + 1)) % 2 = m % 2 := by rw [Nat.pow_succ]; omega
    rw [this]; simp
  | k + 1, m, j + 1, h => by
    rw [Nat.testBit_succ] at h
    rw [Nat.testBit_succ, Nat.testBit_succ, show (m + 2 ^ (k + 1)) / 2 = m / 2 + 2 ^ k by rw [Nat.pow_succ]; omega, add_bit k (m / 2) j h]
    simp
/-- the mask of a list of numbers, as the reference sums it up -/
def maskN (N : Int) (S : List Int) : Nat := S.foldl (fun m x => if N - x < 64 then m + 2 ^ (N - x).toNat else m) 0
theorem maskN_snoc (N : Int) (S : List Int) (x : Int) : maskN N (S ++ [x]) = if N - x < 64 then maskN N S + 2 ^ (N - x).toNat else maskN N S := by
  unfold maskN; rw [List.foldl_append]; rfl
theorem mask_bit (N : Int) : ∀ (n : Nat) (S : List Int), S.length = n → S.Nodup → (∀ x ∈ S, x ≤ N) → ∀ k : Nat, (maskN N S).testBit k = (decide (k < 64) && decide (N - (k : Int) ∈ S))
  | 0, S, hl, _, _, k => by
    obtain rfl := List.length_eq_zero_iff.1 hl
    simp [maskN]
  | n + 1, S, hl, hn, hx, k => by
    obtain ⟨T, y, rfl⟩ : ∃ T y, S = T ++ [y] := by
      have : S ≠ [] := by intro h; rw [h] at hl; cases hl
      exact ⟨S.dropLast, S.getLast this, (List.dropLast_concat_getLast this).symm⟩
    have hT : T.length = n := by simpa using hl
    obtain ⟨h1, _, h2⟩ := List.nodup_append.1 hn
    have ih := mask_bit N n T hT h1 (fun x hxT => hx x (by simp [hxT]))
    have hy := hx y (by simp)
    have hyT : y ∉ T := fun h => h2 y h y (by simp) rfl
    rw [maskN_snoc]
    by_cases h64 : N - y < 64
    · rw [if_pos h64]
      have hz : (maskN N T).testBit (N - y).toNat = false := by
        rw [ih]
        have e : N - (((N - y).toNat : Nat) : Int) = y := by omega
        rw [e]; simp [hyT]
      rw [add_bit _ _ _ hz, ih k]
      by_cases hk : k = (N - y).toNat
      · subst hk
        have e : N - (((N - y).toNat : Nat) : Int) = y := by omega
        have h3 : (N - y).toNat < 64 := by omega
        rw [e]; simp [h3]
      · have e : N - (k : Int) ≠ y := by omega
        simp [hk, e]
    · rw [if_neg h64, ih k]
      by_cases hk : k < 64
      · have e : N - (k : Int) ≠ y := by omega
        simp [e]
      · simp [hk]
theorem mask_lt (N : Int) (S : List Int) (hn : S.Nodup) (hx : ∀ x ∈ S, x ≤ N) : maskN N S < 18446744073709551616 := by
  have h : maskN N S < 2 ^ 64 := Nat.lt_pow_two_of_testBit _ (fun i hi => by rw [mask_bit N _ S rfl hn hx i]; simp; omega)
  simpa using h
/-- a record and what the reference keeps of a source -/
structure RelR (r : Rc) (N : Int) (S : List Int) : Prop where
  ok : RcOk r
  right : rightB r = true
  n : r.n = N
  nd : S.Nodup
  rg : ∀ x ∈ S, 1 ≤ x ∧ x ≤ N
  bit : ∀ k : Nat, k < 64 → (bitAt r.m k = true ↔ N - (k : Int) ∈ S)
def seenR (N : Int) (S : List Int) (n : Int) : Bool := decide (n ≤ N - 64) || decide (n ∈ S)
theorem RelR.seen {r : Rc} {N : Int} {S : List Int} (h : RelR r N S) (n : Int) : seenB r n = seenR N S n := by
  unfold seenB seenR
  rw [h.n]
  by_cases h1 : n ≤ N - 64
  · rw [decide_eq_true (show 64 ≤ N - n by omega), decide_eq_true h1]; rfl
  · rw [decide_eq_false (show ¬ 64 ≤ N - n by omega), decide_eq_false h1, Bool.false_or, Bool.false_or]
    by_cases h2 : 0 ≤ N - n
    · rw [decide_eq_true h2, Bool.true_and]
      have hb := h.bit (N - n).toNat (by omega)
      have e : N - (((N - n).toNat : Nat) : Int) = n := by omega
      rw [e] at hb
      by_cases h3 : n ∈ S
      · rw [hb.2 h3, decide_eq_true h3]
      · rw [decide_eq_false h3]
        cases hc : bitAt r.m (N - n).toNat with
        | false => rfl
        | true => exact absurd (hb.1 hc) h3
    · rw [decide_eq_false h2, Bool.false_and, decide_eq_false (fun h3 => by have := h.rg n h3; omega)]
theorem RelR.mark {r : Rc} {N : Int} {S : List Int} (h : RelR r N S) {n : Int} (hn : okN n = true) (hs : seenB r n = false) : RelR (markR r n) (max N n) (S ++ [n]) := by
  have hn' := okN_iff.1 hn
  have hm : MkR r n := ⟨h.ok, hn', hs⟩
  have hnS : n ∉ S := fun hi => by
    rw [h.seen] at hs
    unfold seenR at hs
    rw [decide_eq_true hi, Bool.or_true] at hs
    cases hs
  obtain ⟨x, hx⟩ := Int.eq_ofNat_of_zero_le h.ok.2.1
  have hb : ∀ k : Nat, k < 64 → (x.testBit k = true ↔ N - (k : Int) ∈ S) := fun k hk => by
    have := h.bit k hk
    rw [hx, bitAt_nat] at this
    exact this
  refine ⟨markR_ok h.ok hn hs, right_mark hm h.right, ?_, ?_, ?_, ?_⟩
  · unfold markR
    rw [h.n]
    split
    · simp only; omega
    · simp only [h.n]; omega
  · rw [List.nodup_append]
    exact ⟨h.nd, by simp, fun a ha b hb' e => by simp at hb'; subst hb'; subst e; exact hnS ha⟩
  · intro y hy
    rcases List.mem_append.1 hy with hy | hy
    · have := h.rg y hy; omega
    · simp at hy; subst hy; omega
  · intro k hk
    by_cases hlt : r.n < n
    · obtain ⟨d, hd⟩ := Int.eq_ofNat_of_zero_le (show 0 ≤ n - r.n by omega)
      rw [mark_up hm hlt hx hd, bitAt_nat, Nat.testBit_or, shl_bit]
      have hmax : max N n = n := by rw [← h.n]; omega
      rw [hmax, List.mem_append, List.mem_singleton]
      have hN := h.n
      by_cases hk0 : k = 0
      · subst hk0; simp
      · have e1 : Nat.testBit 1 k = false := by
          cases k with
          | zero => exact absurd rfl hk0
          | succ k => simp [Nat.testBit_succ]
        rw [e1, Bool.or_false, decide_eq_true hk, Bool.true_and]
        by_cases hdk : d ≤ k
        · rw [decide_eq_true hdk, Bool.true_and, hb (k - d) (by omega), show N - ((k - d : Nat) : Int) = n - (k : Int) by omega]
          constructor
          · exact .inl
          · rintro (h1 | h1)
            · exact h1
            · omega
        · rw [decide_eq_false hdk, Bool.false_and]
          constructor
          · intro h1; cases h1
          · rintro (h1 | h1)
            · have := h.rg _ h1; omega
            · omega
    · obtain ⟨d, hd⟩ := Int.eq_ofNat_of_zero_le (show 0 ≤ r.n - n by omega)
      obtain ⟨hd64, e⟩ := mark_in hm hlt hx hd
      have hN := h.n
      have hmax : max N n = N := by omega
      rw [e, bitAt_nat, Nat.testBit_or, hmax, List.mem_append, List.mem_singleton, Bool.or_eq_true, hb k hk, Nat.testBit_two_pow]
      constructor
      · rintro (h1 | h1)
        · exact .inl h1
        · have := of_decide_eq_true h1; exact .inr (by omega)
      · rintro (h1 | h1)
        · exact .inl h1
        · exact .inr (decide_eq_true (by omega))
theorem RelR.mask {r : Rc} {N : Int} {S : List Int} (h : RelR r N S) : r.m = (maskN N S : Int) := by
  obtain ⟨x, hx⟩ := Int.eq_ofNat_of_zero_le h.ok.2.1
  rw [hx]
  have hxlt : x < 2 ^ 64 := by have := h.ok.2.2; rw [hx] at this; omega
  congr 1
  refine Nat.eq_of_testBit_eq (fun k => ?_)
  rw [mask_bit N _ S rfl h.nd (fun y hy => (h.rg y hy).2) k]
  by_cases hk : k < 64
  · have hb := h.bit k hk
    rw [hx, bitAt_nat] at hb
    rw [decide_eq_true hk, Bool.true_and]
    by_cases hin : N - (k : Int) ∈ S
    · rw [decide_eq_true hin]; exact hb.2 hin
    · rw [decide_eq_false hin]
      cases hc : x.testBit k with
      | false => rfl
      | true => exact absurd (hb.1 hc) hin
  · rw [decide_eq_false hk, Bool.false_and]
    exact Nat.testBit_lt_two_pow (Nat.lt_of_lt_of_le hxlt (Nat.pow_le_pow_right (by decide) (by omega)))
/-- what the reference keeps of a source -/
structure Mo where
  n : Int
  s : List Int
def seenM (M : List Mo) (s n : Int) : Bool := !okS s || (!okN n || (match M[s.toNat]? with | some x => seenR x.n x.s n | none => true))
def newestM (M : List Mo) (s : Int) : Int := if okS s then (match M[s.toNat]? with | some x => x.n | none => 0) else 0
def markMo (x : Mo) (n : Int) : Mo := ⟨max x.n n, x.s ++ [n]⟩
def markM (M : List Mo) (s n : Int) : List Mo × Int :=
  if okS s && okN n then (match M[s.toNat]? with | some x => if seenR x.n x.s n then (M, 9) else (M.set s.toNat (markMo x n), 0) | none => (M, 1)) else (M, 1)
def encM (x : Mo) : List Int := be x.n 2 ++ be (maskN x.n x.s : Int) 8
def imageM (M : List Mo) : List Int := M.flatMap encM
structure RelL (L : List Rc) (M : List Mo) : Prop where
  l : L.length = 16
  m : M.length = 16
  r : ∀ (i : Nat) r x, L[i]? = some r → M[i]? = some x → RelR r x.n x.s
theorem rel0 : RelL zeroL (List.replicate 16 ⟨0, []⟩) := by
  refine ⟨rfl, by simp, fun i r x hr hx => ?_⟩
  unfold zeroL at hr
  rw [List.getElem?_replicate] at hr hx
  split at hr
  · rename_i hi
    rw [if_pos hi] at hx
    cases hr
    cases hx
    refine ⟨by unfold RcOk; decide, by decide, rfl, by simp, by simp, fun k hk => ?_⟩
    simp [bitAt]
  · cases hr
theorem RelL.at_ {L : List Rc} {M : List Mo} (h : RelL L M) {i : Nat} (hi : i < 16) : ∃ r x, L[i]? = some r ∧ M[i]? = some x ∧ RelR r x.n x.s :=
  ⟨_, _, List.getElem?_eq_getElem (by rw [h.l]; exact hi), List.getElem?_eq_getElem (by rw [h.m]; exact hi), h.r i _ _ (List.getElem?_eq_getElem (by rw [h.l]; exact hi)) (List.getElem?_eq_getElem (by rw [h.m]; exact hi))⟩
theorem RelL.seen {L : List Rc} {M : List Mo} (h : RelL L M) (s n : Int) : seenL L s n = seenM M s n := by
  unfold seenL seenM
  cases hs : okS s with
  | false => rfl
  | true =>
    have hs' := okS_iff.1 hs
    obtain ⟨r, x, hr, hx, hrel⟩ := h.at_ (i := s.toNat) (by omega)
    rw [hr, hx]
    simp only [hrel.seen n]
theorem RelL.newest {L : List Rc} {M : List Mo} (h : RelL L M) (s : Int) : newestL L s = newestM M s := by
  unfold newestL newestM
  cases hs : okS s with
  | false => rfl
  | true =>
    have hs' := okS_iff.1 hs
    obtain ⟨r, x, hr, hx, hrel⟩ := h.at_ (i := s.toNat) (by omega)
    rw [hr, hx]
    simp only [hrel.n]
theorem RelL.mark {L : List Rc} {M : List Mo} (h : RelL L M) (s n : Int) : (markL L s n).2 = (markM M s n).2 ∧ RelL (markL L s n).1 (markM M s n).1 := by
  unfold markL markM
  cases hs : okS s with
  | false => exact ⟨rfl, h⟩
  | true =>
    cases hn : okN n with
    | false => exact ⟨rfl, h⟩
    | true =>
      have hs' := okS_iff.1 hs
      obtain ⟨r, x, hr, hx, hrel⟩ := h.at_ (i := s.toNat) (by omega)
      simp only [hr, hx, Bool.and_self, if_true, hrel.seen n]
      cases hq : seenR x.n x.s n with
      | true => exact ⟨rfl, h⟩
      | false =>
        refine ⟨rfl, by simpa using h.l, by simpa using h.m, fun i r' x' h1 h2 => ?_⟩
        simp only [Bool.false_eq_true, if_false] at h1 h2
        rw [List.getElem?_set] at h1 h2
        by_cases hi : s.toNat = i
        · rw [if_pos hi, if_pos (by have := h.l; omega)] at h1
          rw [if_pos hi, if_pos (by have := h.m; omega)] at h2
          cases h1; cases h2
          exact hrel.mark hn (by rw [hrel.seen n]; exact hq)
        · rw [if_neg hi] at h1 h2
          exact h.r i r' x' h1 h2
theorem RelL.image {L : List Rc} {M : List Mo} (h : RelL L M) : imageL L = imageM M := by
  unfold imageL imageM
  have : L.map encR = M.map encM := by
    apply List.ext_getElem
    · simp [h.l, h.m]
    · intro i h1 h2
      simp only [List.length_map] at h1 h2
      have hr := h.r i _ _ (List.getElem?_eq_getElem h1) (List.getElem?_eq_getElem h2)
      simp only [List.getElem_map, encR, encM]
      rw [hr.mask, hr.n]
  rw [List.flatMap_def, List.flatMap_def, this]
theorem RelL.rights {L : List Rc} {M : List Mo} (h : RelL L M) : ∀ r ∈ L, rightB r = true ∧ RcOk r := by
  intro r hr
  obtain ⟨i, hi, rfl⟩ := List.getElem_of_mem hr
  obtain ⟨r', x, h1, h2, hrel⟩ := h.at_ (i := i) (by have := h.l; omega)
  rw [List.getElem?_eq_getElem hi] at h1
  cases h1
  exact ⟨hrel.right, hrel.ok⟩
theorem RelL.back {L : List Rc} {M : List Mo} (h : RelL L M) : loadR (imageL L) = some L := loadR_image h.l (fun r hr => (h.rights r hr).2) (fun r hr => (h.rights r hr).1)
/-- a number above the newest one -/
theorem fresh {L : List Rc} {M : List Mo} (h : RelL L M) {s n : Int} (hs : okS s = true) (hn : okN n = true) (hlt : newestL L s < n) : seenL L s n = false ∧ ∃ L', markL L s n = (L', 0) ∧ newestL L' s = n := by
  have hs' := okS_iff.1 hs
  obtain ⟨r, x, hr, hx, hrel⟩ := h.at_ (i := s.toNat) (by omega)
  have hnew : newestL L s = r.n := by unfold newestL; rw [if_pos hs, hr]
  rw [hnew] at hlt
  have e : seenB r n = false := by
    unfold seenB
    rw [decide_eq_false (by omega), decide_eq_false (by omega)]; rfl
  have e1 : seenL L s n = seenB r n := by unfold seenL; rw [hs, hn, hr]; rfl
  refine ⟨by rw [e1, e], L.set s.toNat (markR r n), ?_, ?_⟩
  · unfold markL; rw [hs, hn, hr]; simp [e]
  · unfold newestL
    rw [if_pos hs, List.getElem?_set, if_pos rfl, if_pos (by have := h.l; omega)]
    simp only
    unfold markR
    rw [if_pos hlt]
end Go.Proofs.Ythpngafglljgnaa
