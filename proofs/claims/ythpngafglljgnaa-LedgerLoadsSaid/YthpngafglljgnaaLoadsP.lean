/- What Load accepts, plainly: the reference's judgement is the program's. -/
import Derived.Test.YthpngafglljgnaaRLoad
namespace Go.Proofs.Ythpngafglljgnaa
set_option linter.unusedVariables false
set_option linter.unusedSimpArgs false
theorem refRec_right (N M : Int) (h0 : 0 ≤ N) (m0 : 0 ≤ M) (m1 : M < 18446744073709551616) : refRecB N M = rightB ⟨N, M⟩ := by
  obtain ⟨x, rfl⟩ := Int.eq_ofNat_of_zero_le m0
  have hx : x < 2 ^ 64 := by omega
  have hpar : ((x : Int) % 2 == 0) = !x.testBit 0 := by
    have h1 := bitAt_nat x 0
    unfold bitAt at h1
    rw [← h1]
    simp only [Int.pow_zero, Int.ediv_one]
    have h : (x : Int) % 2 = 0 ∨ (x : Int) % 2 = 1 := by omega
    rcases h with h | h <;> rw [h] <;> rfl
  rw [Bool.eq_iff_iff, rightB_iff rfl]
  simp only
  constructor
  · intro h
    unfold refRecB at h
    rw [Bool.and_eq_true] at h
    obtain ⟨hp, hb⟩ := h
    have hbit : ∀ k, k < 64 → x.testBit k = true → 1 ≤ N - (k : Int) := by
      intro k hk ht
      have := List.all_eq_true.1 hb k (List.mem_range.2 hk)
      rw [bitAt_nat, ht] at this
      simpa using this
    by_cases hN : N = 0
    · left
      refine ⟨hN, Nat.eq_of_testBit_eq (fun k => ?_)⟩
      rw [Nat.zero_testBit]
      by_cases hk : k < 64
      · cases ht : x.testBit k with
        | false => rfl
        | true => have := hbit k hk ht; omega
      · exact Nat.testBit_lt_two_pow (Nat.lt_of_lt_of_le hx (Nat.pow_le_pow_right (by decide) (by omega)))
    · right
      refine ⟨hN, ?_, ?_⟩
      · rw [hpar, beq_false_of_ne hN] at hp
        simpa using hp
      · by_cases h64 : 64 ≤ N
        · exact .inl h64
        · right
          refine Nat.lt_pow_two_of_testBit _ (fun k hk => ?_)
          by_cases hk6 : k < 64
          · cases ht : x.testBit k with
            | false => rfl
            | true => have := hbit k hk6 ht; omega
          · exact Nat.testBit_lt_two_pow (Nat.lt_of_lt_of_le hx (Nat.pow_le_pow_right (by decide) (by omega)))
  · rintro (⟨rfl, rfl⟩ | ⟨hN, ht0, hlt⟩)
    · refine refRec_yes 0 0 (by decide) (fun j _ h => ?_)
      have := bitAt_nat 0 j
      rw [Nat.zero_testBit] at this
      rw [show ((0 : Nat) : Int) = 0 from rfl] at this
      rw [this] at h
      cases h
    · refine refRec_yes N x ?_ (fun j hj h => ?_)
      · rw [hpar, ht0, beq_false_of_ne hN]; rfl
      · rw [bitAt_nat] at h
        rcases hlt with hlt | hlt
        · omega
        · have : ¬ N.toNat ≤ j := fun hle => by
            rw [Nat.testBit_lt_two_pow (Nat.lt_of_lt_of_le hlt (Nat.pow_le_pow_right (by decide) hle))] at h
            cases h
          omega
theorem be_beVal : ∀ (L : List Int), Oct L → be (beVal L) L.length = L := by
  intro L
  induction L with
  | nil => intro _; rfl
  | cons x L ih =>
    intro hO
    have hx := hO x (by simp)
    have hb := beVal_bd L.length L (fun y hy => hO y (by simp [hy])) rfl
    have hp : (0 : Int) < 256 ^ L.length := Int.pow_pos (by decide)
    have e : beVal (x :: L) = x * 256 ^ L.length + beVal L := by
      have := beVal_app [x] L
      have h3 : beVal [x] = x := by simp [beVal]
      rw [h3] at this
      exact this
    have key : ∀ k, k ≤ L.length → be (x * 256 ^ L.length + beVal L) k = be (beVal L) k := by
      intro k hk
      induction k with
      | zero => rfl
      | succ k ih2 =>
        unfold be
        rw [ih2 (by omega)]
        congr 1
        obtain ⟨d, hd⟩ : ∃ d, L.length = k + 1 + d := ⟨L.length - (k + 1), by omega⟩
        have hpk : (0 : Int) < 256 ^ k := Int.pow_pos (by decide)
        have e2 : x * 256 ^ L.length + beVal L = beVal L + (x * 256 ^ d * 256) * 256 ^ k := by
          rw [hd, Int.pow_add, Int.pow_add, Int.pow_succ, Int.pow_zero, Int.one_mul, Int.add_comm]
          congr 1
          rw [Int.mul_comm (256 ^ k * 256) (256 ^ d), Int.mul_assoc x, Int.mul_assoc x, Int.mul_assoc (256 ^ d), Int.mul_comm 256 (256 ^ k)]
        rw [e2, Int.add_mul_ediv_right _ _ (by omega)]
        omega
    rw [List.length_cons, e]
    unfold be
    rw [key L.length (Nat.le_refl _), ih (fun y hy => hO y (by simp [hy]))]
    congr 1
    rw [Int.add_comm, Int.add_mul_ediv_right _ _ (by omega), Int.ediv_eq_zero_of_lt hb.1 hb.2]
    omega
def recOf (L : List Int) (j : Nat) : Rc := ⟨recN L j, recM L j⟩
theorem enc_recOf (L : List Int) (hO : Oct L) (h : 10 ≤ L.length) : encR (recOf L 0) = L.take 10 := by
  have h1 := be_beVal (L.take 2) (fun x hx => hO x (List.mem_of_mem_take hx))
  have h2 := be_beVal ((L.drop 2).take 8) (fun x hx => hO x (List.mem_of_mem_drop (List.mem_of_mem_take hx)))
  have l1 : (L.take 2).length = 2 := by simp; omega
  have l2 : ((L.drop 2).take 8).length = 8 := by simp; omega
  rw [l1] at h1
  rw [l2] at h2
  unfold encR recOf recN recM
  simp only [Nat.mul_zero, List.drop_zero, Nat.zero_add]
  rw [h1, h2]
  have : L.take 10 = (L.take 2) ++ (L.drop 2).take 8 := by rw [← List.take_add]
  rw [this]
theorem image_recs : ∀ (n : Nat) (L : List Int), Oct L → L.length = 10 * n → imageL ((List.range n).map (recOf L)) = L
  | 0, L, _, h => by
    have : L = [] := List.eq_nil_of_length_eq_zero (by omega)
    subst this; rfl
  | n + 1, L, hO, h => by
    have ih := image_recs n (L.drop 10) (fun x hx => hO x (List.mem_of_mem_drop hx)) (by simp; omega)
    have e : ∀ j, recOf L (j + 1) = recOf (L.drop 10) j := by
      intro j
      unfold recOf recN recM
      rw [List.drop_drop, List.drop_drop, show 10 + 10 * j = 10 * (j + 1) by omega, show 10 + (10 * j + 2) = 10 * (j + 1) + 2 by omega]
    rw [List.range_succ_eq_map, List.map_cons, List.map_map]
    have e2 : (List.range n).map (recOf L ∘ Nat.succ) = (List.range n).map (recOf (L.drop 10)) := List.map_congr_left (fun j _ => e j)
    rw [e2]
    unfold imageL at ih ⊢
    rw [List.flatMap_cons, ih, enc_recOf L hO (by omega), List.take_append_drop]
theorem recOf_image (l : List Rc) (j : Nat) (r : Rc) (h : l[j]? = some r) (ho : RcOk r) : recOf (imageL l) j = r := by
  have hd : ∀ (l : List Rc) (j : Nat) (r : Rc), l[j]? = some r → (imageL l).drop (10 * j) = encR r ++ imageL (l.drop (j + 1)) := by
    intro l
    induction l with
    | nil => intro j r h; simp at h
    | cons x l ih =>
      intro j r h
      cases j with
      | zero => simp at h; subst h; rfl
      | succ j =>
        have := ih j r (by simpa using h)
        have e : imageL (x :: l) = encR x ++ imageL l := rfl
        rw [e, List.drop_append, List.drop_eq_nil_of_le (by rw [encR_len]; omega), List.nil_append, encR_len, show 10 * (j + 1) - 10 = 10 * j by omega, this]
        rfl
  have h1 := hd l j r h
  have h2 : (imageL l).drop (10 * j + 2) = be r.m 8 ++ imageL (l.drop (j + 1)) := by
    rw [← List.drop_drop, h1]
    unfold encR
    rw [List.append_assoc, List.drop_append_of_le_length (by rw [be_length]; omega), List.drop_eq_nil_of_le (by rw [be_length]; omega)]
    rfl
  unfold recOf recN recM
  rw [h1, h2]
  unfold encR
  rw [List.append_assoc, List.take_append_of_le_length (by rw [be_length]; omega), List.take_of_length_le (by rw [be_length]; omega), List.take_append_of_le_length (by rw [be_length]; omega), List.take_of_length_le (by rw [be_length]; omega),
    beVal_be r.n ho.1.1, beVal_be r.m ho.2.1, Int.emod_eq_of_lt ho.1.1 (by have := ho.1.2; omega), Int.emod_eq_of_lt ho.2.1 (by have := ho.2.2; omega)]
theorem stU_inv {s : RS} {z v : Int} {M : List Int} (h : stU s z = (v, some M)) : ∃ L, s = some L ∧ 1 ≤ z ∧ z ≤ 8 ∧ z ≤ L.length ∧ v = beVal (L.take z.toNat) ∧ M = L.drop z.toNat := by
  cases s with
  | none => unfold stU at h; cases h
  | some L =>
    unfold stU at h
    simp only at h
    split at h
    · cases h
    · cases h; exact ⟨L, rfl, by omega, by omega, by omega, rfl, rfl⟩
theorem ldGo_inv : ∀ (n : Nat) (s : RS) (l : List Rc) (R : List Int), RSok s → ldGo n s = some (l, some R) → l.length = n ∧ s = some (imageL l ++ R) ∧ (∀ r ∈ l, rightB r = true) ∧ (∀ r ∈ l, RcOk r)
  | 0, s, l, R, _, h => by
    unfold ldGo at h
    cases h
    exact ⟨rfl, rfl, by simp, by simp⟩
  | n + 1, s, l, R, hok, h => by
    unfold ldGo at h
    split at h
    · rename_i hr
      split at h
      · rename_i l' s'' hl
        cases h
        have hrok := rdRec_ok hok
        obtain ⟨h1, h2, h3, h4⟩ := ldGo_inv n (rdRec s).2 l' R hrok.2 hl
        have hs2 : (stU (stU s 2).2 8) = ((stU (stU s 2).2 8).1, some (imageL l' ++ R)) := Prod.ext rfl h2
        obtain ⟨L1, e1, _, _, q1, q2, q3⟩ := stU_inv hs2
        have hs1 : (stU s 2) = ((stU s 2).1, some L1) := Prod.ext rfl e1
        obtain ⟨L, e2, _, _, p1, p2, p3⟩ := stU_inv hs1
        subst e2
        have hO := (hok L rfl).1
        have b1 := be_beVal (L.take 2) (fun x hx => hO x (List.mem_of_mem_take hx))
        have hO1 : Oct L1 := by rw [p3]; exact fun x hx => hO x (List.mem_of_mem_drop hx)
        have b2 := be_beVal (L1.take 8) (fun x hx => hO1 x (List.mem_of_mem_take hx))
        have l1 : (L.take 2).length = 2 := by simp; omega
        have l2 : (L1.take 8).length = 8 := by simp; omega
        rw [l1] at b1
        rw [l2] at b2
        have enc : encR (rdRec (some L)).1 = L.take 2 ++ L1.take 8 := by
          unfold encR rdRec
          simp only
          rw [p2, q2]
          show be (beVal (L.take 2)) 2 ++ be (beVal (L1.take 8)) 8 = _
          rw [b1, b2]
        refine ⟨by simp [h1], ?_, fun r hr' => ?_, fun r hr' => ?_⟩
        · have : imageL ((rdRec (some L)).1 :: l') ++ R = L.take 2 ++ L1.take 8 ++ (imageL l' ++ R) := by
            unfold imageL
            rw [List.flatMap_cons, enc, List.append_assoc (L.take 2 ++ L1.take 8)]
          rw [this, q3]
          have e8 : (8 : Int).toNat = 8 := rfl
          have e22 : (2 : Int).toNat = 2 := rfl
          rw [e8, List.append_assoc, List.take_append_drop, p3, e22, List.take_append_drop]
        · rcases List.mem_cons.1 hr' with rfl | hr'
          · exact hr
          · exact h3 r hr'
        · rcases List.mem_cons.1 hr' with rfl | hr'
          · exact hrok.1
          · exact h4 r hr'
      · cases h
    · cases h
theorem loads_yes {B : List Int} (hO : Oct B) (h : refOk B = true) : ∃ l, loadR B = some l ∧ imageL l = B ∧ l.length = 16 := by
  unfold refOk at h
  rw [Bool.and_eq_true] at h
  have h160 := of_decide_eq_true h.1
  have hi := image_recs 16 B hO (by omega)
  have hok : ∀ r ∈ (List.range 16).map (recOf B), RcOk r := by
    intro r hr
    obtain ⟨j, hj, rfl⟩ := List.mem_map.1 hr
    obtain ⟨⟨a, b⟩, c, d⟩ := rec_bd hO h160 (List.mem_range.1 hj)
    exact ⟨⟨a, by simp only [recOf]; omega⟩, c, d⟩
  have hrt : ∀ r ∈ (List.range 16).map (recOf B), rightB r = true := by
    intro r hr
    obtain ⟨j, hj, rfl⟩ := List.mem_map.1 hr
    obtain ⟨⟨a, b⟩, c, d⟩ := rec_bd hO h160 (List.mem_range.1 hj)
    have := List.all_eq_true.1 h.2 j hj
    rw [refRec_right _ _ a c d] at this
    exact this
  have := loadR_image (by simp) hok hrt
  rw [hi] at this
  exact ⟨_, this, hi, by simp⟩
theorem loads_no {B : List Int} (hO : Oct B) (hl : B.length ≤ 100000000) (h : refOk B = false) : loadR B = none := by
  cases hlr : loadR B with
  | none => rfl
  | some l =>
    exfalso
    unfold loadR at hlr
    split at hlr
    · rename_i l' s' hg
      split at hlr
      · rename_i he
        cases hlr
        cases s' with
        | none => cases he
        | some R =>
          obtain ⟨h1, h2, h3, h4⟩ := ldGo_inv 16 (some B) l R (by rintro _ ⟨⟩; exact ⟨hO, hl⟩) hg
          have hR : R = [] := by simpa [endS] using he
          subst hR
          rw [List.append_nil] at h2
          cases h2
          have hlen := imageL_len l
          rw [h1] at hlen
          have : refOk (imageL l) = true := by
            unfold refOk
            rw [decide_eq_true hlen, Bool.true_and]
            refine List.all_eq_true.2 (fun j hj => ?_)
            obtain ⟨r, hr⟩ : ∃ r, l[j]? = some r := ⟨l[j]'(by rw [h1]; exact List.mem_range.1 hj), List.getElem?_eq_getElem _⟩
            have hm := List.mem_of_getElem? hr
            have e := recOf_image l j r hr (h4 r hm)
            have e1 : recN (imageL l) j = r.n := congrArg Rc.n e
            have e2 : recM (imageL l) j = r.m := congrArg Rc.m e
            rw [e1, e2, refRec_right _ _ (h4 r hm).1.1 (h4 r hm).2.1 (h4 r hm).2.2]
            exact h3 r hm
          rw [this] at h
          cases h
      · cases hlr
    · cases hlr
end Go.Proofs.Ythpngafglljgnaa
