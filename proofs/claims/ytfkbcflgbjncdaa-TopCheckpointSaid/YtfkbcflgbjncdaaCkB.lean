/- The ledger's records, plainly: what Mark does to the bits; a ledger's image is read back. -/
import Derived.Test.YtfkbcflgbjncdaaCkL
namespace Go.Proofs.Ytfkbcflgbjncdaa
set_option linter.unusedVariables false
set_option linter.unusedSimpArgs false
theorem bitAt_nat (x k : Nat) : bitAt (x : Int) k = x.testBit k := by
  rw [Nat.testBit_eq_decide_div_mod_eq]
  unfold bitAt
  have e : ((x : Int) / 2 ^ k % 2) = ((x / 2 ^ k % 2 : Nat) : Int) := by simp
  rw [e]
  by_cases h : x / 2 ^ k % 2 = 1
  · rw [h]; decide
  · rw [decide_eq_false h]
    exact beq_false_of_ne (by omega)
theorem orU_nat (x y : Nat) (hx : x < 18446744073709551616) (hy : y < 18446744073709551616) : orU (x : Int) (y : Int) = ((x ||| y : Nat) : Int) := by
  unfold orU; exact u64_or_nat x y hx hy
theorem shlU_nat (x d : Nat) : shlU (x : Int) d = ((x * 2 ^ d % 18446744073709551616 : Nat) : Int) := by
  unfold shlU; simp
theorem pow2_nat (d : Nat) : (2 : Int) ^ d = ((2 ^ d : Nat) : Int) := by simp
theorem shl_bit (x d j : Nat) : (x * 2 ^ d % 18446744073709551616).testBit j = (decide (j < 64) && (decide (d ≤ j) && x.testBit (j - d))) := by
  have e : (18446744073709551616 : Nat) = 2 ^ 64 := rfl
  rw [e, Nat.testBit_mod_two_pow, ← Nat.shiftLeft_eq, Nat.testBit_shiftLeft]
/-- the records that can be part of a ledger -/
theorem rightB_iff {r : Rc} {x : Nat} (hx : r.m = (x : Int)) : rightB r = true ↔ (r.n = 0 ∧ x = 0) ∨ (r.n ≠ 0 ∧ x.testBit 0 = true ∧ (64 ≤ r.n ∨ x < 2 ^ r.n.toNat)) := by
  unfold rightB
  rw [hx]
  by_cases h0 : r.n = 0
  · rw [if_pos h0]
    simp [h0]
  · rw [if_neg h0]
    have e1 : ((x : Int) % 2 == 1) = x.testBit 0 := by
      have := bitAt_nat x 0
      unfold bitAt at this
      simpa using this
    have e2 : ((x : Int) / 2 ^ r.n.toNat == 0) = decide (x < 2 ^ r.n.toNat) := by
      have e : ((x : Int) / 2 ^ r.n.toNat) = ((x / 2 ^ r.n.toNat : Nat) : Int) := by simp
      rw [e]
      have hp : 0 < 2 ^ r.n.toNat := Nat.two_pow_pos _
      by_cases h : x < 2 ^ r.n.toNat
      · rw [Nat.div_eq_of_lt h, decide_eq_true h]; rfl
      · rw [decide_eq_false h]
        have h1 : 0 < x / 2 ^ r.n.toNat := Nat.div_pos (by omega) hp
        exact beq_false_of_ne (by omega)
    rw [e1, e2]
    simp [h0]
structure MkR (r : Rc) (n : Int) : Prop where
  ok : RcOk r
  hn : 1 ≤ n ∧ n ≤ 65535
  ns : seenB r n = false
theorem mark_up {r : Rc} {n : Int} (h : MkR r n) (hlt : r.n < n) {x d : Nat} (hx : r.m = (x : Int)) (hd : n - r.n = (d : Int)) :
    markR r n = ⟨n, ((x * 2 ^ d % 18446744073709551616 ||| 1 : Nat) : Int)⟩ := by
  unfold markR
  rw [if_pos hlt, hx, hd, Int.toNat_natCast, shlU_nat, show (1 : Int) = ((1 : Nat) : Int) from rfl, orU_nat _ _ (Nat.mod_lt _ (by decide)) (by decide)]
theorem mark_in {r : Rc} {n : Int} (h : MkR r n) (hlt : ¬ r.n < n) {x d : Nat} (hx : r.m = (x : Int)) (hd : r.n - n = (d : Int)) :
    d < 64 ∧ markR r n = ⟨r.n, ((x ||| 2 ^ d : Nat) : Int)⟩ := by
  have hd64 : d < 64 := by
    have := h.ns
    unfold seenB at this
    simp only [Bool.or_eq_false_iff, decide_eq_false_iff_not] at this
    omega
  refine ⟨hd64, ?_⟩
  unfold markR
  have hxb : x < 18446744073709551616 := by have := h.ok.2; omega
  have hp : 2 ^ d < 18446744073709551616 := by
    have : 2 ^ d ≤ 2 ^ 63 := Nat.pow_le_pow_right (by decide) (by omega)
    omega
  rw [if_neg hlt, hx, hd, Int.toNat_natCast, pow2_nat, orU_nat _ _ hxb hp]
theorem seenB_nat {r : Rc} {x : Nat} (hx : r.m = (x : Int)) (k : Int) : seenB r k = (decide (64 ≤ r.n - k) || (decide (0 ≤ r.n - k) && x.testBit (r.n - k).toNat)) := by
  unfold seenB; rw [hx, bitAt_nat]
theorem seen_marked {r : Rc} {n : Int} (h : MkR r n) : seenB (markR r n) n = true := by
  obtain ⟨x, hx⟩ := Int.eq_ofNat_of_zero_le h.ok.2.1
  by_cases hlt : r.n < n
  · obtain ⟨d, hd⟩ := Int.eq_ofNat_of_zero_le (show 0 ≤ n - r.n by omega)
    rw [mark_up h hlt hx hd, seenB_nat rfl]
    simp
  · obtain ⟨d, hd⟩ := Int.eq_ofNat_of_zero_le (show 0 ≤ r.n - n by omega)
    obtain ⟨hd64, e⟩ := mark_in h hlt hx hd
    rw [e, seenB_nat rfl]
    simp only [hd, Int.toNat_natCast, Nat.testBit_or, Nat.testBit_two_pow_self, Bool.or_true, Bool.and_true]
    simp
theorem seen_mono {r : Rc} {n k : Int} (h : MkR r n) (hk : seenB r k = true) : seenB (markR r n) k = true := by
  obtain ⟨x, hx⟩ := Int.eq_ofNat_of_zero_le h.ok.2.1
  rw [seenB_nat hx] at hk
  by_cases hlt : r.n < n
  · obtain ⟨d, hd⟩ := Int.eq_ofNat_of_zero_le (show 0 ≤ n - r.n by omega)
    rw [mark_up h hlt hx hd, seenB_nat rfl]
    simp only
    by_cases h64 : 64 ≤ n - k
    · rw [decide_eq_true h64]; rfl
    · have h1 : ¬ 64 ≤ r.n - k := by omega
      rw [decide_eq_false h1, Bool.false_or, Bool.and_eq_true] at hk
      have h2 := of_decide_eq_true hk.1
      obtain ⟨a, ha⟩ := Int.eq_ofNat_of_zero_le h2
      have hk2 := hk.2
      rw [ha, Int.toNat_natCast] at hk2
      have e : n - k = ((a + d : Nat) : Int) := by omega
      rw [e, Int.toNat_natCast, Nat.testBit_or, shl_bit, decide_eq_true (show a + d < 64 by omega), decide_eq_true (show d ≤ a + d by omega), show a + d - d = a by omega, hk2]
      simp
      omega
  · obtain ⟨d, hd⟩ := Int.eq_ofNat_of_zero_le (show 0 ≤ r.n - n by omega)
    obtain ⟨hd64, e⟩ := mark_in h hlt hx hd
    rw [e, seenB_nat rfl]
    simp only
    by_cases h64 : 64 ≤ r.n - k
    · rw [decide_eq_true h64]; rfl
    · rw [decide_eq_false h64, Bool.false_or, Bool.and_eq_true] at hk
      rw [hk.1, Nat.testBit_or, hk.2]
      simp
theorem right_mark {r : Rc} {n : Int} (h : MkR r n) (hr : rightB r = true) : rightB (markR r n) = true := by
  obtain ⟨x, hx⟩ := Int.eq_ofNat_of_zero_le h.ok.2.1
  have hn := h.hn
  have hrn := h.ok.1
  rw [rightB_iff hx] at hr
  by_cases hlt : r.n < n
  · obtain ⟨d, hd⟩ := Int.eq_ofNat_of_zero_le (show 0 ≤ n - r.n by omega)
    rw [mark_up h hlt hx hd, rightB_iff rfl]
    refine .inr ⟨by simp only; omega, by rw [Nat.testBit_or]; simp, ?_⟩
    simp only
    by_cases h64 : 64 ≤ n
    · exact .inl h64
    · right
      obtain ⟨N, hN⟩ := Int.eq_ofNat_of_zero_le (show 0 ≤ n by omega)
      rw [hN, Int.toNat_natCast]
      have hN1 : 1 ≤ N := by omega
      have h1 : 1 < 2 ^ N := by
        have : 2 ^ 1 ≤ 2 ^ N := Nat.pow_le_pow_right (by decide) hN1
        omega
      refine Nat.or_lt_two_pow ?_ h1
      have hx2 : x * 2 ^ d < 2 ^ N := by
        rcases hr with ⟨h0, rfl⟩ | ⟨h0, _, h3⟩
        · rw [Nat.zero_mul]; omega
        · rcases h3 with h3 | h3
          · omega
          · obtain ⟨q, hq⟩ := Int.eq_ofNat_of_zero_le hrn.1
            rw [hq, Int.toNat_natCast] at h3
            have e : N = q + d := by omega
            rw [e, Nat.pow_add]
            exact Nat.mul_lt_mul_of_pos_right h3 (Nat.two_pow_pos _)
      exact Nat.lt_of_le_of_lt (Nat.mod_le _ _) hx2
  · obtain ⟨d, hd⟩ := Int.eq_ofNat_of_zero_le (show 0 ≤ r.n - n by omega)
    obtain ⟨hd64, e⟩ := mark_in h hlt hx hd
    rw [e, rightB_iff rfl]
    rcases hr with ⟨h0, _⟩ | ⟨h0, h2, h3⟩
    · omega
    · refine .inr ⟨h0, by rw [Nat.testBit_or, h2]; rfl, ?_⟩
      rcases h3 with h3 | h3
      · exact .inl h3
      · right
        refine Nat.or_lt_two_pow h3 (Nat.pow_lt_pow_right (by decide) ?_)
        obtain ⟨q, hq⟩ := Int.eq_ofNat_of_zero_le hrn.1
        simp only [hq, Int.toNat_natCast]
        omega
/-! ### the image read back -/
theorem beVal_app (L M : List Int) : beVal (L ++ M) = beVal L * 256 ^ M.length + beVal M := by
  induction M generalizing L with
  | nil => simp [beVal]
  | cons x M ih =>
    have h1 : L ++ x :: M = (L ++ [x]) ++ M := by simp
    have h2 : x :: M = [x] ++ M := rfl
    rw [h1, ih, beVal_snoc, h2, ih [x]]
    have h3 : beVal [x] = x := by simp [beVal]
    rw [h3, List.length_append, List.length_singleton, Nat.add_comm 1, Int.pow_succ, Int.add_mul, Int.mul_assoc, Int.mul_comm 256]
    omega
theorem beVal_be (n : Int) (hn : 0 ≤ n) : ∀ k, beVal (be n k) = n % 256 ^ k
  | 0 => by simp [be, beVal]
  | k + 1 => by
    have h1 : be n (k + 1) = [n / 256 ^ k % 256] ++ be n k := rfl
    rw [h1, beVal_app, be_length, beVal_be n hn k]
    have h3 : beVal [n / 256 ^ k % 256] = n / 256 ^ k % 256 := by simp [beVal]
    rw [h3, Int.pow_succ]
    have hp : (0 : Int) < 256 ^ k := Int.pow_pos (by decide)
    obtain ⟨N, rfl⟩ := Int.eq_ofNat_of_zero_le hn
    have h := Nat.mod_mul (x := N) (a := 256 ^ k) (b := 256)
    have h2 : ((N % (256 ^ k * 256) : Nat) : Int) = ((N % 256 ^ k + 256 ^ k * (N / 256 ^ k % 256) : Nat) : Int) := by rw [h]
    simp only [Int.natCast_add, Int.natCast_mul, Int.natCast_emod, Int.natCast_ediv, Int.natCast_pow] at h2
    rw [Int.mul_comm, Int.add_comm]
    exact h2.symm
theorem stU_be (n : Int) (k : Nat) (h1 : 1 ≤ k) (h8 : k ≤ 8) (h0 : 0 ≤ n) (hn : n < 256 ^ k) (M : List Int) : stU (some (be n k ++ M)) k = (n, some M) := by
  unfold stU
  simp only
  rw [if_neg (by rw [List.length_append, be_length]; omega)]
  have e1 : (be n k ++ M).take (k : Int).toNat = be n k := by
    rw [Int.toNat_natCast, List.take_append_of_le_length (by rw [be_length]; omega), List.take_of_length_le (by rw [be_length]; omega)]
  have e2 : (be n k ++ M).drop (k : Int).toNat = M := by
    rw [Int.toNat_natCast, List.drop_append_of_le_length (by rw [be_length]; omega), List.drop_eq_nil_of_le (by rw [be_length]; omega)]; rfl
  rw [e1, e2, beVal_be n h0, Int.emod_eq_of_lt h0 hn]
theorem rdRec_enc (r : Rc) (h : RcOk r) (M : List Int) : rdRec (some (encR r ++ M)) = (r, some M) := by
  have h1 := stU_be r.n 2 (by omega) (by omega) h.1.1 (by have := h.1.2; omega) (be r.m 8 ++ M)
  have h2 := stU_be r.m 8 (by omega) (by omega) h.2.1 (by have := h.2.2; omega) M
  rw [← List.append_assoc] at h1
  unfold rdRec encR
  have h1' : stU (some (be r.n 2 ++ be r.m 8 ++ M)) 2 = (r.n, some (be r.m 8 ++ M)) := h1
  have h2' : stU (some (be r.m 8 ++ M)) 8 = (r.m, some M) := h2
  rw [h1']
  simp only
  rw [h2']
theorem ldGo_image : ∀ (L : List Rc) (M : List Int), (∀ r ∈ L, RcOk r) → (∀ r ∈ L, rightB r = true) → ldGo L.length (some (imageL L ++ M)) = some (L, some M)
  | [], M, _, _ => rfl
  | r :: L, M, ho, hr => by
    have ih := ldGo_image L M (fun x hx => ho x (by simp [hx])) (fun x hx => hr x (by simp [hx]))
    have e : imageL (r :: L) ++ M = encR r ++ (imageL L ++ M) := by unfold imageL; simp
    rw [List.length_cons, ldGo, e, rdRec_enc r (ho r (by simp)), if_pos (hr r (by simp))]
    simp only
    rw [ih]
theorem loadR_image {L : List Rc} (h16 : L.length = 16) (ho : ∀ r ∈ L, RcOk r) (hr : ∀ r ∈ L, rightB r = true) : loadR (imageL L) = some L := by
  have h := ldGo_image L [] ho hr
  rw [h16, List.append_nil] at h
  unfold loadR
  rw [h]
  rfl
theorem imageL_oct (L : List Rc) : Oct (imageL L) := by
  intro x hx
  unfold imageL encR at hx
  obtain ⟨r, _, hx⟩ := List.mem_flatMap.1 hx
  have key : ∀ (n : Int) (k : Nat) (x : Int), x ∈ be n k → 0 ≤ x ∧ x ≤ 255 := by
    intro n k
    induction k with
    | zero => intro x hx; cases hx
    | succ k ih =>
      intro x hx
      rcases List.mem_cons.1 hx with rfl | hx
      · omega
      · exact ih x hx
  rcases List.mem_append.1 hx with hx | hx
  · exact key _ _ x hx
  · exact key _ _ x hx
end Go.Proofs.Ytfkbcflgbjncdaa
