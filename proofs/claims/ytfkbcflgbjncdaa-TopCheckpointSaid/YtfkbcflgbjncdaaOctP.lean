/- Groups of seven bits: what a reader takes is what a writer gives. Plain. -/
import Derived.Test.YtfkbcflgbjncdaaOctJ
namespace Go.Proofs.Ytfkbcflgbjncdaa
set_option linter.unusedVariables false
set_option linter.unusedSimpArgs false
/-- the signed number of an unsigned one -/
def uz (z : Nat) : Int := if z % 2 = 0 then ((z / 2 : Nat) : Int) else -((z / 2 : Nat) : Int) - 1
theorem zz_uz (z : Nat) : zz (uz z) = (z : Int) := by
  unfold zz uz; split <;> split <;> omega
theorem uz_zz (n : Int) : uz (zz n).toNat = n := by
  unfold zz uz; split <;> split <;> omega
theorem uz_bd (z : Nat) (h : z < 18446744073709551616) : -9223372036854775808 ≤ uz z ∧ uz z ≤ 9223372036854775807 := by
  unfold uz; split <;> omega
/-- the number that a variable number of octets encode, and how many they are (0: there is none) -/
def grp : Nat → Nat → List Int → Nat × Nat
  | _, _, [] => (0, 0)
  | i, z, x :: L =>
    if i = 9 ∧ 1 < x then (0, 0)
    else if x < 128 then (if x = 0 ∧ 0 < i then (0, 0) else (z + (x % 128).toNat * 128 ^ i, i + 1))
    else grp (i + 1) (z + (x % 128).toNat * 128 ^ i) L

theorem pow128 (i : Nat) (h : i ≤ 9) : 2 ^ (64 - 7 * i) * 128 ^ i = 18446744073709551616 := by
  have : i = 0 ∨ i = 1 ∨ i = 2 ∨ i = 3 ∨ i = 4 ∨ i = 5 ∨ i = 6 ∨ i = 7 ∨ i = 8 ∨ i = 9 := by omega
  rcases this with rfl | rfl | rfl | rfl | rfl | rfl | rfl | rfl | rfl | rfl <;> decide
theorem two_step (i : Nat) (h : i < 9) : 2 ^ (64 - 7 * i) = 128 * 2 ^ (64 - 7 * (i + 1)) := by
  have : i = 0 ∨ i = 1 ∨ i = 2 ∨ i = 3 ∨ i = 4 ∨ i = 5 ∨ i = 6 ∨ i = 7 ∨ i = 8 := by omega
  rcases this with rfl | rfl | rfl | rfl | rfl | rfl | rfl | rfl | rfl <;> decide
theorem vn_pos (z : Nat) : 0 < (vn z).length := by
  rw [vn]; split <;> simp
theorem vn_oct : ∀ (z : Nat) (x : Int), x ∈ vn z → 0 ≤ x ∧ x ≤ 255 := by
  intro z
  induction z using Nat.strongRecOn with
  | ind z ih =>
    intro x hx
    by_cases h : z < 128
    · rw [vn_small h] at hx; simp at hx; omega
    · rw [vn_big h] at hx
      rcases List.mem_cons.1 hx with rfl | hx
      · omega
      · exact ih (z / 128) (by omega) x hx
theorem vn_len : ∀ (i : Nat) (z : Nat), i ≤ 9 → z < 2 ^ (64 - 7 * i) → (vn z).length + i ≤ 10 := by
  intro i z
  induction z using Nat.strongRecOn generalizing i with
  | ind z ih =>
    intro hi hz
    by_cases h : z < 128
    · rw [vn_small h]; simp; omega
    · rw [vn_big h]
      have h9 : i < 9 := by
        rcases Nat.lt_or_ge i 9 with h9 | h9
        · exact h9
        · obtain rfl : i = 9 := by omega
          simp at hz; omega
      have hs := two_step i h9
      have := ih (z / 128) (by omega) (i + 1) (by omega) (by omega)
      simp; omega
theorem vn_len10 (z : Nat) (h : z < 18446744073709551616) : (vn z).length ≤ 10 := by
  have := vn_len 0 z (by omega) (by simpa using h); omega
theorem grp_vn : ∀ (z i acc : Nat) (M : List Int), i ≤ 9 → z < 2 ^ (64 - 7 * i) → (i = 0 ∨ 1 ≤ z) → grp i acc (vn z ++ M) = (acc + z * 128 ^ i, i + (vn z).length) := by
  intro z
  induction z using Nat.strongRecOn with
  | ind z ih =>
    intro i acc M hi hz h0
    by_cases h : z < 128
    · rw [vn_small h]
      have h9 : ¬ (i = 9 ∧ (1 : Int) < (z : Int)) := by
        rintro ⟨rfl, h1⟩
        simp at hz; omega
      have e : ((z : Int) % 128).toNat = z := by omega
      simp only [List.cons_append, List.nil_append, grp, if_neg h9]
      rw [if_pos (by omega), if_neg (by omega), e]
      simp
    · rw [vn_big h]
      have h9 : i < 9 := by
        rcases Nat.lt_or_ge i 9 with h9 | h9
        · exact h9
        · obtain rfl : i = 9 := by omega
          simp at hz; omega
      have hs := two_step i h9
      have e : ((((z % 128 + 128 : Nat) : Int)) % 128).toNat = z % 128 := by omega
      simp only [List.cons_append, grp]
      rw [if_neg (by omega), if_neg (by omega), e, ih (z / 128) (by omega) (i + 1) _ M (by omega) (by omega) (by omega)]
      simp only [List.length_cons, Nat.pow_succ]
      refine Prod.ext ?_ (by simp only; omega)
      simp only
      have : z * 128 ^ i = (z % 128) * 128 ^ i + z / 128 * (128 ^ i * 128) := by
        rw [Nat.mul_comm (128 ^ i) 128, ← Nat.mul_assoc, ← Nat.add_mul]
        congr 1; omega
      omega
theorem grp_sound : ∀ (L : List Int) (i acc z k : Nat), (∀ x ∈ L, 0 ≤ x ∧ x ≤ 255) → i ≤ 9 → grp i acc L = (z, k) → k ≠ 0 →
    ∃ y, L.take (k - i) = vn y ∧ z = acc + y * 128 ^ i ∧ i < k ∧ k - i ≤ L.length ∧ y < 2 ^ (64 - 7 * i) ∧ (0 < i → 1 ≤ y)
  | [], i, acc, z, k, _, _, h, hk => by
    simp [grp] at h; omega
  | x :: L, i, acc, z, k, ho, hi, h, hk => by
    obtain ⟨x0, x1⟩ := ho x (by simp)
    unfold grp at h
    split at h
    · cases h; exact absurd rfl hk
    · rename_i h9
      split at h
      · rename_i hx
        split at h
        · cases h; exact absurd rfl hk
        · rename_i hz
          cases h
          refine ⟨x.toNat, ?_, by congr 2; omega, by omega, by simp, ?_, by omega⟩
          · rw [vn_small (by omega)]
            have : i + 1 - i = 1 := by omega
            rw [this]; simp; omega
          · rcases Nat.lt_or_ge i 9 with h8 | h8
            · rw [two_step i h8]
              have := Nat.one_le_two_pow (n := 64 - 7 * (i + 1))
              omega
            · obtain rfl : i = 9 := by omega
              simp; omega
      · rename_i hx
        have h8 : i < 9 := by omega
        obtain ⟨y, h1, h2, h3, h4, h5, h6⟩ := grp_sound L (i + 1) _ z k (fun a ha => ho a (by simp [ha])) (by omega) h hk
        refine ⟨y * 128 + (x % 128).toNat, ?_, ?_, by omega, by simp; omega, ?_, by omega⟩
        · obtain ⟨j, hj⟩ : ∃ j, k - i = j + 1 := ⟨k - i - 1, by omega⟩
          have hj' : k - (i + 1) = j := by omega
          have hy := h6 (by omega)
          rw [hj', ] at h1
          rw [hj, vn_big (by omega), List.take_succ_cons, h1]
          congr 1
          · omega
          · congr 1; omega
        · rw [h2, Nat.pow_succ, Nat.add_mul, Nat.mul_comm (128 ^ i) 128, ← Nat.mul_assoc]; omega
        · rw [two_step i h8]; omega
/-- what is taken as an integer: the number, and how many octets (0: there is none) -/
def tkI (L : List Int) : Int × Nat := match grp 0 0 L with
  | (z, k) => if k = 0 then (0, 0) else (uz z, k)
theorem grp_lt (L : List Int) (z k : Nat) (ho : ∀ x ∈ L, 0 ≤ x ∧ x ≤ 255) (h : grp 0 0 L = (z, k)) (hk : k ≠ 0) :
    L.take k = vn z ∧ z < 18446744073709551616 ∧ k ≤ L.length ∧ k ≤ 10 := by
  obtain ⟨y, h1, h2, _, h4, h5, _⟩ := grp_sound L 0 0 z k ho (by omega) h hk
  have : z = y := by rw [h2]; simp
  subst this
  have h6 : z < 18446744073709551616 := by simpa using h5
  refine ⟨by simpa using h1, h6, by simpa using h4, ?_⟩
  have := vn_len10 z h6
  rw [← h1] at this
  simp at this h4; omega
theorem tkI_vn (n : Int) (h0 : -9223372036854775808 ≤ n) (h1 : n ≤ 9223372036854775807) (M : List Int) : tkI (vn (zz n).toNat ++ M) = (n, (vn (zz n).toNat).length) := by
  have hz := zz_nonneg n h0 h1
  have := grp_vn (zz n).toNat 0 0 M (by omega) (by simp; omega) (.inl rfl)
  unfold tkI
  rw [this]
  have := vn_pos (zz n).toNat
  simp only
  rw [if_neg (by omega)]
  simp [uz_zz]
theorem tkI_sound (L : List Int) (n : Int) (k : Nat) (ho : ∀ x ∈ L, 0 ≤ x ∧ x ≤ 255) (h : tkI L = (n, k)) (hk : k ≠ 0) :
    L.take k = vn (zz n).toNat ∧ -9223372036854775808 ≤ n ∧ n ≤ 9223372036854775807 ∧ k ≤ L.length ∧ k ≤ 10 := by
  unfold tkI at h
  obtain ⟨z, k', hg⟩ : ∃ z k', grp 0 0 L = (z, k') := ⟨_, _, rfl⟩
  rw [hg] at h
  simp only at h
  split at h
  · cases h; exact absurd rfl hk
  · cases h
    obtain ⟨h1, h2, h3, h4⟩ := grp_lt L z k ho hg hk
    have hb := uz_bd z h2
    refine ⟨?_, hb.1, hb.2, h3, h4⟩
    rw [zz_uz]; simpa using h1
theorem tkI_none (L : List Int) (n : Int) (h : tkI L = (n, 0)) : n = 0 := by
  unfold tkI at h
  obtain ⟨z, k', hg⟩ : ∃ z k', grp 0 0 L = (z, k') := ⟨_, _, rfl⟩
  rw [hg] at h
  simp only at h
  split at h <;> cases h
  · rfl
  · rename_i h; exact absurd rfl h
end Go.Proofs.Ytfkbcflgbjncdaa
