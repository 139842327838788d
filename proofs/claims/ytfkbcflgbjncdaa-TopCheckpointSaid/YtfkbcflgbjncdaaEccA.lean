/- bits.OnesCount64: its parity. -/
import Derived.Test.YtfkbcflgbjncdaaEccP
import Derived.Test.YtfkbcflgbjncdaaOctR
namespace Go.Proofs.Ytfkbcflgbjncdaa
set_option linter.unusedVariables false
set_option linter.unusedSimpArgs false
open Go.RowKit
theorem and_byte (b y c m : Nat) (hb : b < 256) (hc : c < 256) : (b + 256 * y) &&& (c + 256 * m) = (b &&& c) + 256 * (y &&& m) := by
  have h1 := Nat.and_mod_two_pow (a := b + 256 * y) (b := c + 256 * m) (n := 8)
  have h2 := Nat.and_div_two_pow (a := b + 256 * y) (b := c + 256 * m) (n := 8)
  have e1 : (b + 256 * y) % 2 ^ 8 = b := by omega
  have e2 : (c + 256 * m) % 2 ^ 8 = c := by omega
  have e3 : (b + 256 * y) / 2 ^ 8 = y := by omega
  have e4 : (c + 256 * m) / 2 ^ 8 = m := by omega
  rw [e1, e2] at h1
  rw [e3, e4] at h2
  omega
def rep (c : Nat) : Nat → Nat
  | 0 => 0
  | n + 1 => c + 256 * rep c n
def f1 (b : Nat) : Nat := (b / 2 &&& 85) + (b &&& 85)
def f2 (b : Nat) : Nat := (b / 4 &&& 51) + (b &&& 51)
def f3 (b : Nat) : Nat := b / 16 + b % 16
theorem f1_hi : ∀ b, b < 256 → ∀ c, c < 2 → (b / 2 + 128 * c) &&& 85 = b / 2 &&& 85 := by decide +kernel
theorem f2_hi : ∀ b, b < 256 → ∀ c, c < 4 → (b / 4 + 64 * c) &&& 51 = b / 4 &&& 51 := by decide +kernel
theorem f12_bd : ∀ b, b < 256 → f1 b < 256 ∧ f2 (f1 b) < 69 ∧ f2 (f1 b) % 16 ≤ 4 ∧ f3 (f2 (f1 b)) ≤ 8 ∧ f3 (f2 (f1 b)) % 2 = parN 8 b := by decide +kernel
theorem s1_step (b y n : Nat) (hb : b < 256) : ((b + 256 * y) / 2 &&& rep 85 (n + 1)) + ((b + 256 * y) &&& rep 85 (n + 1)) = f1 b + 256 * ((y / 2 &&& rep 85 n) + (y &&& rep 85 n)) := by
  have e : (b + 256 * y) / 2 = (b / 2 + 128 * (y % 2)) + 256 * (y / 2) := by omega
  rw [e, rep, and_byte _ _ _ _ (by omega) (by omega), and_byte _ _ _ _ hb (by omega), f1_hi b hb _ (by omega)]
  unfold f1; omega
theorem s2_step (b y n : Nat) (hb : b < 256) : ((b + 256 * y) / 4 &&& rep 51 (n + 1)) + ((b + 256 * y) &&& rep 51 (n + 1)) = f2 b + 256 * ((y / 4 &&& rep 51 n) + (y &&& rep 51 n)) := by
  have e : (b + 256 * y) / 4 = (b / 4 + 64 * (y % 4)) + 256 * (y / 4) := by omega
  rw [e, rep, and_byte _ _ _ _ (by omega) (by omega), and_byte _ _ _ _ hb (by omega), f2_hi b hb _ (by omega)]
  unfold f2; omega
theorem and15 : ∀ b, b < 256 → b &&& 15 = b % 16 := by decide +kernel
theorem s3_step (b y n : Nat) (hb : b < 69) (hb4 : b % 16 ≤ 4) (hy : y % 16 ≤ 4) : ((b + 256 * y) / 16 + (b + 256 * y)) &&& rep 15 (n + 1) = f3 b + 256 * ((y / 16 + y) &&& rep 15 n) := by
  have e : (b + 256 * y) / 16 + (b + 256 * y) = (b / 16 + 16 * (y % 16) + b) + 256 * (y / 16 + y) := by omega
  rw [e, rep, and_byte _ _ _ _ (by omega) (by omega), and15 _ (by omega)]
  unfold f3; omega
def byt8 (b : Nat → Nat) : Nat → Nat
  | 0 => 0
  | n + 1 => b 0 + 256 * byt8 (fun i => b (i + 1)) n
theorem s1_all : ∀ (n : Nat) (b : Nat → Nat), (∀ i, b i < 256) → (byt8 b n / 2 &&& rep 85 n) + (byt8 b n &&& rep 85 n) = byt8 (fun i => f1 (b i)) n
  | 0, b, _ => by simp [byt8, rep]
  | n + 1, b, h => by
    rw [byt8, s1_step _ _ _ (h 0), s1_all n _ (fun i => h (i + 1))]; rfl
theorem s2_all : ∀ (n : Nat) (b : Nat → Nat), (∀ i, b i < 256) → (byt8 b n / 4 &&& rep 51 n) + (byt8 b n &&& rep 51 n) = byt8 (fun i => f2 (b i)) n
  | 0, b, _ => by simp [byt8, rep]
  | n + 1, b, h => by
    rw [byt8, s2_step _ _ _ (h 0), s2_all n _ (fun i => h (i + 1))]; rfl
theorem byt8_low (b : Nat → Nat) (n : Nat) (h : ∀ i, b i % 16 ≤ 4) : byt8 b n % 16 ≤ 4 := by
  cases n with
  | zero => simp [byt8]
  | succ n => have := h 0; rw [byt8]; omega
theorem s3_all : ∀ (n : Nat) (b : Nat → Nat), (∀ i, b i < 69) → (∀ i, b i % 16 ≤ 4) → (byt8 b n / 16 + byt8 b n) &&& rep 15 n = byt8 (fun i => f3 (b i)) n
  | 0, b, _, _ => by simp [byt8, rep]
  | n + 1, b, h, h' => by
    rw [byt8, s3_step _ _ _ (h 0) (h' 0) (byt8_low _ _ (fun i => h' (i + 1))), s3_all n _ (fun i => h (i + 1)) (fun i => h' (i + 1))]; rfl
theorem rep85 : rep 85 8 = 6148914691236517205 := by decide +kernel
theorem rep51 : rep 51 8 = 3689348814741910323 := by decide +kernel
theorem rep15 : rep 15 8 = 1085102592571150095 := by decide +kernel
/-- the bytes of a number -/
def byteOf (x i : Nat) : Nat := x / 256 ^ i % 256
theorem byt8_of : ∀ (n x : Nat), x < 256 ^ n → byt8 (byteOf x) n = x
  | 0, x, h => by simp [byt8]; omega
  | n + 1, x, h => by
    have e : (fun i => byteOf x (i + 1)) = byteOf (x / 256) := by
      funext i
      unfold byteOf
      rw [Nat.pow_succ, Nat.mul_comm, Nat.div_div_eq_div_mul]
    rw [byt8, e, byt8_of n (x / 256) (Nat.div_lt_of_lt_mul (by rw [Nat.pow_succ] at h; omega))]
    unfold byteOf
    simp
    omega
theorem par_app (n k x : Nat) : parB (n + k) x = Bool.xor (parB k (x >>> n)) (parB n x) := by
  induction k with
  | zero => simp [parB]
  | succ k ih =>
    rw [← Nat.add_assoc, parB, parB, ih, Nat.testBit_shiftRight]
    cases x.testBit (n + k) <;> cases parB k (x >>> n) <;> cases parB n x <;> rfl
theorem par_mod (n x : Nat) : parB n (x % 2 ^ n) = parB n x := by
  have key : ∀ k, k ≤ n → parB k (x % 2 ^ n) = parB k x := by
    intro k hk
    induction k with
    | zero => rfl
    | succ k ih =>
      rw [parB, parB, ih (by omega), Nat.testBit_mod_two_pow]
      have : k < n := by omega
      simp [this]
  exact key n (Nat.le_refl _)
def sum8 (b : Nat → Nat) : Nat → Nat
  | 0 => 0
  | n + 1 => b 0 + sum8 (fun i => b (i + 1)) n
theorem par_bytes : ∀ (n : Nat) (x : Nat) (c : Nat → Nat), (∀ i, c i % 2 = parN 8 (byteOf x i)) → sum8 c n % 2 = parN (8 * n) x
  | 0, x, c, _ => by simp [sum8, parN, parB]
  | n + 1, x, c, h => by
    have e : ∀ i, byteOf x (i + 1) = byteOf (x / 256) i := by
      intro i
      unfold byteOf
      rw [Nat.pow_succ, Nat.mul_comm, Nat.div_div_eq_div_mul]
    have ih := par_bytes n (x / 256) (fun i => c (i + 1)) (fun i => by rw [h (i + 1), e])
    rw [sum8, Nat.add_mod, ih, h 0]
    have e2 : 8 * (n + 1) = 8 + 8 * n := by omega
    unfold parN
    rw [e2, par_app, Nat.shiftRight_eq_div_pow, ← par_mod 8 x]
    have e3 : byteOf x 0 = x % 2 ^ 8 := by unfold byteOf; simp
    rw [e3]
    have e4 : x / 2 ^ 8 = x / 256 := rfl
    rw [e4]
    cases parB (8 * n) (x / 256) <;> cases parB 8 (x % 2 ^ 8) <;> rfl
theorem byt8_add (a b : Nat → Nat) : ∀ n (a b : Nat → Nat), byt8 a n + byt8 b n = byt8 (fun i => a i + b i) n
  | 0, _, _ => rfl
  | n + 1, a, b => by
    have := byt8_add a b n (fun i => a (i + 1)) (fun i => b (i + 1))
    simp only [byt8]; omega
theorem byt8_top : ∀ (n : Nat) (c : Nat → Nat), byt8 c (n + 1) = byt8 c n + 256 ^ n * c n
  | 0, c => by simp [byt8]
  | n + 1, c => by
    rw [byt8, byt8_top n (fun i => c (i + 1)), byt8, Nat.mul_add, ← Nat.mul_assoc, Nat.pow_succ, Nat.mul_comm (256 ^ n) 256, Nat.add_assoc]
theorem byt8_sh (n : Nat) (c : Nat → Nat) (h0 : c 0 < 256) (hz : c (n + 1) = 0) : byt8 c (n + 1) / 256 = byt8 (fun i => c (i + 1)) (n + 1) := by
  rw [byt8_top n (fun i => c (i + 1)), hz, Nat.mul_zero, Nat.add_zero, byt8]
  omega
theorem byt8_lt : ∀ (n : Nat) (c : Nat → Nat), (∀ i, c i < 256) → byt8 c n < 256 ^ n
  | 0, c, _ => by simp [byt8]
  | n + 1, c, h => by
    have h1 := byt8_lt n (fun i => c (i + 1)) (fun i => h (i + 1))
    have h2 := h 0
    rw [byt8, Nat.pow_succ]
    omega
/-- the last three additions -/
theorem fold8 (c : Nat → Nat) (h : ∀ i, c i ≤ 8) (hz : ∀ i, 8 ≤ i → c i = 0) : ∀ x3 x4 x5 x6, x3 = byt8 c 8 → x4 = x3 + x3 / 256 → x5 = x4 + x4 / 65536 → x6 = x5 + x5 / 4294967296 → x6 % 128 = sum8 c 8 ∧ x6 < 648518346341351424 ∧ x5 < 18446744073709551616 ∧ x4 < 18446744073709551616 := by
  intro x3 x4 x5 x6 e3 e4 e5 e6
  have sh : ∀ (k : Nat) (a : Nat → Nat), (∀ i, a i < 256) → (∀ i, 8 ≤ i → a i = 0) → byt8 a 8 / 256 ^ k = byt8 (fun i => a (i + k)) 8 := by
    intro k
    induction k with
    | zero => intro a _ _; simp
    | succ k ih =>
      intro a h1 h2
      rw [Nat.pow_succ, ← Nat.div_div_eq_div_mul, ih a h1 h2]
      have hs := byt8_sh 7 (fun i => a (i + k)) (h1 _) (h2 _ (by omega))
      have he : (fun i => (fun i => a (i + k)) (i + 1)) = fun i => a (i + (k + 1)) := by
        funext i
        show a (i + 1 + k) = a (i + (k + 1))
        rw [show i + 1 + k = i + (k + 1) by omega]
      rw [he] at hs
      exact hs
  have g4 : x4 = byt8 (fun i => c i + c (i + 1)) 8 := by
    have := sh 1 c (fun i => by have := h i; omega) hz
    rw [Nat.pow_one] at this
    rw [e4, e3, this, byt8_add c c]
  have g5 : x5 = byt8 (fun i => (c i + c (i + 1)) + (c (i + 2) + c (i + 2 + 1))) 8 := by
    have := sh 2 (fun i => c i + c (i + 1)) (fun i => by have := h i; have := h (i + 1); omega) (fun i hi => by simp only [hz i hi, hz (i + 1) (by omega)])
    rw [show (256 : Nat) ^ 2 = 65536 from rfl] at this
    rw [e5, g4, this, byt8_add c c]
  have g6 : x6 = byt8 (fun i => ((c i + c (i + 1)) + (c (i + 2) + c (i + 2 + 1))) + ((c (i + 4) + c (i + 4 + 1)) + (c (i + 4 + 2) + c (i + 4 + 2 + 1)))) 8 := by
    have := sh 4 (fun i => (c i + c (i + 1)) + (c (i + 2) + c (i + 2 + 1))) (fun i => by have := h i; have := h (i + 1); have := h (i + 2); have := h (i + 2 + 1); omega) (fun i hi => by simp only [hz i hi, hz (i + 1) (by omega), hz (i + 2) (by omega), hz (i + 2 + 1) (by omega)])
    rw [show (256 : Nat) ^ 4 = 4294967296 from rfl] at this
    rw [e6, g5, this, byt8_add c c]
  have hs : sum8 c 8 = c 0 + (c 1 + (c 2 + (c 3 + (c 4 + (c 5 + (c 6 + (c 7 + 0))))))) := rfl
  refine ⟨?_, ?_, ?_, ?_⟩
  · rw [g6, hs, byt8]
    have h0 := h 0; have h1 := h 1; have h2 := h 2; have h3 := h 3; have h4 := h 4; have h5 := h 5; have h6 := h 6; have h7 := h 7
    generalize byt8 _ 7 = z
    simp only [Nat.zero_add, Nat.reduceAdd]
    omega
  · rw [g6, byt8_top 7]
    have g1 := byt8_lt 7 (fun i => ((c i + c (i + 1)) + (c (i + 2) + c (i + 2 + 1))) + ((c (i + 4) + c (i + 4 + 1)) + (c (i + 4 + 2) + c (i + 4 + 2 + 1)))) (fun i => by have := h i; have := h (i + 1); have := h (i + 2); have := h (i + 2 + 1); have := h (i + 4); have := h (i + 4 + 1); have := h (i + 4 + 2); have := h (i + 4 + 2 + 1); omega)
    have e : (256 : Nat) ^ 7 = 72057594037927936 := by decide
    have h7 := h 7
    simp only [hz (7 + 1) (by omega), hz (7 + 2) (by omega), hz (7 + 2 + 1) (by omega), hz (7 + 4) (by omega), hz (7 + 4 + 1) (by omega), hz (7 + 4 + 2) (by omega), hz (7 + 4 + 2 + 1) (by omega), Nat.add_zero]
    rw [e] at g1 ⊢
    omega
  · rw [g5]; exact byt8_lt 8 _ (fun i => by have := h i; have := h (i + 1); have := h (i + 2); have := h (i + 2 + 1); omega)
  · rw [g4]; exact byt8_lt 8 _ (fun i => by have := h i; have := h (i + 1); omega)
/-- bits.OnesCount64, step by step -/
def o1 (x : Nat) : Nat := (x / 2 &&& 6148914691236517205) + (x &&& 6148914691236517205)
def o2 (x : Nat) : Nat := (x / 4 &&& 3689348814741910323) + (x &&& 3689348814741910323)
def o3 (x : Nat) : Nat := (x / 16 + x) &&& 1085102592571150095
def o4 (x : Nat) : Nat := x + x / 256
def o5 (x : Nat) : Nat := x + x / 65536
def o6 (x : Nat) : Nat := x + x / 4294967296
def ones (x : Nat) : Nat := o6 (o5 (o4 (o3 (o2 (o1 x))))) % 128
theorem byteOf_big {x i : Nat} (h : x < 18446744073709551616) (hi : 8 ≤ i) : byteOf x i = 0 := by
  unfold byteOf
  have : (256 : Nat) ^ 8 ≤ 256 ^ i := Nat.pow_le_pow_right (by decide) hi
  have e : (256 : Nat) ^ 8 = 18446744073709551616 := by decide
  rw [Nat.div_eq_of_lt (by omega)]
theorem ones_all (x : Nat) (h : x < 18446744073709551616) : o1 x < 18446744073709551616 ∧ o2 (o1 x) < 18446744073709551616 ∧ o2 (o1 x) / 16 + o2 (o1 x) < 18446744073709551616 ∧ o4 (o3 (o2 (o1 x))) < 18446744073709551616 ∧
    o5 (o4 (o3 (o2 (o1 x)))) < 18446744073709551616 ∧ o6 (o5 (o4 (o3 (o2 (o1 x))))) < 648518346341351424 ∧ ones x % 2 = parN 64 x ∧ ones x < 128 := by
  have hb : ∀ i, byteOf x i < 256 := fun i => Nat.mod_lt _ (by decide)
  have hx : byt8 (byteOf x) 8 = x := byt8_of 8 x h
  have e1 : o1 x = byt8 (fun i => f1 (byteOf x i)) 8 := by
    have := s1_all 8 (byteOf x) hb
    rw [hx, rep85] at this
    exact this
  have h1 : ∀ i, f1 (byteOf x i) < 256 := fun i => (f12_bd _ (hb i)).1
  have e2 : o2 (o1 x) = byt8 (fun i => f2 (f1 (byteOf x i))) 8 := by
    have := s2_all 8 (fun i => f1 (byteOf x i)) h1
    rw [← e1, rep51] at this
    exact this
  have h2 : ∀ i, f2 (f1 (byteOf x i)) < 69 := fun i => (f12_bd _ (hb i)).2.1
  have e3 : o3 (o2 (o1 x)) = byt8 (fun i => f3 (f2 (f1 (byteOf x i)))) 8 := by
    have := s3_all 8 (fun i => f2 (f1 (byteOf x i))) h2 (fun i => (f12_bd _ (hb i)).2.2.1)
    rw [← e2, rep15] at this
    exact this
  obtain ⟨q1, q2, q3, q4⟩ := fold8 (fun i => f3 (f2 (f1 (byteOf x i)))) (fun i => (f12_bd _ (hb i)).2.2.2.1) (fun i hi => by simp only [byteOf_big h hi]; decide) _ _ _ _ rfl rfl rfl rfl
  rw [← e3] at q1 q2 q3 q4
  have l1 : o1 x < 256 ^ 8 := by rw [e1]; exact byt8_lt 8 _ h1
  have l2 : o2 (o1 x) < 69 * 256 ^ 7 := by
    rw [e2, byt8_top 7]
    have g1 := byt8_lt 7 (fun i => f2 (f1 (byteOf x i))) (fun i => by have := h2 i; omega)
    have g2 := h2 7
    have e : (256 : Nat) ^ 7 = 72057594037927936 := by decide
    rw [e] at g1 ⊢
    have := h2 7
    omega
  have e8 : (256 : Nat) ^ 8 = 18446744073709551616 := by decide
  have e7 : (256 : Nat) ^ 7 = 72057594037927936 := by decide
  rw [e8] at l1
  rw [e7] at l2
  refine ⟨l1, by omega, by omega, q4, q3, q2, ?_, Nat.mod_lt _ (by decide)⟩
  have hp := par_bytes 8 x (fun i => f3 (f2 (f1 (byteOf x i)))) (fun i => (f12_bd _ (hb i)).2.2.2.2)
  rw [← hp, ← q1]
  rfl
end Go.Proofs.Ytfkbcflgbjncdaa
