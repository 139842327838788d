/- The error-correcting code, plainly: everything is linear, so it is enough to look at single bits. -/
import Derived.Test.YtfkbcflgbjncdaaLL
namespace Go.Proofs.Ytfkbcflgbjncdaa
set_option linter.unusedVariables false
set_option linter.unusedSimpArgs false
/-- the parity of the first n bits -/
def parB : Nat → Nat → Bool
  | 0, _ => false
  | n + 1, x => Bool.xor (x.testBit n) (parB n x)
def parN (n x : Nat) : Nat := (parB n x).toNat
theorem parB_xor (n a b : Nat) : parB n (a ^^^ b) = Bool.xor (parB n a) (parB n b) := by
  induction n with
  | zero => rfl
  | succ n ih =>
    simp only [parB, ih, Nat.testBit_xor]
    cases a.testBit n <;> cases b.testBit n <;> cases parB n a <;> cases parB n b <;> rfl
theorem toNat_xor (a b : Bool) : (Bool.xor a b).toNat = a.toNat ^^^ b.toNat := by cases a <;> cases b <;> rfl
theorem parN_xor (n a b : Nat) : parN n (a ^^^ b) = parN n a ^^^ parN n b := by unfold parN; rw [parB_xor, toNat_xor]
theorem parN_zero (n : Nat) : parN n 0 = 0 := by
  unfold parN
  have : parB n 0 = false := by
    induction n with
    | zero => rfl
    | succ n ih => simp [parB, ih]
  rw [this]; rfl
/-- linear functions -/
structure Lin (f : Nat → Nat) : Prop where
  zero : f 0 = 0
  xor : ∀ a b, f (a ^^^ b) = f a ^^^ f b
theorem Lin.comp {f g : Nat → Nat} (hf : Lin f) (hg : Lin g) : Lin (fun x => f (g x)) := ⟨by rw [hg.zero, hf.zero], fun a b => by rw [hg.xor, hf.xor]⟩
theorem Lin.add {f g : Nat → Nat} (hf : Lin f) (hg : Lin g) : Lin (fun x => f x ^^^ g x) :=
  ⟨by rw [hf.zero, hg.zero]; rfl, fun a b => by
    rw [hf.xor, hg.xor]
    apply Nat.eq_of_testBit_eq
    intro i
    simp only [Nat.testBit_xor]
    cases (f a).testBit i <;> cases (f b).testBit i <;> cases (g a).testBit i <;> cases (g b).testBit i <;> rfl⟩
theorem Lin.id : Lin (fun x => x) := ⟨rfl, fun _ _ => rfl⟩
theorem Lin.zero' : Lin (fun _ => 0) := ⟨rfl, fun _ _ => rfl⟩
theorem Lin.and (m : Nat) : Lin (fun x => x &&& m) := ⟨by simp, fun a b => Nat.and_xor_distrib_right ..⟩
theorem Lin.shl (k : Nat) : Lin (fun x => x <<< k) := ⟨by simp, fun a b => by
  apply Nat.eq_of_testBit_eq
  intro i
  simp only [Nat.testBit_xor, Nat.testBit_shiftLeft]
  cases decide (k ≤ i) <;> simp⟩
theorem Lin.shr (k : Nat) : Lin (fun x => x >>> k) := ⟨by simp, fun a b => by
  apply Nat.eq_of_testBit_eq
  intro i
  simp only [Nat.testBit_xor, Nat.testBit_shiftRight]⟩
theorem Lin.par (n : Nat) : Lin (parN n) := ⟨parN_zero n, parN_xor n⟩
theorem Lin.iff (f g : Nat → Nat) (hf : Lin f) (hg : Lin g) : ∀ (n : Nat), (∀ i, i < n → f (2 ^ i) = g (2 ^ i)) → ∀ x, x < 2 ^ n → f x = g x
  | 0, _, x, hx => by
    obtain rfl : x = 0 := by omega
    rw [hf.zero, hg.zero]
  | n + 1, h, x, hx => by
    have h0 := Lin.iff f g hf hg n (fun i hi => h i (by omega))
    by_cases hb : x.testBit n = true
    · have e : x = (x % 2 ^ n) ^^^ 2 ^ n := by
        apply Nat.eq_of_testBit_eq
        intro i
        simp only [Nat.testBit_xor, Nat.testBit_mod_two_pow, Nat.testBit_two_pow]
        rcases Nat.lt_trichotomy i n with hi | hi | hi
        · have : ¬ n = i := by omega
          simp [hi, this]
        · subst hi; simp [hb]
        · have h1 : x.testBit i = false := Nat.testBit_lt_two_pow (Nat.lt_of_lt_of_le hx (Nat.pow_le_pow_right (by decide) hi))
          have h2 : ¬ i < n := by omega
          have h3 : ¬ n = i := by omega
          simp [h1, h2, h3]
      rw [e, hf.xor, hg.xor, h0 _ (Nat.mod_lt _ (Nat.two_pow_pos n)), h n (by omega)]
    · have hlt : x < 2 ^ n := by
        rcases Nat.lt_or_ge x (2 ^ n) with h1 | h1
        · exact h1
        · exfalso
          apply hb
          rw [Nat.testBit_eq_decide_div_mod_eq]
          have h2 : x / 2 ^ n = 1 := by
            have h3 : x / 2 ^ n < 2 := Nat.div_lt_of_lt_mul (by rw [Nat.pow_succ] at hx; omega)
            have h4 : 1 ≤ x / 2 ^ n := (Nat.one_le_div_iff (Nat.two_pow_pos n)).2 h1
            omega
          rw [h2]; rfl
      exact h0 x hlt
/-- the masks of the syndrome's bits -/
def mk : Nat → Nat
  | 0 => 0x2AAAAAAAAA
  | 1 => 0x4CCCCCCCCC
  | 2 => 0x70F0F0F0F0
  | 3 => 0x00FF00FF00
  | 4 => 0x00FFFF0000
  | 5 => 0x7F00000000
  | _ => 0
def sbit (k w : Nat) : Nat := parN 64 (w &&& mk k) <<< k
def syn (w : Nat) : Nat := sbit 0 w ^^^ (sbit 1 w ^^^ (sbit 2 w ^^^ (sbit 3 w ^^^ (sbit 4 w ^^^ sbit 5 w))))
def par39 (w : Nat) : Nat := parN 64 (w &&& 549755813887)
theorem sbit_lin (k : Nat) : Lin (sbit k) := (Lin.shl k).comp ((Lin.par 64).comp (Lin.and _))
theorem syn_lin : Lin syn := (sbit_lin 0).add ((sbit_lin 1).add ((sbit_lin 2).add ((sbit_lin 3).add ((sbit_lin 4).add (sbit_lin 5)))))
theorem par39_lin : Lin par39 := (Lin.par 64).comp (Lin.and _)
/-- does position p hold a check bit? -/
def chk (p : Nat) : Bool := p &&& (p - 1) == 0
/-- how many data bits lie below position p -/
def cnt : Nat → Nat
  | 0 => 0
  | p + 1 => if p < 3 ∨ chk p = true then cnt p else cnt p + 1
/-- the data bits below position p, laid -/
def plc : Nat → Nat → Nat
  | 0, _ => 0
  | p + 1, d => if p < 3 ∨ chk p = true then plc p d else plc p d ^^^ ((d >>> cnt p &&& 1) <<< p)
theorem plc_lin : ∀ p, Lin (plc p)
  | 0 => Lin.zero'
  | p + 1 => by
    by_cases h : p < 3 ∨ chk p = true
    · have e : plc (p + 1) = plc p := by funext d; simp only [plc, if_pos h]
      rw [e]; exact plc_lin p
    · have e : plc (p + 1) = fun d => plc p d ^^^ ((d >>> cnt p &&& 1) <<< p) := by funext d; simp only [plc, if_neg h]
      rw [e]; exact (plc_lin p).add ((Lin.shl p).comp ((Lin.and 1).comp (Lin.shr _)))
/-- the data bits below position p, taken -/
def dat : Nat → Nat → Nat
  | 0, _ => 0
  | p + 1, w => if p < 3 ∨ chk p = true then dat p w else dat p w ^^^ ((w >>> p &&& 1) <<< cnt p)
theorem dat_lin : ∀ p, Lin (dat p)
  | 0 => Lin.zero'
  | p + 1 => by
    by_cases h : p < 3 ∨ chk p = true
    · have e : dat (p + 1) = dat p := by funext d; simp only [dat, if_pos h]
      rw [e]; exact dat_lin p
    · have e : dat (p + 1) = fun w => dat p w ^^^ ((w >>> p &&& 1) <<< cnt p) := by funext d; simp only [dat, if_neg h]
      rw [e]; exact (dat_lin p).add ((Lin.shl _).comp ((Lin.and 1).comp (Lin.shr _)))
/-- the first k check bits of a syndrome, laid -/
def cks : Nat → Nat → Nat
  | 0, _ => 0
  | k + 1, s => cks k s ^^^ ((s >>> k &&& 1) <<< 2 ^ k)
theorem cks_lin : ∀ k, Lin (cks k)
  | 0 => Lin.zero'
  | k + 1 => (cks_lin k).add ((Lin.shl _).comp ((Lin.and 1).comp (Lin.shr _)))
def enc0 (d : Nat) : Nat := plc 39 d ^^^ cks 6 (syn (plc 39 d))
def encW (d : Nat) : Nat := enc0 d ^^^ par39 (enc0 d)
theorem enc0_lin : Lin enc0 := (plc_lin 39).add ((cks_lin 6).comp (syn_lin.comp (plc_lin 39)))
theorem encW_lin : Lin encW := enc0_lin.add (par39_lin.comp enc0_lin)
theorem syn_enc {d : Nat} (h : d < 2 ^ 32) : syn (encW d) = 0 :=
  Lin.iff (fun x => syn (encW x)) (fun _ => 0) (syn_lin.comp encW_lin) Lin.zero' 32 (by decide +kernel) d h
theorem par_enc {d : Nat} (h : d < 2 ^ 32) : par39 (encW d) = 0 :=
  Lin.iff (fun x => par39 (encW x)) (fun _ => 0) (par39_lin.comp encW_lin) Lin.zero' 32 (by decide +kernel) d h
theorem dat_enc {d : Nat} (h : d < 2 ^ 32) : dat 39 (encW d) = d :=
  Lin.iff (fun x => dat 39 (encW x)) (fun x => x) ((dat_lin 39).comp encW_lin) Lin.id 32 (by decide +kernel) d h
theorem high_enc {d : Nat} (h : d < 2 ^ 32) : encW d >>> 39 = 0 :=
  Lin.iff (fun x => encW x >>> 39) (fun _ => 0) ((Lin.shr 39).comp encW_lin) Lin.zero' 32 (by decide +kernel) d h
theorem syn_bit : ∀ b, b < 39 → syn (2 ^ b) = b := by decide +kernel
theorem par_bit : ∀ b, b < 39 → par39 (2 ^ b) = 1 := by decide +kernel
theorem syn_flip {d b : Nat} (h : d < 2 ^ 32) (hb : b < 39) : syn (encW d ^^^ 2 ^ b) = b := by rw [syn_lin.xor, syn_enc h, syn_bit b hb, Nat.zero_xor]
theorem par_flip {d b : Nat} (h : d < 2 ^ 32) (hb : b < 39) : par39 (encW d ^^^ 2 ^ b) = 1 := by rw [par39_lin.xor, par_enc h, par_bit b hb, Nat.zero_xor]
theorem high_flip {d b : Nat} (h : d < 2 ^ 32) (hb : b < 39) : (encW d ^^^ 2 ^ b) >>> 39 = 0 := by
  rw [(Lin.shr 39).xor, high_enc h, Nat.zero_xor, Nat.shiftRight_eq_div_pow]
  exact Nat.div_eq_of_lt (Nat.pow_lt_pow_right (by decide) hb)
theorem enc_lt {d : Nat} (h : d < 2 ^ 32) : encW d < 2 ^ 39 := by
  have := high_enc h
  rw [Nat.shiftRight_eq_div_pow] at this
  rcases Nat.lt_or_ge (encW d) (2 ^ 39) with h1 | h1
  · exact h1
  · have := (Nat.one_le_div_iff (Nat.two_pow_pos 39)).2 h1; omega
end Go.Proofs.Ytfkbcflgbjncdaa
