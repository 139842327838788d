/- Time codes read back, written again, and ordered: plainly. -/
import Derived.Test.YtnneanbboooneaaCLawB
import Derived.Lib.Bytes
namespace Go.Proofs.Ytnneanbboooneaa
set_option linter.unusedVariables false
set_option linter.unusedSimpArgs false
open Go.RowKit
theorem beVal_app (L M : List Int) : beVal (L ++ M) = beVal L * 256 ^ M.length + beVal M := by
  induction M generalizing L with
  | nil => simp [beVal]
  | cons x M ih =>
    have h1 : L ++ x :: M = (L ++ [x]) ++ M := by simp
    have h2 : x :: M = [x] ++ M := rfl
    rw [h1, ih, beVal_snoc, h2, ih [x]]
    have h3 : beVal [x] = x := by simp [beVal]
    rw [h3, List.length_append, List.length_singleton, Nat.add_comm 1, Int.pow_succ, Int.add_mul, Int.mul_assoc, Int.mul_comm 256]
    omega
theorem beVal_cons (x : Int) (L : List Int) : beVal (x :: L) = x * 256 ^ L.length + beVal L := by
  have := beVal_app [x] L
  rw [beVal1] at this
  exact this
theorem beVal_be (n : Int) (hn : 0 ≤ n) : ∀ k, beVal (be n k) = n % 256 ^ k
  | 0 => by simp [be, beVal]
  | k + 1 => by
    have h1 : be n (k + 1) = [n / 256 ^ k % 256] ++ be n k := rfl
    rw [h1, beVal_app, be_length, beVal_be n hn k]
    have h3 : beVal [n / 256 ^ k % 256] = n / 256 ^ k % 256 := by simp [beVal]
    rw [h3, Int.pow_succ]
    have hp : (0 : Int) < 256 ^ k := Int.pow_pos (by decide)
    obtain ⟨N, rfl⟩ := Int.eq_ofNat_of_zero_le hn
    have h := Nat.mod_mul (x := N) (a := 256 ^ k) (b := 256)
    have h2 : ((N % (256 ^ k * 256) : Nat) : Int) = ((N % 256 ^ k + 256 ^ k * (N / 256 ^ k % 256) : Nat) : Int) := by rw [h]
    simp only [Int.natCast_add, Int.natCast_mul, Int.natCast_emod, Int.natCast_ediv, Int.natCast_pow] at h2
    rw [Int.mul_comm, Int.add_comm]
    exact h2.symm
theorem be_beVal : ∀ (L : List Int), Oct L → be (beVal L) L.length = L := by
  intro L
  induction L with
  | nil => intro _; rfl
  | cons x L ih =>
    intro hO
    have hx := hO x (by simp)
    have hb := beVal_bd L.length L (fun y hy => hO y (by simp [hy])) rfl
    have hp : (0 : Int) < 256 ^ L.length := Int.pow_pos (by decide)
    have key : ∀ k, k ≤ L.length → be (x * 256 ^ L.length + beVal L) k = be (beVal L) k := by
      intro k hk
      induction k with
      | zero => rfl
      | succ k ih2 =>
        unfold be
        rw [ih2 (by omega)]
        congr 1
        obtain ⟨d, hd⟩ : ∃ d, L.length = k + 1 + d := ⟨L.length - (k + 1), by omega⟩
        have hpk : (0 : Int) < 256 ^ k := Int.pow_pos (by decide)
        have e2 : x * 256 ^ L.length + beVal L = beVal L + (x * 256 ^ d * 256) * 256 ^ k := by
          rw [hd, Int.pow_add, Int.pow_add, Int.pow_succ, Int.pow_zero, Int.one_mul, Int.add_comm]
          congr 1
          rw [Int.mul_comm (256 ^ k * 256) (256 ^ d), Int.mul_assoc x, Int.mul_assoc x, Int.mul_assoc (256 ^ d), Int.mul_comm 256 (256 ^ k)]
        rw [e2, Int.add_mul_ediv_right _ _ (by omega)]
        omega
    rw [List.length_cons, beVal_cons]
    unfold be
    rw [key L.length (Nat.le_refl _), ih (fun y hy => hO y (by simp [hy]))]
    congr 1
    rw [Int.add_comm, Int.add_mul_ediv_right _ _ (by omega), Int.ediv_eq_zero_of_lt hb.1 hb.2]
    omega
theorem be_oct (n : Int) : ∀ k, Oct (be n k)
  | 0 => by intro x hx; cases hx
  | k + 1 => by
    intro x hx
    rcases List.mem_cons.1 hx with rfl | hx
    · omega
    · exact be_oct n k x hx
theorem fineB_oct (t : Int) (k : Nat) : Oct (fineB t k) := by
  intro x hx
  simp only [fineB, List.mem_map] at hx
  obtain ⟨i, _, rfl⟩ := hx
  by_cases h : i = 0
  · rw [if_pos h]; omega
  · rw [if_neg h]; omega
theorem fineB_cons (t : Int) : ∀ k, fineB t (k + 1) = t % 256 :: List.replicate k 0
  | 0 => rfl
  | k + 1 => by rw [fineB_succ, fineB_cons t k, if_neg (by omega), List.replicate_succ']; rfl
theorem fineB_zero (t : Int) (k : Nat) : ∀ z ∈ (fineB t k).drop 1, z = 0 := by
  cases k with
  | zero => intro z hz; simp [fineB] at hz
  | succ k =>
    rw [fineB_cons]
    intro z hz
    exact List.eq_of_mem_replicate hz
theorem encE_zero {t C F : Int} (h : encE t C F = 0) : okF C F = true ∧ chkF C F t = 0 ∧ 0 ≤ t ∧ t ≤ 1099511627776 ∧ t / 256 < capS C := by
  unfold encE at h
  by_cases h0 : chkF C F t = 0
  · rw [if_pos h0] at h
    obtain ⟨a, b, c⟩ := chk_zero h0
    by_cases h1 : t / 256 < capS C
    · exact ⟨a, h0, b, c, h1⟩
    · rw [if_neg h1] at h; omega
  · rw [if_neg h0] at h; exact absurd h h0
theorem encL_zero {t C F : Int} (h : encE t C F = 0) : encL t C F = encB t C F := by unfold encL; rw [if_pos h]
theorem encL_ne {t C F : Int} (h : encE t C F ≠ 0) : encL t C F = [] := by unfold encL; rw [if_neg h]
theorem idx_ok {C F : Int} (h : okF C F = true) : idxF C F = 4 * (C - 1) + F := by unfold idxF; rw [if_pos h]
theorem cOf_idx {C F : Int} (h : okF C F = true) : cOf (16 + idxF C F) = C.toNat ∧ fOf (16 + idxF C F) = F.toNat := by
  have h2 := (okF_iff C F).1 h
  rw [idx_ok h]
  unfold cOf fOf
  omega
theorem encB_len (t C F : Int) : (encB t C F).length = 1 + C.toNat + F.toNat := by
  unfold encB; rw [List.length_cons, List.length_append, be_length, fineB_len]; omega
theorem encB_oct {t C F : Int} (h : okF C F = true) : Oct (encB t C F) := by
  have h2 := (okF_iff C F).1 h
  intro x hx
  unfold encB at hx
  rw [idx_ok h] at hx
  rcases List.mem_cons.1 hx with rfl | hx
  · omega
  · rcases List.mem_append.1 hx with hx | hx
    · exact be_oct _ _ x hx
    · exact fineB_oct _ _ x hx
/-- the time that the format expresses -/
def cutT (t F : Int) : Int := if F = 0 then t - t % 256 else t
theorem cutT_bd (t F : Int) : cutT t F ≤ t ∧ t - cutT t F < 256 ∧ (F = 0 ∨ cutT t F = t) := by
  unfold cutT
  by_cases h : F = 0
  · rw [if_pos h]; omega
  · rw [if_neg h]; omega
theorem round_enc {t C F : Int} (h : encE t C F = 0) : roundP t C F = (cutT t F, 0) := by
  obtain ⟨a, b, c, d, e⟩ := encE_zero h
  have hm : min t (capS C * 256 - 1) = t := by omega
  unfold roundP cutT
  rw [if_pos b, hm]
theorem dec_enc {t C F : Int} (h : encE t C F = 0) (T : List Int) : decP (encB t C F ++ T) = ⟨cutT t F, C, F, 1 + C + F, 0⟩ := by
  obtain ⟨a, b, c, d, e⟩ := encE_zero h
  have h2 := (okF_iff C F).1 a
  obtain ⟨hc, hf⟩ := cOf_idx a
  have hx := idx_ok a
  have ec : ((C.toNat : Nat) : Int) = C := Int.toNat_of_nonneg (by omega)
  have ef : ((F.toNat : Nat) : Int) = F := Int.toNat_of_nonneg (by omega)
  have e1 : encB t C F ++ T = (16 + idxF C F) :: ((be (t / 256) C.toNat ++ fineB t F.toNat) ++ T) := rfl
  have eR : (((be (t / 256) C.toNat ++ fineB t F.toNat) ++ T)).take C.toNat = be (t / 256) C.toNat := by
    rw [List.append_assoc, List.take_append_of_le_length (by rw [be_length]; omega), List.take_of_length_le (by rw [be_length]; omega)]
  have eD : (((be (t / 256) C.toNat ++ fineB t F.toNat) ++ T)).drop C.toNat = fineB t F.toNat ++ T := by
    rw [List.append_assoc, List.drop_append_of_le_length (by rw [be_length]; omega), List.drop_eq_nil_of_le (by rw [be_length]; omega)]; rfl
  have eF : fineL (16 + idxF C F) ((be (t / 256) C.toNat ++ fineB t F.toNat) ++ T) = fineB t F.toNat := by
    unfold fineL
    rw [hc, hf, eD, List.take_append_of_le_length (by rw [fineB_len]; omega), List.take_of_length_le (by rw [fineB_len]; omega)]
  have eT : decT (16 + idxF C F) ((be (t / 256) C.toNat ++ fineB t F.toNat) ++ T) = cutT t F := by
    unfold decT
    rw [eF, hc, eR, beVal_be _ (by omega), Int.emod_eq_of_lt (by omega) (show t / 256 < 256 ^ C.toNat from e)]
    unfold cutT
    by_cases h0 : F = 0
    · rw [if_pos h0, h0]
      simp [fineB]
      omega
    · rw [if_neg h0]
      obtain ⟨k, hk⟩ : ∃ k, F.toNat = k + 1 := ⟨F.toNat - 1, by omega⟩
      rw [hk, fineB_cons]
      simp
      omega
  rw [e1, decP_fine (by omega) (by omega) (by rw [hc, hf]; simp [be_length, fineB_len]; omega) (by rw [eF]; exact fineB_zero t _), eT, hc, hf, ec, ef]
/-- what is read is written again -/
theorem enc_dec {L : List Int} (hO : Oct L) {d : Dc} (h : decP L = d) : (d = ⟨0, 0, 0, 0, d.e⟩ ∧ d.e ≠ 0) ∨ (d.e = 0 ∧ 1 ≤ d.n ∧ d.n ≤ (L.length : Int) ∧ encE d.t d.C d.F = 0 ∧ encB d.t d.C d.F = L.take d.n.toNat) := by
  subst h
  cases L with
  | nil => left; exact ⟨rfl, by decide⟩
  | cons x R =>
    by_cases hx : x < 16 ∨ 31 < x
    · left
      have : decP (x :: R) = ⟨0, 0, 0, 0, 4⟩ := if_pos hx
      rw [this]; exact ⟨rfl, by decide⟩
    have hx0 : 16 ≤ x := by omega
    have hx1 : x ≤ 31 := by omega
    by_cases hl : R.length < cOf x + fOf x
    · left; rw [decP_short hx0 hx1 hl]; exact ⟨rfl, by decide⟩
    by_cases hz : ∀ z ∈ (fineL x R).drop 1, z = 0
    case neg => left; rw [decP_form hx0 hx1 hl hz]; exact ⟨rfl, by decide⟩
    right
    rw [decP_fine hx0 hx1 hl hz]
    have hbd := cOf_bd hx0 hx1
    have hok := okF_of hx0 hx1
    have hR : Oct R := fun y hy => hO y (by simp [hy])
    obtain ⟨B, hB⟩ : ∃ B, beVal (R.take (cOf x)) = B := ⟨_, rfl⟩
    have hbb := beVal_bd (cOf x) (R.take (cOf x)) (oct_take hR _) (by simp; omega)
    have hbe := be_beVal (R.take (cOf x)) (oct_take hR _)
    rw [show (R.take (cOf x)).length = cOf x from by simp; omega] at hbe
    rw [hB] at hbb hbe
    have hfl : (fineL x R).length = fOf x := by unfold fineL; simp; omega
    have hfo : Oct (fineL x R) := oct_take (oct_drop hR _) _
    obtain ⟨y, hy, hy0, hy1, hfb⟩ : ∃ y, (fineL x R).headD 0 = y ∧ 0 ≤ y ∧ y ≤ 255 ∧ ∀ t, t % 256 = y → fineB t (fOf x) = fineL x R := by
      cases hL : fineL x R with
      | nil =>
        refine ⟨0, rfl, by omega, by omega, fun t _ => ?_⟩
        rw [hL] at hfl
        rw [← hfl]; rfl
      | cons y M =>
        rw [hL] at hfl hz hfo
        have := hfo y (by simp)
        refine ⟨y, rfl, this.1, this.2, fun t ht => ?_⟩
        simp only [List.length_cons] at hfl
        rw [← hfl, fineB_cons, ht]
        congr 1
        exact (List.eq_replicate_iff.2 ⟨rfl, hz⟩).symm
    have hT : decT x R = B * 256 + y := by unfold decT; rw [hB, hy]
    have hcap : capS ((cOf x : Nat) : Int) = 256 ^ cOf x := by unfold capS; rw [Int.toNat_natCast]
    have hq : (B * 256 + y) / 256 = B := by omega
    have hcb := capS_bd (C := (cOf x : Int)) (by omega)
    have hE : encE (decT x R) (cOf x) (fOf x) = 0 := by
      have h0 : chkF (cOf x) (fOf x) (decT x R) = 0 := by
        unfold chkF
        rw [if_pos hok, if_neg]
        rw [hT]
        rw [hcap] at hcb
        omega
      unfold encE
      rw [if_pos h0, if_pos]
      rw [hT, hq, hcap]; exact hbb.2
    refine ⟨rfl, by simp only; omega, by simp only [List.length_cons]; omega, hE, ?_⟩
    simp only
    unfold encB
    rw [show (1 + (cOf x : Int) + (fOf x : Int)).toNat = (cOf x + fOf x) + 1 from by omega, List.take_succ_cons, idx_ok hok, hT, hq, Int.toNat_natCast, Int.toNat_natCast, hbe, hfb _ (by omega), List.take_add]
    congr 1
    have := cOf_bd hx0 hx1
    unfold cOf fOf
    omega
/-! ### order -/
theorem less_num : ∀ (L M : List Int), Oct L → Oct M → L.length = M.length → Op.bytesLess (Lib.bytesOf L) (Lib.bytesOf M) = decide (beVal L < beVal M)
  | [], [], _, _, _ => rfl
  | x :: L, y :: M, hL, hM, h => by
    have hx := hL x (by simp)
    have hy := hM y (by simp)
    have hL' : Oct L := fun z hz => hL z (by simp [hz])
    have hM' : Oct M := fun z hz => hM z (by simp [hz])
    have hl : L.length = M.length := by simpa using h
    have ih := less_num L M hL' hM' hl
    have bL := beVal_bd L.length L hL' rfl
    have bM := beVal_bd L.length M hM' hl.symm
    have hp : (0 : Int) < 256 ^ L.length := Int.pow_pos (by decide)
    obtain ⟨P, hP⟩ : ∃ P : Int, 256 ^ L.length = P := ⟨_, rfl⟩
    have e1 : beVal (x :: L) = x * P + beVal L := by rw [beVal_cons, hP]
    have e2 : beVal (y :: M) = y * P + beVal M := by rw [beVal_cons, ← hl, hP]
    rw [hP] at bL bM hp
    show (decide (UInt8.ofNat x.toNat < UInt8.ofNat y.toNat) || (UInt8.ofNat x.toNat == UInt8.ofNat y.toNat && Op.bytesLess (Lib.bytesOf L) (Lib.bytesOf M))) = _
    rw [ih, e1, e2]
    have ux : (UInt8.ofNat x.toNat).toNat = x.toNat := by rw [UInt8.toNat_ofNat']; omega
    have uy : (UInt8.ofNat y.toNat).toNat = y.toNat := by rw [UInt8.toNat_ofNat']; omega
    have hlt : (UInt8.ofNat x.toNat < UInt8.ofNat y.toNat) ↔ x < y := by rw [UInt8.lt_iff_toNat_lt, ux, uy]; omega
    have heq : (UInt8.ofNat x.toNat == UInt8.ofNat y.toNat) = decide (x = y) := by
      rw [Bool.eq_iff_iff, beq_iff_eq, decide_eq_true_iff, ← UInt8.toNat_inj, ux, uy]; omega
    rw [heq]
    rcases Int.lt_trichotomy x y with hxy | hxy | hxy
    · have h1 : x * P + beVal L < y * P + beVal M := by
        have := Int.mul_le_mul_of_nonneg_right (show x + 1 ≤ y by omega) (show 0 ≤ P by omega)
        rw [Int.add_mul] at this
        omega
      rw [decide_eq_true (hlt.2 hxy), decide_eq_true h1]; rfl
    · subst hxy
      rw [decide_eq_false (fun hh => by have := hlt.1 hh; omega), decide_eq_true rfl]
      simp
    · have h1 : ¬ x * P + beVal L < y * P + beVal M := by
        have := Int.mul_le_mul_of_nonneg_right (show y + 1 ≤ x by omega) (show 0 ≤ P by omega)
        rw [Int.add_mul] at this
        omega
      rw [decide_eq_false (fun hh => by have := hlt.1 hh; omega), decide_eq_false (show ¬ x = y by omega), decide_eq_false h1]; rfl
theorem less_str (L M : List Int) (hL : Oct L) (hM : Oct M) (h : L.length = M.length) : Op.bytesLess (strOfNums L).toList (strOfNums M).toList = decide (beVal L < beVal M) := by
  rw [Lib.strOfNums_toList, Lib.strOfNums_toList]; exact less_num L M hL hM h
theorem rep_zero : ∀ k, beVal (List.replicate k 0) = 0
  | 0 => rfl
  | k + 1 => by rw [List.replicate_succ, beVal_cons, rep_zero k]; omega
theorem enc_lt {a b C F : Int} (ha : encE a C F = 0) (hb : encE b C F = 0) (ca : cutT a F = a) (cb : cutT b F = b) : (beVal (encB a C F) < beVal (encB b C F)) ↔ a < b := by
  obtain ⟨a1, _, a2, _, a3⟩ := encE_zero ha
  obtain ⟨b1, _, b2, _, b3⟩ := encE_zero hb
  have h2 := (okF_iff C F).1 a1
  have key : ∀ u, 0 ≤ u → u / 256 < capS C → beVal (be (u / 256) C.toNat) = u / 256 := fun u hu hlt => by
    rw [beVal_be _ (by omega), Int.emod_eq_of_lt (by omega) (show u / 256 < 256 ^ C.toNat from hlt)]
  unfold encB
  rw [beVal_cons, beVal_cons, List.length_append, List.length_append, be_length, be_length, fineB_len, fineB_len, beVal_app, beVal_app, fineB_len, fineB_len, key a a2 a3, key b b2 b3]
  by_cases h0 : F = 0
  · subst h0
    unfold cutT at ca cb
    rw [if_pos rfl] at ca cb
    simp only [Int.toNat_zero, Int.pow_zero, Int.mul_one]
    rw [show fineB a 0 = [] from rfl, show fineB b 0 = [] from rfl]
    omega
  · obtain ⟨k, hk⟩ : ∃ k, F.toNat = k + 1 := ⟨F.toNat - 1, by omega⟩
    rw [hk, fineB_cons, fineB_cons, beVal_cons, beVal_cons, rep_zero, List.length_replicate]
    have hp : (0 : Int) < 256 ^ k := Int.pow_pos (by decide)
    obtain ⟨P, hP⟩ : ∃ P : Int, 256 ^ k = P := ⟨_, rfl⟩
    obtain ⟨Q, hQ⟩ : ∃ Q : Int, (16 + idxF C F) * 256 ^ (C.toNat + (k + 1)) = Q := ⟨_, rfl⟩
    rw [hQ, Int.pow_succ, hP]
    rw [hP] at hp
    have e : ∀ u : Int, u / 256 * (P * 256) + (u % 256 * P + 0) = u * P := fun u => by
      have h1 : u / 256 * (P * 256) = (u / 256 * 256) * P := by rw [Int.mul_comm P, ← Int.mul_assoc]
      rw [h1, Int.add_zero, ← Int.add_mul]
      congr 1
      omega
    rw [e a, e b]
    constructor
    · intro h
      rcases Int.lt_or_le a b with h3 | h3
      · exact h3
      · have := Int.mul_le_mul_of_nonneg_right h3 (show 0 ≤ P by omega)
        omega
    · intro h
      have := Int.mul_le_mul_of_nonneg_right (show a + 1 ≤ b by omega) (show 0 ≤ P by omega)
      rw [Int.add_mul] at this
      omega
theorem round_facts {t C F x : Int} (h : roundP t C F = (x, 0)) : encE x C F = 0 ∧ cutT x F = x ∧ ∀ u y, t ≤ u → roundP u C F = (y, 0) → x ≤ y := by
  have h0 : chkF C F t = 0 := by
    unfold roundP at h
    by_cases h0 : chkF C F t = 0
    · exact h0
    · rw [if_neg h0] at h; exact (Prod.mk.inj h).2
  obtain ⟨hok, ht0, ht1⟩ := chk_zero h0
  have h2 := (okF_iff C F).1 hok
  have hcb := capS_bd ⟨h2.1, h2.2.1⟩
  have hx : (if F = 0 then min t (capS C * 256 - 1) - min t (capS C * 256 - 1) % 256 else min t (capS C * 256 - 1)) = x := by
    unfold roundP at h
    rw [if_pos h0] at h
    exact (Prod.mk.inj h).1
  have hb : 0 ≤ x ∧ x ≤ t ∧ x / 256 < capS C ∧ (F = 0 → x % 256 = 0) := by
    by_cases hF : F = 0
    · rw [if_pos hF] at hx; omega
    · rw [if_neg hF] at hx; omega
  refine ⟨?_, ?_, fun u y hu hy => ?_⟩
  · have h3 : chkF C F x = 0 := by unfold chkF; rw [if_pos hok, if_neg (by omega)]
    unfold encE
    rw [if_pos h3, if_pos hb.2.2.1]
  · unfold cutT
    by_cases hF : F = 0
    · rw [if_pos hF, hb.2.2.2 hF]; omega
    · rw [if_neg hF]
  · have h0' : chkF C F u = 0 := by
      unfold roundP at hy
      by_cases h0 : chkF C F u = 0
      · exact h0
      · rw [if_neg h0] at hy; exact (Prod.mk.inj hy).2
    have hy' : (if F = 0 then min u (capS C * 256 - 1) - min u (capS C * 256 - 1) % 256 else min u (capS C * 256 - 1)) = y := by
      unfold roundP at hy
      rw [if_pos h0'] at hy
      exact (Prod.mk.inj hy).1
    by_cases hF : F = 0
    · rw [if_pos hF] at hx hy'; omega
    · rw [if_neg hF] at hx hy'; omega
end Go.Proofs.Ytnneanbboooneaa
