/- The protocol data units, plainly. -/
import Derived.Test.YtijionfhnoffcaaRefX
namespace Go.Proofs.Ytijionfhnoffcaa
set_option linter.unusedVariables false
set_option linter.unusedSimpArgs false
structure Gp where
  f : Int
  t : Int
deriving DecidableEq
structure Pd where
  kind : Int
  src : Int
  num : Int
  cls : Int
  name : List Int
  size : Int
  off : Int
  data : List Int
  sum : Int
  code : Int
  gaps : List Gp
def inB (n a b : Int) : Bool := decide (a ≤ n) && decide (n ≤ b)
theorem inB_iff {n a b : Int} : inB n a b = true ↔ a ≤ n ∧ n ≤ b := by simp [inB]
def charB (x : Int) : Bool := decide (33 ≤ x) && decide (x ≤ 126)
def nameB (l : List Int) : Bool := l.all charB && inB l.length 1 64
/-- the gaps, from some place on; b: is it the first one? -/
def gapGo : Bool → Int → List Gp → Bool
  | _, _, [] => true
  | b, last, g :: l => if b = true ∧ g.f = 0 ∧ g.t = 0 then gapGo false last l else if g.f ≤ last ∨ g.t ≤ g.f ∨ 65536 < g.t then false else gapGo false g.t l
def gapsB (L : List Gp) : Bool := gapGo true (-1) L && inB L.length 1 16
def restP (p : Pd) : Pd :=
  if p.kind = 1 then { p with cls := 0, size := 0, name := [] }
  else if p.kind = 2 then { p with off := 0, data := [] }
  else if p.kind = 3 then { p with cls := 0, size := 0, sum := 0, code := 0 }
  else if p.kind = 4 then { p with gaps := [] }
  else if p.kind = 5 then { p with code := 0 }
  else p
def emptyB (p : Pd) : Bool := decide (p.cls = 0 ∧ p.name = [] ∧ p.size = 0 ∧ p.off = 0 ∧ p.data = [] ∧ p.sum = 0 ∧ p.code = 0 ∧ p.gaps = [])
def bodyB (p : Pd) : Bool :=
  if p.kind = 1 then inB p.cls 1 2 && (inB p.size 0 65536 && nameB p.name)
  else if p.kind = 2 then inB p.data.length 1 512 && inB p.off 0 (65536 - p.data.length)
  else if p.kind = 3 then inB p.cls 1 2 && (inB p.size 0 65536 && inB p.code 0 17)
  else if p.kind = 4 then gapsB p.gaps
  else if p.kind = 5 then inB p.code 0 17
  else true
def headB (p : Pd) : Bool := inB p.kind 1 7 && (inB p.src 0 15 && inB p.num 0 65535)
def validP (p : Pd) : Bool := headB p && (emptyB (restP p) && bodyB p)
/-- the encodings -/
def vI (n : Int) : List Int := vn (zz n).toNat
def vB (B : List Int) : List Int := vI B.length ++ B
def gapsE (L : List Gp) : List Int := L.flatMap (fun g => vI g.f ++ vI g.t)
def bodyE (p : Pd) : List Int :=
  if p.kind = 1 then be p.cls 1 ++ (vI p.size ++ vB p.name)
  else if p.kind = 2 then vI p.off ++ vB p.data
  else if p.kind = 3 then be p.cls 1 ++ (vI p.size ++ (be p.sum 4 ++ be p.code 1))
  else if p.kind = 4 then vI p.gaps.length ++ gapsE p.gaps
  else if p.kind = 5 then be p.code 1
  else []
def headE (p : Pd) : List Int := be p.kind 1 ++ (be p.src 1 ++ be p.num 2)
def encP (p : Pd) : List Int := headE p ++ bodyE p
/-- what is read -/
def zeroP (k a n : Int) : Pd := ⟨k, a, n, 0, [], 0, 0, [], 0, 0, []⟩
def gapsRd : Nat → RS → List Gp × RS
  | 0, s => ([], s)
  | n + 1, s => (⟨(stI s).1, (stI (stI s).2).1⟩ :: (gapsRd n (stI (stI s).2).2).1, (gapsRd n (stI (stI s).2).2).2)
def fldB (p : Pd) (s : RS) : Pd × RS :=
  if p.kind = 1 then ({ p with cls := (stU s 1).1, size := (stI (stU s 1).2).1, name := (stB (stI (stU s 1).2).2 64).1 }, (stB (stI (stU s 1).2).2 64).2)
  else if p.kind = 2 then ({ p with off := (stI s).1, data := (stB (stI s).2 512).1 }, (stB (stI s).2 512).2)
  else if p.kind = 3 then ({ p with cls := (stU s 1).1, size := (stI (stU s 1).2).1, sum := (stU (stI (stU s 1).2).2 4).1, code := (stU (stU (stI (stU s 1).2).2 4).2 1).1 }, (stU (stU (stI (stU s 1).2).2 4).2 1).2)
  else if p.kind = 4 then ({ p with gaps := (gapsRd (stC s 16).1.toNat (stC s 16).2).1 }, (gapsRd (stC s 16).1.toNat (stC s 16).2).2)
  else if p.kind = 5 then ({ p with code := (stU s 1).1 }, (stU s 1).2)
  else (p, s)
def fldH (s : RS) : Pd × RS := (zeroP (stU s 1).1 (stU (stU s 1).2 1).1 (stU (stU (stU s 1).2 1).2 2).1, (stU (stU (stU s 1).2 1).2 2).2)
def fld (s : RS) : Pd × RS := fldB (fldH s).1 (fldH s).2
def endS (s : RS) : Bool := match s with | none => false | some L => decide (L = [])
def decP (L : List Int) : Option Pd := if endS (fld (some L)).2 && validP (fld (some L)).1 then some (fld (some L)).1 else none
def rdecP (L : List Int) : Option Pd := if (fld (some L)).2.isSome && (validP (fld (some L)).1 && decide (encP (fld (some L)).1 = L)) then some (fld (some L)).1 else none

/-! ### reading and writing -/
theorem beVal_app (L M : List Int) : beVal (L ++ M) = beVal L * 256 ^ M.length + beVal M := by
  induction M generalizing L with
  | nil => simp [beVal]
  | cons x M ih =>
    have h1 : L ++ x :: M = (L ++ [x]) ++ M := by simp
    have h2 : x :: M = [x] ++ M := rfl
    rw [h1, ih, beVal_snoc, h2, ih [x]]
    have h3 : beVal [x] = x := by simp [beVal]
    rw [h3, List.length_append, List.length_singleton, Nat.add_comm 1, Int.pow_succ, Int.add_mul, Int.mul_assoc, Int.mul_comm 256]
    omega
theorem beVal_be (n : Int) (hn : 0 ≤ n) : ∀ k, beVal (be n k) = n % 256 ^ k
  | 0 => by simp [be, beVal]
  | k + 1 => by
    have h1 : be n (k + 1) = [n / 256 ^ k % 256] ++ be n k := rfl
    rw [h1, beVal_app, be_length, beVal_be n hn k]
    have h3 : beVal [n / 256 ^ k % 256] = n / 256 ^ k % 256 := by simp [beVal]
    rw [h3, Int.pow_succ]
    have hp : (0 : Int) < 256 ^ k := Int.pow_pos (by decide)
    obtain ⟨N, rfl⟩ := Int.eq_ofNat_of_zero_le hn
    have h := Nat.mod_mul (x := N) (a := 256 ^ k) (b := 256)
    have h2 : ((N % (256 ^ k * 256) : Nat) : Int) = ((N % 256 ^ k + 256 ^ k * (N / 256 ^ k % 256) : Nat) : Int) := by rw [h]
    simp only [Int.natCast_add, Int.natCast_mul, Int.natCast_emod, Int.natCast_ediv, Int.natCast_pow] at h2
    rw [Int.mul_comm, Int.add_comm]
    exact h2.symm
theorem stU_be (n : Int) (k : Nat) (h1 : 1 ≤ k) (h8 : k ≤ 8) (h0 : 0 ≤ n) (hn : n < 256 ^ k) (M : List Int) : stU (some (be n k ++ M)) k = (n, some M) := by
  unfold stU
  simp only
  rw [if_neg (by rw [List.length_append, be_length]; omega)]
  have e1 : (be n k ++ M).take (k : Int).toNat = be n k := by
    rw [Int.toNat_natCast, List.take_append_of_le_length (by rw [be_length]; omega), List.take_of_length_le (by rw [be_length]; omega)]
  have e2 : (be n k ++ M).drop (k : Int).toNat = M := by
    rw [Int.toNat_natCast, List.drop_append_of_le_length (by rw [be_length]; omega), List.drop_eq_nil_of_le (by rw [be_length]; omega)]; rfl
  rw [e1, e2, beVal_be n h0, Int.emod_eq_of_lt h0 hn]
theorem be_beVal : ∀ (L : List Int), Oct L → be (beVal L) L.length = L := by
  intro L
  induction L with
  | nil => intro _; rfl
  | cons x L ih =>
    intro hO
    have hx := hO x (by simp)
    have hb := beVal_bd L.length L (fun y hy => hO y (by simp [hy])) rfl
    have hp : (0 : Int) < 256 ^ L.length := Int.pow_pos (by decide)
    have e : beVal (x :: L) = x * 256 ^ L.length + beVal L := by
      have := beVal_app [x] L
      have h3 : beVal [x] = x := by simp [beVal]
      rw [h3] at this
      exact this
    have key : ∀ k, k ≤ L.length → be (x * 256 ^ L.length + beVal L) k = be (beVal L) k := by
      intro k hk
      induction k with
      | zero => rfl
      | succ k ih2 =>
        unfold be
        rw [ih2 (by omega)]
        congr 1
        obtain ⟨d, hd⟩ : ∃ d, L.length = k + 1 + d := ⟨L.length - (k + 1), by omega⟩
        have hpk : (0 : Int) < 256 ^ k := Int.pow_pos (by decide)
        have e2 : x * 256 ^ L.length + beVal L = beVal L + (x * 256 ^ d * 256) * 256 ^ k := by
          rw [hd, Int.pow_add, Int.pow_add, Int.pow_succ, Int.pow_zero, Int.one_mul, Int.add_comm]
          congr 1
          rw [Int.mul_comm (256 ^ k * 256) (256 ^ d), Int.mul_assoc x, Int.mul_assoc x, Int.mul_assoc (256 ^ d), Int.mul_comm 256 (256 ^ k)]
        rw [e2, Int.add_mul_ediv_right _ _ (by omega)]
        omega
    rw [List.length_cons, e]
    unfold be
    rw [key L.length (Nat.le_refl _), ih (fun y hy => hO y (by simp [hy]))]
    congr 1
    rw [Int.add_comm, Int.add_mul_ediv_right _ _ (by omega), Int.ediv_eq_zero_of_lt hb.1 hb.2]
    omega
theorem oct_take {L : List Int} (h : Oct L) (k : Nat) : Oct (L.take k) := fun x hx => h x (List.mem_of_mem_take hx)
theorem oct_drop {L : List Int} (h : Oct L) (k : Nat) : Oct (L.drop k) := fun x hx => h x (List.mem_of_mem_drop hx)
theorem stU_sound {L M : List Int} {z : Nat} {zi v : Int} (hO : Oct L) (h : stU (some L) zi = (v, some M)) (hzi : (z : Int) = zi := by rfl) : L = be v z ++ M ∧ 0 ≤ v ∧ v < 256 ^ z ∧ Oct M := by
  subst hzi
  unfold stU at h
  simp only at h
  split at h
  · cases h
  · rename_i hz
    obtain ⟨h1, h2⟩ := Prod.mk.inj h
    cases h2
    subst h1
    rw [Int.toNat_natCast]
    have hl : (L.take z).length = z := by rw [List.length_take]; omega
    have hb := be_beVal (L.take z) (oct_take hO z)
    rw [hl] at hb
    have hbd := beVal_bd z (L.take z) (oct_take hO z) hl
    rw [hb, List.take_append_drop]
    exact ⟨rfl, hbd.1, hbd.2, oct_drop hO z⟩
theorem stI_sound {L M : List Int} {n : Int} (hO : Oct L) (h : stI (some L) = (n, some M)) : L = vI n ++ M ∧ (-9223372036854775808 ≤ n ∧ n ≤ 9223372036854775807) ∧ Oct M := by
  unfold stI at h
  simp only at h
  split at h
  · cases h
  · rename_i hk
    obtain ⟨h1, h2⟩ := Prod.mk.inj h
    cases h2
    have hs := tkI_sound L (tkI L).1 (tkI L).2 hO rfl hk
    rw [h1] at hs
    refine ⟨?_, ⟨hs.2.1, hs.2.2.1⟩, oct_drop hO _⟩
    unfold vI
    rw [← hs.1, List.take_append_drop]
theorem stI_vn (n : Int) (h0 : -9223372036854775808 ≤ n) (h1 : n ≤ 9223372036854775807) (M : List Int) : stI (some (vI n ++ M)) = (n, some M) := by
  unfold stI
  have h := tkI_vn n h0 h1 M
  have hp := vn_pos (zz n).toNat
  simp only
  unfold vI
  rw [h]
  simp only
  rw [if_neg (by omega), List.drop_append_of_le_length (Nat.le_refl _), List.drop_length]; rfl
theorem tkC_of {L : List Int} {most n : Int} {k : Nat} (h : tkI L = (n, k)) (hk : k ≠ 0) (h0 : 0 ≤ n) (h1 : n ≤ most) : tkC L most = (n, k) := by
  unfold tkC
  rw [h]
  simp only
  rw [if_neg (by omega)]
theorem stC_sound {L M : List Int} {n most : Int} (hO : Oct L) (h : stC (some L) most = (n, some M)) : L = vI n ++ M ∧ (0 ≤ n ∧ n ≤ most) ∧ Oct M := by
  unfold stC at h
  simp only at h
  split at h
  · cases h
  · rename_i hk
    obtain ⟨h1, h2⟩ := Prod.mk.inj h
    cases h2
    have hy := tkC_yes (n := (tkC L most).1) (k := (tkC L most).2) rfl hk
    have hs := tkI_sound L _ _ hO hy.1 hk
    rw [h1] at hs hy
    refine ⟨?_, hy.2, oct_drop hO _⟩
    unfold vI
    rw [← hs.1, List.take_append_drop]
theorem stC_vn (n most : Int) (h0 : 0 ≤ n) (h1 : n ≤ most) (h2 : n ≤ 9223372036854775807) (M : List Int) : stC (some (vI n ++ M)) most = (n, some M) := by
  unfold stC
  have hp := vn_pos (zz n).toNat
  have h := tkC_of (most := most) (tkI_vn n (by omega) h2 M) (by omega) h0 h1
  simp only
  unfold vI
  rw [h]
  simp only
  rw [if_neg (by omega), List.drop_append_of_le_length (Nat.le_refl _), List.drop_length]; rfl
theorem stB_sound {L M B : List Int} {most : Int} (hO : Oct L) (h : stB (some L) most = (B, some M)) : L = vB B ++ M ∧ (B.length : Int) ≤ most ∧ Oct B ∧ Oct M := by
  unfold stB at h
  simp only at h
  split at h
  · cases h
  · rename_i hk
    obtain ⟨h1, h2⟩ := Prod.mk.inj h
    cases h2
    obtain ⟨n, k, hc⟩ : ∃ n k, tkC L most = (n, k) := ⟨_, _, rfl⟩
    unfold tkB at hk h1 ⊢
    rw [hc] at hk h1 ⊢
    simp only at hk h1 ⊢
    split at hk
    · exact absurd rfl hk
    · rename_i hc2
      rw [if_neg hc2] at h1 ⊢
      simp only at h1 ⊢
      have hk0 : k ≠ 0 := by omega
      have hy := tkC_yes hc hk0
      have hs := tkI_sound L _ _ hO hy.1 hk0
      have hl : (n.toNat : Int) = n := by omega
      have hBl : B.length = n.toNat := by rw [← h1, List.length_take, List.length_drop]; omega
      refine ⟨?_, by rw [hBl]; omega, by rw [← h1]; exact oct_take (oct_drop hO _) _, oct_drop hO _⟩
      unfold vB vI
      rw [hBl, hl, ← hs.1, ← h1, List.append_assoc, ← List.drop_drop, List.take_append_drop, List.take_append_drop]
theorem stB_vb (B : List Int) (most : Int) (h1 : (B.length : Int) ≤ most) (h2 : (B.length : Int) ≤ 9223372036854775807) (M : List Int) : stB (some (vB B ++ M)) most = (B, some M) := by
  have hp := vn_pos (zz (B.length : Int)).toNat
  have h := tkC_of (most := most) (tkI_vn (B.length : Int) (by omega) h2 (B ++ M)) (by omega) (by omega) h1
  have e : tkB (vB B ++ M) most = (B, (vn (zz (B.length : Int)).toNat).length + B.length) := by
    unfold tkB vB vI
    rw [List.append_assoc, h]
    simp only
    rw [if_neg (by simp only [List.length_append]; omega), List.drop_append_of_le_length (Nat.le_refl _), List.drop_length, Int.toNat_natCast, List.nil_append, List.take_append_of_le_length (Nat.le_refl _), List.take_length]
  unfold stB
  simp only
  rw [e]
  simp only
  rw [if_neg (by omega)]
  congr 2
  unfold vB vI
  rw [← List.drop_drop, List.append_assoc, List.drop_append_of_le_length (Nat.le_refl _), List.drop_length, List.nil_append, List.drop_append_of_le_length (Nat.le_refl _), List.drop_length]; rfl
theorem gapsRd_sound : ∀ (n : Nat) {L M : List Int} {G : List Gp}, Oct L → gapsRd n (some L) = (G, some M) → L = gapsE G ++ M ∧ G.length = n ∧ Oct M
  | 0, L, M, G, hO, h => by
    unfold gapsRd at h
    obtain ⟨h1, h2⟩ := Prod.mk.inj h
    cases h2; subst h1
    exact ⟨rfl, rfl, hO⟩
  | n + 1, L, M, G, hO, h => by
    unfold gapsRd at h
    obtain ⟨h1, h2⟩ := Prod.mk.inj h
    cases ha : stI (some L) with
    | mk a sa =>
    cases sa with
    | none =>
      rw [ha] at h2
      have : ∀ k, (gapsRd k none).2 = none := by
        intro k; induction k with
        | zero => rfl
        | succ k ih => exact ih
      rw [show (stI (none : RS)).2 = none from rfl, this] at h2; cases h2
    | some La =>
      obtain ⟨e1, _, o1⟩ := stI_sound hO ha
      rw [ha] at h1 h2
      simp only at h1 h2
      cases hb : stI (some La) with
      | mk b sb =>
      cases sb with
      | none =>
        rw [hb] at h2
        have : ∀ k, (gapsRd k none).2 = none := by
          intro k; induction k with
          | zero => rfl
          | succ k ih => exact ih
        rw [this] at h2; cases h2
      | some Lb =>
        obtain ⟨e2, _, o2⟩ := stI_sound o1 hb
        rw [hb] at h1 h2
        simp only at h1 h2
        cases hg : gapsRd n (some Lb) with
        | mk G' s' =>
        rw [hg] at h1 h2
        simp only at h1 h2
        subst h2
        obtain ⟨e3, e4, o3⟩ := gapsRd_sound n o2 hg
        subst h1
        refine ⟨?_, by simp [e4], o3⟩
        rw [e1, e2, e3]
        simp [gapsE]
theorem gapsRd_gapsE : ∀ (G : List Gp) (M : List Int), (∀ g ∈ G, (-9223372036854775808 ≤ g.f ∧ g.f ≤ 9223372036854775807) ∧ -9223372036854775808 ≤ g.t ∧ g.t ≤ 9223372036854775807) → gapsRd G.length (some (gapsE G ++ M)) = (G, some M)
  | [], M, _ => rfl
  | g :: G, M, h => by
    have hg := h g (by simp)
    have ih := gapsRd_gapsE G M (fun x hx => h x (by simp [hx]))
    have e : gapsE (g :: G) ++ M = vI g.f ++ (vI g.t ++ (gapsE G ++ M)) := by simp [gapsE]
    rw [e, List.length_cons, gapsRd, stI_vn g.f hg.1.1 hg.1.2]
    simp only
    rw [stI_vn g.t hg.2.1 hg.2.2]
    simp only
    rw [ih]
theorem stU_none (z : Int) : stU none z = (0, none) := rfl
theorem stI_none : stI none = (0, none) := rfl
theorem stC_none (z : Int) : stC none z = (0, none) := rfl
theorem stB_none (z : Int) : stB none z = ([], none) := rfl
theorem stU_some {s : RS} {z : Int} {M : List Int} (h : (stU s z).2 = some M) : ∃ L, s = some L := by
  cases s with
  | none => cases h
  | some L => exact ⟨L, rfl⟩
theorem stI_some {s : RS} {M : List Int} (h : (stI s).2 = some M) : ∃ L, s = some L := by
  cases s with
  | none => cases h
  | some L => exact ⟨L, rfl⟩
theorem stC_some {s : RS} {z : Int} {M : List Int} (h : (stC s z).2 = some M) : ∃ L, s = some L := by
  cases s with
  | none => cases h
  | some L => exact ⟨L, rfl⟩
theorem stB_some {s : RS} {z : Int} {M : List Int} (h : (stB s z).2 = some M) : ∃ L, s = some L := by
  cases s with
  | none => cases h
  | some L => exact ⟨L, rfl⟩
theorem gapsRd_some {s : RS} {M : List Int} : ∀ {n : Nat}, (gapsRd n s).2 = some M → ∃ L, s = some L := by
  intro n h
  cases s with
  | some L => exact ⟨L, rfl⟩
  | none =>
    have : ∀ k, (gapsRd k none).2 = none := by
      intro k; induction k with
      | zero => rfl
      | succ k ih => exact ih
    rw [this] at h; cases h
theorem pair_eta {α β : Type} (x : α × β) {b : β} (h : x.2 = b) : x = (x.1, b) := by cases x; cases h; rfl
/-- the body read is the body written -/
theorem fldB_sound {p0 p : Pd} {L M : List Int} (hz : p0 = zeroP p0.kind p0.src p0.num) (hO : Oct L) (h : fldB p0 (some L) = (p, some M)) : L = bodyE p ++ M ∧ p.kind = p0.kind ∧ p.src = p0.src ∧ p.num = p0.num := by
  unfold fldB at h
  split at h
  · rename_i hk
    obtain ⟨rfl, h2⟩ := Prod.mk.inj h
    obtain ⟨L2, e2⟩ := stB_some h2
    obtain ⟨L1, e1⟩ := stI_some e2
    obtain ⟨a1, _, _, o1⟩ := stU_sound (z := 1) hO (pair_eta _ e1)
    rw [e1] at e2 h2 ⊢
    obtain ⟨a2, _, o2⟩ := stI_sound o1 (pair_eta _ e2)
    rw [e2] at h2 ⊢
    obtain ⟨a3, _, _, _⟩ := stB_sound o2 (pair_eta _ h2)
    refine ⟨?_, rfl, rfl, rfl⟩
    unfold bodyE
    simp only [hk, if_true]
    rw [List.append_assoc, List.append_assoc, ← a3, ← a2]
    exact a1
  split at h
  · rename_i hk1 hk
    obtain ⟨rfl, h2⟩ := Prod.mk.inj h
    obtain ⟨L1, e1⟩ := stB_some h2
    obtain ⟨a1, _, o1⟩ := stI_sound hO (pair_eta _ e1)
    rw [e1] at h2 ⊢
    obtain ⟨a2, _, _, _⟩ := stB_sound o1 (pair_eta _ h2)
    refine ⟨?_, rfl, rfl, rfl⟩
    unfold bodyE
    simp only [hk, if_true]
    rw [if_neg (by decide), List.append_assoc, ← a2]
    exact a1
  split at h
  · rename_i hk1 hk2 hk
    obtain ⟨rfl, h2⟩ := Prod.mk.inj h
    obtain ⟨L3, e3⟩ := stU_some h2
    obtain ⟨L2, e2⟩ := stU_some e3
    obtain ⟨L1, e1⟩ := stI_some e2
    obtain ⟨a1, _, _, o1⟩ := stU_sound (z := 1) hO (pair_eta _ e1)
    rw [e1] at e2 e3 h2 ⊢
    obtain ⟨a2, _, o2⟩ := stI_sound o1 (pair_eta _ e2)
    rw [e2] at e3 h2 ⊢
    obtain ⟨a3, _, _, o3⟩ := stU_sound (z := 4) o2 (pair_eta _ e3)
    rw [e3] at h2 ⊢
    obtain ⟨a4, _, _, _⟩ := stU_sound (z := 1) o3 (pair_eta _ h2)
    refine ⟨?_, rfl, rfl, rfl⟩
    unfold bodyE
    simp only [hk, if_true]
    rw [if_neg (by decide), if_neg (by decide), List.append_assoc, List.append_assoc, List.append_assoc, ← a4, ← a3, ← a2]
    exact a1
  split at h
  · rename_i hk1 hk2 hk3 hk
    obtain ⟨rfl, h2⟩ := Prod.mk.inj h
    obtain ⟨L1, e1⟩ := gapsRd_some h2
    obtain ⟨a1, b1, o1⟩ := stC_sound hO (pair_eta _ e1)
    rw [e1] at h2 ⊢
    obtain ⟨a2, b2, _⟩ := gapsRd_sound _ o1 (pair_eta _ h2)
    refine ⟨?_, rfl, rfl, rfl⟩
    unfold bodyE
    simp only [hk, if_true]
    rw [if_neg (by decide), if_neg (by decide), if_neg (by decide), List.append_assoc, ← a2, b2, Int.toNat_of_nonneg b1.1]
    exact a1
  split at h
  · rename_i hk1 hk2 hk3 hk4 hk
    obtain ⟨rfl, h2⟩ := Prod.mk.inj h
    obtain ⟨a1, _, _, _⟩ := stU_sound (z := 1) hO (pair_eta _ h2)
    refine ⟨?_, rfl, rfl, rfl⟩
    unfold bodyE
    simp only [hk, if_true]
    rw [if_neg (by decide), if_neg (by decide), if_neg (by decide), if_neg (by decide)]
    exact a1
  · rename_i hk1 hk2 hk3 hk4 hk5
    obtain ⟨rfl, h2⟩ := Prod.mk.inj h
    cases h2
    refine ⟨?_, rfl, rfl, rfl⟩
    unfold bodyE
    rw [if_neg hk1, if_neg hk2, if_neg hk3, if_neg hk4, if_neg hk5]
    rfl
theorem fldB_some {p0 : Pd} {s : RS} {M : List Int} (h : (fldB p0 s).2 = some M) : ∃ L, s = some L := by
  unfold fldB at h
  split at h
  · obtain ⟨_, e⟩ := stB_some h; obtain ⟨_, e⟩ := stI_some e; exact stU_some e
  split at h
  · obtain ⟨_, e⟩ := stB_some h; exact stI_some e
  split at h
  · obtain ⟨_, e⟩ := stU_some h; obtain ⟨_, e⟩ := stU_some e; obtain ⟨_, e⟩ := stI_some e; exact stU_some e
  split at h
  · obtain ⟨_, e⟩ := gapsRd_some h; exact stC_some e
  split at h
  · exact stU_some h
  · exact ⟨M, h⟩
theorem fld_sound {p : Pd} {L M : List Int} (hO : Oct L) (h : fld (some L) = (p, some M)) : L = encP p ++ M := by
  unfold fld at h
  have h2 : (fldB (fldH (some L)).1 (fldH (some L)).2).2 = some M := by rw [h]
  obtain ⟨L3, e3⟩ := fldB_some h2
  have e3' : (stU (stU (stU (some L) 1).2 1).2 2).2 = some L3 := e3
  obtain ⟨L2, e2⟩ := stU_some e3'
  obtain ⟨L1, e1⟩ := stU_some e2
  obtain ⟨a1, _, _, o1⟩ := stU_sound (z := 1) hO (pair_eta _ e1)
  rw [e1] at e2 e3'
  obtain ⟨a2, _, _, o2⟩ := stU_sound (z := 1) o1 (pair_eta _ e2)
  rw [e2] at e3'
  obtain ⟨a3, _, _, o3⟩ := stU_sound (z := 2) o2 (pair_eta _ e3')
  rw [e3] at h
  obtain ⟨b1, b2, b3, b4⟩ := fldB_sound rfl o3 h
  unfold encP headE
  rw [b2, b3, b4]
  simp only [fldH, zeroP]
  rw [e1, e2, List.append_assoc, List.append_assoc, List.append_assoc, ← b1, ← a3, ← a2]
  exact a1
theorem enc_pos (p : Pd) : encP p ≠ [] := by
  unfold encP headE
  simp [be]
/-- both ways to decode -/
theorem dec_eq {L : List Int} (hO : Oct L) : decP L = rdecP L := by
  unfold decP rdecP
  cases hf : fld (some L) with
  | mk p s =>
  cases s with
  | none => rfl
  | some M =>
    have hs := fld_sound hO hf
    have e : endS (some M) = decide (encP p = L) := by
      unfold endS
      apply decide_eq_decide.2
      constructor
      · intro h; rw [hs, h, List.append_nil]
      · intro h
        have h3 : (encP p).length = L.length := by rw [h]
        rw [hs, List.length_append] at h3
        exact List.length_eq_zero_iff.1 (by omega)
    simp only [Option.isSome_some, Bool.true_and]
    rw [e, Bool.and_comm]
theorem decP_some {L : List Int} {p : Pd} (hO : Oct L) (h : decP L = some p) : validP p = true ∧ encP p = L := by
  rw [dec_eq hO] at h
  unfold rdecP at h
  split at h
  · rename_i hc
    cases h
    simp only [Bool.and_eq_true, decide_eq_true_eq] at hc
    exact hc.2
  · cases h
end Go.Proofs.Ytijionfhnoffcaa
