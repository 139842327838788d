/- The vault, plainly: the words of a copy. -/
import Derived.Test.YtfkbcflgbjncdaaVauA
namespace Go.Proofs.Ytfkbcflgbjncdaa
set_option linter.unusedVariables false
set_option linter.unusedSimpArgs false
/-- word j of the image, of its first i bytes -/
def pkw (b : List Int) (j : Nat) : Nat → Nat
  | 0 => 0
  | i + 1 => if i / 4 = j then pkw b j i ||| ((b[i]?.getD 0).toNat * 2 ^ (24 - 8 * (i % 4))) else pkw b j i
def bt (b : List Int) (i t : Nat) : Nat := if t < i then (b[t]?.getD 0).toNat else 0
theorem getD_oct {b : List Int} (hO : Oct b) (t : Nat) : 0 ≤ b[t]?.getD 0 ∧ b[t]?.getD 0 ≤ 255 := by
  cases h : b[t]? with
  | none => simp
  | some x => simpa using hO x (List.mem_of_getElem? h)
theorem bt_lt {b : List Int} (hO : Oct b) (i t : Nat) : bt b i t < 256 := by
  unfold bt
  have := getD_oct hO t
  split
  · omega
  · omega
theorem or_add (a y s : Nat) (h : y < 2 ^ s) : 2 ^ s * a ||| y = 2 ^ s * a + y := (Nat.two_pow_add_eq_or_of_lt h a).symm
theorem bt_ne {b : List Int} {i t : Nat} (h : t ≠ i) : bt b (i + 1) t = bt b i t := by
  unfold bt
  have : t < i + 1 ↔ t < i := by omega
  simp only [this]
theorem bt_eq (b : List Int) (i : Nat) : bt b (i + 1) i = (b[i]?.getD 0).toNat := by unfold bt; rw [if_pos (by omega)]
theorem bt_ge {b : List Int} {i t : Nat} (h : i ≤ t) : bt b i t = 0 := by unfold bt; rw [if_neg (by omega)]
theorem pkw_sum {b : List Int} (hO : Oct b) (j : Nat) : ∀ i, pkw b j i = bt b i (4 * j) * 16777216 + bt b i (4 * j + 1) * 65536 + bt b i (4 * j + 2) * 256 + bt b i (4 * j + 3)
  | 0 => by simp [pkw, bt]
  | i + 1 => by
    have ih := pkw_sum hO j i
    rw [pkw]
    have hx : (b[i]?.getD 0).toNat < 256 := by have := getD_oct hO i; omega
    have hb := bt_eq b i
    obtain ⟨x, hxx⟩ : ∃ x, x = (b[i]?.getD 0).toNat := ⟨_, rfl⟩
    rw [← hxx] at hx hb ⊢
    by_cases h : i / 4 = j
    · rw [if_pos h]
      rcases (by omega : i = 4 * j ∨ i = 4 * j + 1 ∨ i = 4 * j + 2 ∨ i = 4 * j + 3) with hi | hi | hi | hi
      · have e : 24 - 8 * (i % 4) = 24 := by omega
        rw [ih, e, bt_ge (t := 4 * j) (by omega), bt_ge (t := 4 * j + 1) (by omega), bt_ge (t := 4 * j + 2) (by omega), bt_ge (t := 4 * j + 3) (by omega)]
        rw [bt_ne (t := 4 * j + 1) (by omega), bt_ne (t := 4 * j + 2) (by omega), bt_ne (t := 4 * j + 3) (by omega), bt_ge (t := 4 * j + 1) (by omega), bt_ge (t := 4 * j + 2) (by omega), bt_ge (t := 4 * j + 3) (by omega), ← hi, hb]
        simp
      · have e : 24 - 8 * (i % 4) = 16 := by omega
        rw [ih, e, bt_ge (t := 4 * j + 1) (by omega), bt_ge (t := 4 * j + 2) (by omega), bt_ge (t := 4 * j + 3) (by omega)]
        rw [bt_ne (t := 4 * j) (by omega), bt_ne (t := 4 * j + 2) (by omega), bt_ne (t := 4 * j + 3) (by omega), bt_ge (t := 4 * j + 2) (by omega), bt_ge (t := 4 * j + 3) (by omega), ← hi, hb]
        have := or_add (bt b i (4 * j)) (x * 2 ^ 16) 24 (by omega)
        have e2 : bt b i (4 * j) * 16777216 + 0 * 65536 + 0 * 256 + 0 = 2 ^ 24 * bt b i (4 * j) := by omega
        rw [e2, this]; omega
      · have e : 24 - 8 * (i % 4) = 8 := by omega
        rw [ih, e, bt_ge (t := 4 * j + 2) (by omega), bt_ge (t := 4 * j + 3) (by omega)]
        rw [bt_ne (t := 4 * j) (by omega), bt_ne (t := 4 * j + 1) (by omega), bt_ne (t := 4 * j + 3) (by omega), bt_ge (t := 4 * j + 3) (by omega), ← hi, hb]
        have := or_add (bt b i (4 * j) * 256 + bt b i (4 * j + 1)) (x * 2 ^ 8) 16 (by omega)
        have e2 : bt b i (4 * j) * 16777216 + bt b i (4 * j + 1) * 65536 + 0 * 256 + 0 = 2 ^ 16 * (bt b i (4 * j) * 256 + bt b i (4 * j + 1)) := by omega
        rw [e2, this]; omega
      · have e : 24 - 8 * (i % 4) = 0 := by omega
        rw [ih, e, bt_ge (t := 4 * j + 3) (by omega)]
        rw [bt_ne (t := 4 * j) (by omega), bt_ne (t := 4 * j + 1) (by omega), bt_ne (t := 4 * j + 2) (by omega), ← hi, hb]
        have := or_add (bt b i (4 * j) * 65536 + bt b i (4 * j + 1) * 256 + bt b i (4 * j + 2)) (x * 2 ^ 0) 8 (by omega)
        have e2 : bt b i (4 * j) * 16777216 + bt b i (4 * j + 1) * 65536 + bt b i (4 * j + 2) * 256 + 0 = 2 ^ 8 * (bt b i (4 * j) * 65536 + bt b i (4 * j + 1) * 256 + bt b i (4 * j + 2)) := by omega
        rw [e2, this]; omega
    · rw [if_neg h, ih, bt_ne (t := 4 * j) (by omega), bt_ne (t := 4 * j + 1) (by omega), bt_ne (t := 4 * j + 2) (by omega), bt_ne (t := 4 * j + 3) (by omega)]
theorem pkw_lt {b : List Int} (hO : Oct b) (j i : Nat) : pkw b j i < 4294967296 := by
  rw [pkw_sum hO]
  have h0 := bt_lt hO i (4 * j); have h1 := bt_lt hO i (4 * j + 1); have h2 := bt_lt hO i (4 * j + 2); have h3 := bt_lt hO i (4 * j + 3)
  omega
theorem be4 (c0 c1 c2 c3 : Nat) (h0 : c0 < 256) (h1 : c1 < 256) (h2 : c2 < 256) (h3 : c3 < 256) : be ((c0 * 16777216 + c1 * 65536 + c2 * 256 + c3 : Nat) : Int) 4 = [(c0 : Int), (c1 : Int), (c2 : Int), (c3 : Int)] := by
  simp [be]
  omega
/-- how many words the bytes take -/
def nw (b : List Int) : Nat := (b.length + 3) / 4
def pks (b : List Int) : List Nat := (List.range (nw b)).map fun j => pkw b j b.length
theorem pks_len (b : List Int) : (pks b).length = nw b := by simp [pks]
/-- generation, length, bytes -/
def heads (g : Nat) (b : List Int) : List Nat := g :: b.length :: pks b
def wordsF (g : Nat) (b : List Int) : List Nat := heads g b ++ [crc (octW (heads g b))]
theorem octW_pks_at {b : List Int} (hO : Oct b) (t : Nat) (ht : t < 4 * nw b) : (octW (pks b))[t]? = some ((bt b b.length t : Nat) : Int) := by
  have key : ∀ (n s : Nat), (octW ((List.range' s n).map fun j => pkw b j b.length)) = (List.range' (4 * s) (4 * n)).map (fun t => ((bt b b.length t : Nat) : Int)) := by
    intro n
    induction n with
    | zero => intro s; rfl
    | succ n ih =>
      intro s
      have e1 : List.range' s (n + 1) = s :: List.range' (s + 1) n := rfl
      have e2 : List.range' (4 * s) (4 * (n + 1)) = 4 * s :: (4 * s + 1) :: (4 * s + 2) :: (4 * s + 3) :: List.range' (4 * (s + 1)) (4 * n) := by
        have : 4 * (n + 1) = 4 * n + 1 + 1 + 1 + 1 := by omega
        rw [this, List.range'_succ, List.range'_succ, List.range'_succ, List.range'_succ]
        rfl
      rw [e1, e2, List.map_cons]
      have e3 : ∀ (x : Nat) (l : List Nat), octW (x :: l) = be (x : Int) 4 ++ octW l := fun _ _ => rfl
      rw [e3, ih (s + 1), pkw_sum hO, be4 _ _ _ _ (bt_lt hO _ _) (bt_lt hO _ _) (bt_lt hO _ _) (bt_lt hO _ _)]
      rfl
  unfold pks
  rw [List.range_eq_range', key]
  simp [List.getElem?_range', ht]
/-- the bytes are found again -/
theorem octW_pks {b : List Int} (hO : Oct b) : (octW (pks b)).take b.length = b := by
  apply List.ext_getElem?
  intro t
  rw [List.getElem?_take]
  by_cases h : t < b.length
  · rw [if_pos h, octW_pks_at hO t (by unfold nw; omega)]
    unfold bt
    rw [if_pos h]
    have hx : b[t]? = some b[t] := List.getElem?_eq_getElem h
    rw [hx]
    have := hO b[t] (List.getElem_mem h)
    simp
    omega
  · rw [if_neg h, List.getElem?_eq_none (by omega)]
end Go.Proofs.Ytfkbcflgbjncdaa
