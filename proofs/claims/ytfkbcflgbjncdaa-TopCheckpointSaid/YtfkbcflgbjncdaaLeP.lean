/- The ledger: its records, plainly. -/
import Derived.Test.YtfkbcflgbjncdaaOctW
namespace Go.Proofs.Ytfkbcflgbjncdaa
set_option linter.unusedVariables false
set_option linter.unusedSimpArgs false
open Go.RowKit
/-- what is kept of a source -/
structure Rc where
  n : Int
  m : Int
def RcOk (r : Rc) : Prop := (0 ≤ r.n ∧ r.n ≤ 65535) ∧ 0 ≤ r.m ∧ r.m < 18446744073709551616
def bitAt (m : Int) (k : Nat) : Bool := m / 2 ^ k % 2 == 1
def seenB (r : Rc) (n : Int) : Bool := decide (64 ≤ r.n - n) || (decide (0 ≤ r.n - n) && bitAt r.m (r.n - n).toNat)
/-- shifted to the left -/
def shlU (m : Int) (d : Nat) : Int := m * 2 ^ d % 18446744073709551616
def orU (a b : Int) : Int := bits .or .u64 a b
def markR (r : Rc) (n : Int) : Rc := if r.n < n then ⟨n, orU (shlU r.m (n - r.n).toNat) 1⟩ else ⟨r.n, orU r.m (2 ^ (r.n - n).toNat)⟩
def okN (n : Int) : Bool := decide (1 ≤ n) && decide (n ≤ 65535)
def okS (s : Int) : Bool := decide (0 ≤ s) && decide (s < 16)
/-- the cells of a ledger -/
def rcells (r : Rc) : List Value := [.int .i64 r.n, .int .u64 r.m]
def lcells (L : List Rc) : List Value := .bool true :: L.flatMap rcells
theorem flat_at : ∀ (L : List Rc) (i : Nat) (r : Rc), L[i]? = some r → (L.flatMap rcells)[2 * i]? = some (.int .i64 r.n) ∧ (L.flatMap rcells)[2 * i + 1]? = some (.int .u64 r.m)
  | [], i, r, h => by simp at h
  | x :: L, 0, r, h => by
    simp at h; subst h
    simp [rcells]
  | x :: L, i + 1, r, h => by
    have := flat_at L i r (by simpa using h)
    have e : 2 * (i + 1) = 2 * i + 1 + 1 := by omega
    simp only [List.flatMap_cons, rcells, e]
    exact this
theorem flat_len2 : ∀ (L : List Rc), (L.flatMap rcells).length = 2 * L.length
  | [] => rfl
  | x :: L => by
    have := flat_len2 L
    simp only [List.flatMap_cons, rcells, List.length_append, List.length_cons, List.length_nil, this]
    omega
theorem flat_set : ∀ (L : List Rc) (i : Nat) (r r' : Rc), L[i]? = some r → 
    ((L.flatMap rcells).set (2 * i) (.int .i64 r'.n)).set (2 * i + 1) (.int .u64 r'.m) = (L.set i r').flatMap rcells
  | [], i, r, r', h => by simp at h
  | x :: L, 0, r, r', h => by simp [rcells]
  | x :: L, i + 1, r, r', h => by
    have := flat_set L i r r' (by simpa using h)
    have e : 2 * (i + 1) = 2 * i + 1 + 1 := by omega
    simp only [List.flatMap_cons, rcells, e, List.set_cons_succ, List.cons_append, List.nil_append]
    rw [this]
theorem lcells_at {L : List Rc} {i : Nat} {r : Rc} (h : L[i]? = some r) : (lcells L)[2 * i + 1]? = some (.int .i64 r.n) ∧ (lcells L)[2 * i + 2]? = some (.int .u64 r.m) := by
  have := flat_at L i r h
  exact ⟨by simpa [lcells] using this.1, by simpa [lcells] using this.2⟩
theorem lcells_set {L : List Rc} {i : Nat} {r : Rc} (r' : Rc) (h : L[i]? = some r) :
    ((lcells L).set (2 * i + 1) (.int .i64 r'.n)).set (2 * i + 2) (.int .u64 r'.m) = lcells (L.set i r') := by
  have := flat_set L i r r' h
  simp only [lcells, List.set_cons_succ]
  rw [this]
theorem lcells_size {L : List Rc} (h : L.length = 16) : (lcells L).toArray.size = 33 := by
  have := flat_len2 L
  rw [List.size_toArray, lcells, List.length_cons, this]
  omega
/-- a ledger at block g -/
def Led (w : World) (g : Nat) (L : List Rc) : Prop := L.length = 16 ∧ Blk w g 100 (lcells L).toArray ∧ ∀ r ∈ L, RcOk r
theorem Led.lt {w : World} {g : Nat} {L : List Rc} (h : Led w g L) : g < w.heap.size := h.2.1.lt
theorem Led.keepS {w w' : World} {g : Nat} {L : List Rc} {S : List Nat} (h : Led w g L) (k : Keep w.heap.size S w w') (hg : g ∉ S) : Led w' g L := ⟨h.1, h.2.1.keepS k hg, h.2.2⟩
theorem Led.alloc {w : World} {g : Nat} {L : List Rc} (h : Led w g L) (o : Obj) : Led (w.alloc o) g L := ⟨h.1, h.2.1.alloc o, h.2.2⟩
theorem Led.drew {w : World} {g : Nat} {L : List Rc} (h : Led w g L) : Led w.drew g L := h
theorem Led.cells {w : World} {g : Nat} {L : List Rc} (h : Led w g L) {i : Nat} {r : Rc} (hr : L[i]? = some r) :
    w.cell? ⟨g, 2 * i + 1, none⟩ = some (.int .i64 r.n) ∧ w.cell? ⟨g, 2 * i + 2, none⟩ = some (.int .u64 r.m) := by
  have := lcells_at hr
  exact ⟨(h.2.1.cell _).trans (by simpa using this.1), (h.2.1.cell _).trans (by simpa using this.2)⟩
theorem Led.at1 {w : World} {g : Nat} {L : List Rc} (h : Led w g L) {i : Nat} {r : Rc} (hr : L[i]? = some r) :
    w.cell? ⟨g, 1 + i * 2, none⟩ = some (.int .i64 r.n) ∧ w.cell? ⟨g, 1 + i * 2 + 1, none⟩ = some (.int .u64 r.m) := by
  have := h.cells hr
  rw [show 1 + i * 2 = 2 * i + 1 by omega]
  exact this
/-- a record's two cells written -/
theorem Led.put {w : World} {g : Nat} {L : List Rc} (h : Led w g L) {i : Nat} {r : Rc} (r' : Rc) (hr : L[i]? = some r) (hok : RcOk r') {w' : World}
    (hb : Blk w' g 100 (((lcells L).toArray.setIfInBounds (1 + i * 2) (.int .i64 r'.n)).setIfInBounds (1 + i * 2 + 1) (.int .u64 r'.m))) : Led w' g (L.set i r') := by
  refine ⟨by simp [h.1], ?_, fun x hx => ?_⟩
  · have e := lcells_set r' hr
    rw [show 1 + i * 2 = 2 * i + 1 by omega] at hb
    simp only [List.setIfInBounds_toArray] at hb
    rw [e] at hb
    exact hb
  · rcases List.mem_or_eq_of_mem_set hx with hx | rfl
    · exact h.2.2 x hx
    · exact hok
theorem set_comm2 (cs : Array Value) (a b : Nat) (x y z : Value) (hab : a ≠ b) : ((cs.setIfInBounds b z).setIfInBounds a x).setIfInBounds b y = (cs.setIfInBounds a x).setIfInBounds b y := by
  apply Array.ext_getElem?
  intro i
  simp only [Array.getElem?_setIfInBounds]
  split <;> split <;> simp_all
theorem set_same (cs : Array Value) (a : Nat) (x : Value) (h : cs[a]? = some x) : cs.setIfInBounds a x = cs := by
  apply Array.ext_getElem?
  intro i
  simp only [Array.getElem?_setIfInBounds]
  split
  · rename_i e; subst e
    split
    · exact h.symm
    · rename_i h2; rw [Array.getElem?_eq_none (by omega)]
  · rfl
theorem Led.made {w : World} {g : Nat} {L : List Rc} (h : Led w g L) : w.cell? ⟨g, 0, none⟩ = some (.bool true) := (h.2.1.cell 0).trans (by simp [lcells])
theorem Led.at_ {w : World} {g : Nat} {L : List Rc} (h : Led w g L) {i : Nat} (hi : i < 16) : ∃ r, L[i]? = some r ∧ RcOk r :=
  ⟨L[i]'(by rw [h.1]; exact hi), List.getElem?_eq_getElem _, h.2.2 _ (List.getElem_mem _)⟩
def zeroL : List Rc := List.replicate 16 ⟨0, 0⟩

/-! ### numbers -/
theorem shlU_bd (m : Int) (d : Nat) : 0 ≤ shlU m d ∧ shlU m d < 18446744073709551616 := by unfold shlU; omega
theorem shlU_big (m : Int) (d : Nat) (h : 64 ≤ d) : shlU m d = 0 := by
  unfold shlU
  obtain ⟨k, rfl⟩ : ∃ k, d = 64 + k := ⟨d - 64, by omega⟩
  rw [Int.pow_add, ← Int.mul_assoc]
  have : m * 2 ^ 64 * 2 ^ k = 18446744073709551616 * (m * 2 ^ k) := by
    rw [Int.mul_comm m, Int.mul_assoc]; rfl
  rw [this]
  exact Int.mul_emod_right _ _
theorem orU_bd (a b : Int) (h0 : 0 ≤ a) (h1 : a < 18446744073709551616) (h2 : 0 ≤ b) (h3 : b < 18446744073709551616) : 0 ≤ orU a b ∧ orU a b < 18446744073709551616 := by
  obtain ⟨x, rfl⟩ := Int.eq_ofNat_of_zero_le h0
  obtain ⟨y, rfl⟩ := Int.eq_ofNat_of_zero_le h2
  unfold orU
  rw [u64_or_nat x y (by omega) (by omega)]
  have := Nat.or_lt_two_pow (n := 64) (x := x) (y := y) (by omega) (by omega)
  omega
theorem pow2_bd (k : Nat) (h : k < 64) : (0 : Int) ≤ 2 ^ k ∧ (2 : Int) ^ k < 18446744073709551616 := by
  have h1 : (2 : Nat) ^ k ≤ 2 ^ 63 := Nat.pow_le_pow_right (by decide) (by omega)
  have e : ((2 : Int) ^ k) = ((2 ^ k : Nat) : Int) := by simp
  obtain ⟨x, hx⟩ : ∃ x : Nat, 2 ^ k = x := ⟨_, rfl⟩
  rw [e, hx]
  rw [hx] at h1
  omega
theorem markR_ok {r : Rc} {n : Int} (h : RcOk r) (hn : okN n = true) (hs : seenB r n = false) : RcOk (markR r n) := by
  simp only [okN, Bool.and_eq_true, decide_eq_true_eq] at hn
  unfold markR
  split
  · have := shlU_bd r.m (n - r.n).toNat
    have := orU_bd (shlU r.m (n - r.n).toNat) 1 (by omega) (by omega) (by omega) (by omega)
    exact ⟨⟨by simp only; omega, by simp only; omega⟩, this⟩
  · have hd : r.n - n < 64 := by
      unfold seenB at hs
      simp only [Bool.or_eq_false_iff, decide_eq_false_iff_not] at hs
      omega
    have := pow2_bd (r.n - n).toNat (by omega)
    exact ⟨h.1, orU_bd _ _ h.2.1 h.2.2 this.1 this.2⟩
end Go.Proofs.Ytfkbcflgbjncdaa
