/- General lemmas over any program: blocks of many cells, stored and loaded whole. -/
import Derived.Test.YtfkbcflgbjncdaaLL
import Derived.Deep.MidRow
namespace Go.Proofs.Ytfkbcflgbjncdaa
set_option linter.unusedVariables false
set_option linter.unusedSimpArgs false
open Go.RowKit
theorem Blk.setCellsX {w : World} {g : Nat} {t : TypeId} : ∀ (vs : List Value) (o : Nat) (w : World) (cs : Array Value), Blk w g t cs → ∃ cs', Blk (w.setCells g o vs) g t cs' ∧ cs'.size = cs.size
  | [], o, w, cs, h => ⟨cs, h, rfl⟩
  | v :: vs, o, w, cs, h => by
    obtain ⟨cs', h1, h2⟩ := Blk.setCellsX (w := w) vs (o + 1) (w.setCell ⟨g, o, none⟩ v) _ (h.set_ o v)
    exact ⟨cs', h1, by rw [h2]; simp⟩
theorem Blk.there {w : World} {g : Nat} {t : TypeId} {cs : Array Value} (h : Blk w g t cs) (o n : Nat) (hn : o + n ≤ cs.size) : w.there g o n := fun j hj =>
  ⟨by rw [h.cell, Array.getElem?_eq_getElem (by omega)]; rfl, h.frozen _⟩
/-- a block written anew, whole -/
theorem Blk.setAll {w : World} {g : Nat} {t : TypeId} {cs vs : Array Value} (h : Blk w g t cs) (hs : vs.size = cs.size) : Blk (w.setCells g 0 vs.toList) g t vs := by
  obtain ⟨cs', h1, h2⟩ := Blk.setCellsX (w := w) vs.toList 0 w cs h
  have hr := World.rangeAt_setCells_same w g 0 vs.toList (h.there 0 _ (by simp [hs]))
  have e : cs' = vs := by
    apply Array.ext_getElem?
    intro i
    by_cases hi : i < vs.size
    · have h3 := hr i vs[i] (by simp [hi])
      rw [Nat.zero_add, h1.cell] at h3
      rw [h3, Array.getElem?_eq_getElem hi]
    · rw [Array.getElem?_eq_none (by omega), Array.getElem?_eq_none (by omega)]
  exact e ▸ h1
theorem Keep.setCells {B : Nat} {S : List Nat} {w : World} {g : Nat} (hg : B ≤ g ∨ g ∈ S) : ∀ (vs : List Value) (o : Nat) (w' : World), Keep B S w w' → Keep B S w (w'.setCells g o vs)
  | [], o, w', h => h
  | v :: vs, o, w', h => Keep.setCells hg vs (o + 1) _ (h.setCell (p := ⟨g, o, none⟩) hg v)
theorem Blk.range {w : World} {g : Nat} {t : TypeId} {cs : Array Value} (h : Blk w g t cs) : w.rangeAt g 0 cs.toList := fun j v hv => by
  rw [Nat.zero_add, h.cell]; simpa using hv
/-- an element of an array of structs, by value -/
theorem run_index_row (P : Program) (w : World) (t e : TypeId) (n sz : Nat) (fs : Array Field) (i : TypeInfo) (cs : Array Value) (k : Nat) (hk : k < n) (ht : P.underlying t = some (.array n e)) (he : P.underlying e = some (.struct fs)) (hi : P.info? e = some i) (hsz : i.size = sz) :
    (Instr.index t (.agg cs) (.int .i64 (k : Int))).run P w = .ok (.agg (cs.extract (k * sz) (k * sz + sz))) w := by
  have h1 : (0 : Int) ≤ (k : Int) ∧ (k : Int) < (n : Int) := by omega
  simp [Instr.index, run_underlying ht, asIntOf, h1, part, isAgg, run_underlying he, sizeOf, typeInfo, hi, hsz, hk]
section
variable {α : Type} (f : α → List Value) (n : Nat) (hf : ∀ r, (f r).length = n)
include hf
theorem flat_length : ∀ L : List α, (L.flatMap f).length = L.length * n
  | [] => by simp
  | x :: L => by rw [List.flatMap_cons, List.length_append, flat_length L, hf x, List.length_cons, Nat.add_mul, Nat.one_mul, Nat.add_comm]
theorem flat_get : ∀ (L : List α) (k : Nat) (r : α) (j : Nat), L[k]? = some r → j < n → (L.flatMap f)[k * n + j]? = (f r)[j]?
  | [], k, r, j, h, _ => by simp at h
  | x :: L, 0, r, j, h, hj => by
    simp at h; subst h
    rw [List.flatMap_cons, Nat.zero_mul, Nat.zero_add, List.getElem?_append_left (by rw [hf]; exact hj)]
  | x :: L, k + 1, r, j, h, hj => by
    rw [List.flatMap_cons, List.getElem?_append_right (by rw [hf, Nat.add_mul]; omega), hf, show (k + 1) * n + j - n = k * n + j by rw [Nat.add_mul]; omega]
    exact flat_get L k r j (by simpa using h) hj
theorem flat_ext (L : List α) (k : Nat) (r : α) (h : L[k]? = some r) : (L.flatMap f).toArray.extract (k * n) (k * n + n) = (f r).toArray := by
  have hk : k < L.length := (List.getElem?_eq_some_iff.1 h).1
  have hsz : (L.flatMap f).toArray.size = L.length * n := by rw [List.size_toArray, flat_length f n hf]
  have hle : k * n + n ≤ L.length * n := by
    have := Nat.mul_le_mul_right n (show k + 1 ≤ L.length by omega)
    rw [Nat.add_mul] at this; omega
  apply Array.ext_getElem?
  intro i
  rw [Array.getElem?_extract]
  by_cases hi : i < n
  · rw [if_pos (by rw [hsz]; omega)]
    simpa using flat_get f n hf L k r i h hi
  · rw [if_neg (by rw [hsz]; omega), Array.getElem?_eq_none (by simp [hf]; omega)]
end
end Go.Proofs.Ytfkbcflgbjncdaa
