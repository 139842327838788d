/- Encoding: what both ways share. -/
import Derived.Test.YtijionfhnoffcaaPWalkF
import Derived.Test.YtijionfhnoffcaaPWalkC
import Derived.Laws.IdiomStrings
namespace Go.Proofs.Ytijionfhnoffcaa
set_option linter.unusedVariables false
set_option linter.unusedSimpArgs false
open Go.RowKit
def AV (w wr : World) (A : Option Addr) (n c : Nat) (L : List Int) : Prop := Sl wr 5 1 A n c (octs L) ∧ Keep w.heap.size [] w wr ∧ ∀ x, x ∈ blks A → w.heap.size ≤ x
theorem AV.add {w wr w1 w3 : World} {A A2 : Option Addr} {n n' c c2 : Nat} {L L' : List Int} (h : AV w wr A n c L) (hk : Keep wr.heap.size [] wr w1) (hs3 : Sl w3 5 1 A2 (n + n') c2 (octs L ++ octs L')) (hk3 : Keep w1.heap.size (blks A) w1 w3) (hb3 : ∀ g, g ∈ blks A2 → g ∈ blks A ∨ g = w1.heap.size) : AV w w3 A2 (n + n') c2 (L ++ L') := by
  refine ⟨by simpa [octs] using hs3, (h.2.1.chain0 (Nat.le_refl _) hk).chain (Nat.le_refl _) hk3 h.2.2, fun x hx => ?_⟩
  rcases hb3 x hx with h' | h'
  · exact h.2.2 x h'
  · have := h.2.1.size; have := hk.size; omega
theorem AV.len {w wr : World} {A : Option Addr} {n c : Nat} {L : List Int} (h : AV w wr A n c L) : n = L.length := by
  have := h.1.1; simp [octs] at this; omega
/-- '[]byte(s)' -/
theorem conv_bytes (w : World) (L : List Int) (hO : Oct L) : ∃ W c, (convert 9 24 (.string (strOfNums L))).run Try.prog w = .ok (.slice (some ⟨w.heap.size, 0, none⟩) L.length c) W ∧ Vw W (some ⟨w.heap.size, 0, none⟩) L.length 1 (octs L) ∧ Keep w.heap.size [] w W := by
  have h := run_bytes_of_string w 9 24 5 (strOfNums L) Try.underlying9 Try.underlying24 Try.underlying5
  rw [strOfNums_size] at h
  refine ⟨_, _, h, ⟨by simp [octs], fun _ => ⟨_, _, rfl, by simp, fun j u hu => ?_⟩⟩, (Keep.refl _ _ w).drew.alloc (Nat.le_refl _) _⟩
  rw [cell_of_row _ w.heap.size (0 + j) _ _ _ (heap_alloc_new w.drew _), Nat.zero_add]
  unfold bytesRow
  simp only [octs, List.getElem?_map] at hu
  have hj : j < L.length := by
    cases hl : L[j]? with
    | none => rw [hl] at hu; cases hu
    | some x => exact (List.getElem?_eq_some_iff.1 hl).1
  have hx : L[j]? = some L[j] := List.getElem?_eq_getElem hj
  rw [hx] at hu
  simp at hu
  have hs := strOfNums_size L
  have hsz : j < (strOfNums L).data.size := by have : (strOfNums L).size = (strOfNums L).data.size := rfl; omega
  rw [Array.getElem?_append_left (by simpa using hsz), Array.getElem?_map]
  have hd : (strOfNums L).data[j]? = some (UInt8.ofNat L[j].toNat) := by
    rw [← Array.getElem?_toList, strOfNums_data, List.getElem?_map, hx]; rfl
  rw [hd]
  have hb := hO L[j] (List.getElem_mem hj)
  simp
  rw [← hu]
  congr 1
  omega
def EncPost (w : World) (L : List Int) (z : Int) (e : Ending) (w' : World) : Prop := ∃ A n c, e = .returned (.tuple #[.slice A n c, .int .i64 z]) ∧ AV w w' A n c L
def encR (p : Pd) : List Int × Int := if validP p then (encP p, 0) else ([], 1)
theorem EncPost.from {w W : World} {L : List Int} {z : Int} {e : Ending} {w' : World} (k : Keep w.heap.size [] w W) (h : ∃ A n c, e = .returned (.tuple #[.slice A n c, .int .i64 z]) ∧ AV W w' A n c L) : EncPost w L z e w' := by
  obtain ⟨A, n, c, he, h1, h2, h3⟩ := h
  exact ⟨A, n, c, he, h1, k.chain0 (Nat.le_refl _) h2, fun x hx => Nat.le_trans k.size (h3 x hx)⟩
/-- what is known of a valid unit -/
theorem valid_head {p : Pd} (h : validP p = true) : (1 ≤ p.kind ∧ p.kind ≤ 7) ∧ (0 ≤ p.src ∧ p.src ≤ 15) ∧ (0 ≤ p.num ∧ p.num ≤ 65535) := by
  unfold validP headB at h
  simp only [Bool.and_eq_true, inB_iff] at h
  exact ⟨h.1.1, h.1.2.1, h.1.2.2⟩
theorem valid_body {p : Pd} (h : validP p = true) : bodyB p = true ∧ emptyB (restP p) = true := by
  unfold validP at h
  simp only [Bool.and_eq_true] at h
  exact ⟨h.2.2, h.2.1⟩
theorem body1 {p : Pd} (h : validP p = true) (hk : p.kind = 1) : (1 ≤ p.cls ∧ p.cls ≤ 2) ∧ (0 ≤ p.size ∧ p.size ≤ 65536) ∧ nameB p.name = true := by
  have hb := (valid_body h).1
  unfold bodyB at hb
  rw [if_pos hk] at hb
  simp only [Bool.and_eq_true, inB_iff] at hb
  exact hb
theorem body2 {p : Pd} (h : validP p = true) (hk : p.kind = 2) : (1 ≤ (p.data.length : Int) ∧ (p.data.length : Int) ≤ 512) ∧ (0 ≤ p.off ∧ p.off ≤ 65536 - p.data.length) := by
  have hb := (valid_body h).1
  unfold bodyB at hb
  rw [if_neg (by omega), if_pos hk] at hb
  simp only [Bool.and_eq_true, inB_iff] at hb
  exact hb
theorem body3 {p : Pd} (h : validP p = true) (hk : p.kind = 3) : (1 ≤ p.cls ∧ p.cls ≤ 2) ∧ (0 ≤ p.size ∧ p.size ≤ 65536) ∧ (0 ≤ p.code ∧ p.code ≤ 17) := by
  have hb := (valid_body h).1
  unfold bodyB at hb
  rw [if_neg (by omega), if_neg (by omega), if_pos hk] at hb
  simp only [Bool.and_eq_true, inB_iff] at hb
  exact hb
theorem gapGo_all : ∀ (L : List Gp) (b : Bool) (last : Int), -1 ≤ last → gapGo b last L = true → ∀ g ∈ L, (0 ≤ g.f ∧ g.f ≤ 65536) ∧ (0 ≤ g.t ∧ g.t ≤ 65536)
  | [], _, _, _, _, g, hg => by cases hg
  | x :: L, b, last, hl, h, g, hg => by
    rw [gapGo] at h
    split at h
    · rename_i hz
      rcases List.mem_cons.1 hg with rfl | hg
      · omega
      · exact gapGo_all L false last hl h g hg
    · split at h
      · cases h
      · rename_i hb
        rcases List.mem_cons.1 hg with rfl | hg
        · omega
        · exact gapGo_all L false x.t (by omega) h g hg
theorem body4 {p : Pd} (h : validP p = true) (hk : p.kind = 4) : (1 ≤ (p.gaps.length : Int) ∧ (p.gaps.length : Int) ≤ 16) ∧ ∀ g ∈ p.gaps, (0 ≤ g.f ∧ g.f ≤ 65536) ∧ (0 ≤ g.t ∧ g.t ≤ 65536) := by
  have hb := (valid_body h).1
  unfold bodyB at hb
  rw [if_neg (by omega), if_neg (by omega), if_neg (by omega), if_pos hk] at hb
  unfold gapsB at hb
  simp only [Bool.and_eq_true, inB_iff] at hb
  exact ⟨hb.2, gapGo_all _ _ _ (by omega) hb.1⟩
theorem body5 {p : Pd} (h : validP p = true) (hk : p.kind = 5) : 0 ≤ p.code ∧ p.code ≤ 17 := by
  have hb := (valid_body h).1
  unfold bodyB at hb
  rw [if_neg (by omega), if_neg (by omega), if_neg (by omega), if_neg (by omega), if_pos hk] at hb
  simp only [inB_iff] at hb
  exact hb
theorem u8_in (n : Int) (h0 : 0 ≤ n) (h1 : n ≤ 255) : IntKind.u8.wrap n = n := by rw [IntKind.wrap_u8]; omega
theorem be1 (n : Int) (h0 : 0 ≤ n) (h1 : n ≤ 255) : be n 1 = [n] := by
  simp [be]; omega
theorem be2 (n : Int) (h0 : 0 ≤ n) (h1 : n ≤ 65535) : be n 2 = [n / 256, n % 256] := by
  simp [be]; omega
end Go.Proofs.Ytijionfhnoffcaa
