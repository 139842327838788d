/- The reference's Decode: what its ways share. -/
import Derived.Test.YtijionfhnoffcaaPDecP
namespace Go.Proofs.Ytijionfhnoffcaa
set_option linter.unusedVariables false
set_option linter.unusedSimpArgs false
open Go.RowKit
/-- the results, the reader and the unit are laid -/
theorem rstart (w : World) (X : Option Addr) (m c : Nat) (L : List Int) (hO : Oct L) (hl : L.length ≤ 100000) (hmc : m ≤ c) (hcm : c ≤ maxLen) (hv : Vw w X m 1 (octs L)) (W0 : World)
    (hW : W0 = (w.alloc (.cells (pcs zP zL) TP)).alloc (.cells #[.slice X m c, .bool false] 63)) :
    ∃ X', FW RX W0 (W0.alloc (.cells (pcs (zeroP 0 0 0) zL) TP)) (w.heap.size + 1) W0.heap.size X' (some L) (zeroP 0 0 0) zL := by
  have hml : m = L.length := by have := hv.1; simp [octs] at this; omega
  have k0 : Keep w.heap.size [] w W0 := by rw [hW]; exact ((Keep.refl _ _ w).alloc (Nat.le_refl _) _).alloc (by simp) _
  have hbl : Blk W0 (w.heap.size + 1) 63 #[.slice X m c, .bool false] := by
    rw [hW]
    have := Blk.new (w.alloc (.cells (pcs zP zL) TP)) 63 #[.slice X m c, .bool false]
    simpa using this
  obtain ⟨X', h1, h2⟩ : ∃ X', (0 < m → X = X') ∧ ∀ x, x ∈ blks X' → x < w.heap.size := by
    rcases Nat.eq_zero_or_pos m with h | h
    · exact ⟨none, fun h' => by omega, by simp [blks]⟩
    · obtain ⟨b, o, rfl, hb, _⟩ := hv.2 h
      exact ⟨_, fun _ => rfl, fun x hx => by rcases List.mem_singleton.1 hx with rfl; exact hb⟩
  have hr : RX W0 (w.heap.size + 1) X' (some L) := ⟨X, m, c, hml, hmc, hcm, hbl, hv.keep0 k0, h1, fun hx => by have := h2 _ hx; omega⟩
  have hs := k0.size
  exact ⟨X', FW.first (X := X') RX_k hbl.lt (fun x hx => by have := h2 x hx; omega) hr (by rintro _ ⟨⟩; exact ⟨hO, by omega⟩) (Keep.refl _ _ _) (fun _ h => h) 0⟩
theorem RX.bad {W : World} {g : Nat} {X : Option Addr} {s : RS} (h : RX W g X s) : W.cell? ⟨g, 1, none⟩ = some (.bool s.isNone) := by
  cases s with
  | none => obtain ⟨_, _, _, _, _, _, hb, _⟩ := h; exact hb.cell 1
  | some L => obtain ⟨_, _, _, _, _, _, hb, _⟩ := h; exact hb.cell 1
theorem ret_ok2 {w W W' : World} {r : Nat} {p : Pd} {l : Lc} (k : Keep w.heap.size [] w W) (hr : w.heap.size ≤ r) (pin : PIn W p l) (hD : ∀ x, x ∈ blks l.D → x ≠ r) (hG : ∀ x, x ∈ blks l.G → x ≠ r) (hs : Keep W.heap.size [r] W W') :
    Keep w.heap.size [] w W' ∧ PIn W' p l :=
  ⟨k.chain (Nat.le_refl _) hs (by simpa using hr), pin.keepS hs (fun x hx => by simpa using hD x hx) (fun x hx => by simpa using hG x hx)⟩
theorem be_oct (n : Int) : ∀ k, Oct (be n k)
  | 0 => fun x hx => by cases hx
  | k + 1 => fun x hx => by
    unfold be at hx
    rcases List.mem_cons.1 hx with rfl | hx
    · omega
    · exact be_oct n k x hx
theorem vI_oct (n : Int) : Oct (vI n) := fun x hx => vn_oct _ x hx
theorem oct_app {A B : List Int} (ha : Oct A) (hb : Oct B) : Oct (A ++ B) := fun x hx => (List.mem_append.1 hx).elim (ha x) (hb x)
theorem gapsE_oct (G : List Gp) : Oct (gapsE G) := fun x hx => by
  unfold gapsE at hx
  obtain ⟨g, _, hg⟩ := List.mem_flatMap.1 hx
  exact oct_app (vI_oct _) (vI_oct _) x hg
theorem encP_octs {p : Pd} (hn : Oct p.name) (hd : Oct p.data) : Oct (encP p) := by
  unfold encP headE
  refine oct_app (oct_app (be_oct _ _) (oct_app (be_oct _ _) (be_oct _ _))) ?_
  unfold bodyE vB
  split
  · exact oct_app (be_oct _ _) (oct_app (vI_oct _) (oct_app (vI_oct _) hn))
  split
  · exact oct_app (vI_oct _) (oct_app (vI_oct _) hd)
  split
  · exact oct_app (be_oct _ _) (oct_app (vI_oct _) (oct_app (be_oct _ _) (be_oct _ _)))
  split
  · exact oct_app (vI_oct _) (gapsE_oct _)
  split
  · exact be_oct _ _
  · exact oct_nil
theorem encP_oct {w : World} {p : Pd} {l : Lc} (h : PIn w p l) (_ : validP p = true) : Oct (encP p) := encP_octs h.on h.od
end Go.Proofs.Ytijionfhnoffcaa
