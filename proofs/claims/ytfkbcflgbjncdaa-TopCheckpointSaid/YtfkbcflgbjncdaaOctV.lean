/- A writer of the call's own: what is known of the world on the way. -/
import Derived.Test.YtfkbcflgbjncdaaOctW
namespace Go.Proofs.Ytfkbcflgbjncdaa
set_option linter.unusedVariables false
set_option linter.unusedSimpArgs false
open Go.RowKit
/-- a world W on the way of a call that began in w: a writer of the call's own with the octets L -/
structure WT (w W : World) (g : Nat) (A : Option Addr) (L : List Int) : Prop where
  keep : Keep w.heap.size [] w W
  wr : Wr W g A L
  hg : w.heap.size ≤ g
  hA : ∀ x, x ∈ blks A → w.heap.size ≤ x
theorem Wr.lt {w : World} {g : Nat} {A : Option Addr} {L : List Int} (h : Wr w g A L) : g < w.heap.size := by
  obtain ⟨n, c, _, hb, _⟩ := h; exact hb.lt
theorem Wr.blk {w : World} {g : Nat} {A : Option Addr} {L : List Int} (h : Wr w g A L) : ∀ x, x ∈ blks A → x < w.heap.size := by
  obtain ⟨n, c, _, _, hs⟩ := h; exact fun x hx => hs.blk hx
theorem Wr.keepS {w w' : World} {g : Nat} {A : Option Addr} {L : List Int} {S : List Nat} (h : Wr w g A L) (k : Keep w.heap.size S w w') (hg : g ∉ S) (hx : ∀ x, x ∈ blks A → x ∉ S) : Wr w' g A L := by
  obtain ⟨n, c, h1, h2, h3⟩ := h
  exact ⟨n, c, h1, h2.keepS k hg, h3.keepS k hx⟩
theorem WT.next {w W W' : World} {g : Nat} {A A' : Option Addr} {L L' : List Int} (h : WT w W g A L) (hW : Wr W' g A' L') (hk : Keep W.heap.size (g :: blks A) W W')
    (hb : ∀ x, x ∈ blks A' → x ∈ blks A ∨ W.heap.size ≤ x) : WT w W' g A' L' := by
  have hz := h.keep.size
  refine ⟨h.keep.chain (Nat.le_refl _) hk (fun x hx => ?_), hW, h.hg, fun x hx => ?_⟩
  · rcases List.mem_cons.1 hx with rfl | hx
    · exact h.hg
    · exact h.hA x hx
  · rcases hb x hx with h' | h'
    · exact h.hA x h'
    · omega
theorem WT.other {w W W' : World} {g : Nat} {A : Option Addr} {L : List Int} (h : WT w W g A L) (hk : Keep W.heap.size [] W W') : WT w W' g A L :=
  ⟨h.keep.chain0 (Nat.le_refl _) hk, h.wr.keepS hk (by simp) (by simp), h.hg, h.hA⟩
theorem WT.alloc {w W : World} {g : Nat} {A : Option Addr} {L : List Int} (h : WT w W g A L) (o : Obj) : WT w (W.alloc o) g A L :=
  h.other ((Keep.refl _ _ _).alloc (Nat.le_refl _) o)
end Go.Proofs.Ytfkbcflgbjncdaa
