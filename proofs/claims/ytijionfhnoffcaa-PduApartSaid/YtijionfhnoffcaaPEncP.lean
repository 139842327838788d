/- The program's Encode: steps of its writer. -/
import Derived.Test.YtijionfhnoffcaaPEnc0
import Derived.Test.YtijionfhnoffcaaOctV
import Derived.Test.YtijionfhnoffcaaOctK
namespace Go.Proofs.Ytijionfhnoffcaa
set_option linter.unusedVariables false
set_option linter.unusedSimpArgs false
open Go.RowKit
theorem WS.other {w W W' : World} {g : Nat} {A : Option Addr} {L : List Int} {t : TypeId} {cs : Array Value} (h : WS w W g A L t cs) (hk : Keep W.heap.size [] W W') : WS w W' g A L t cs :=
  ⟨h.keep.chain0 (Nat.le_refl _) hk, h.wr.keepS hk (by simp) (by simp), h.hg, h.hA, h.box.keepS hk (by simp)⟩
theorem WS.drew {w W : World} {g : Nat} {A : Option Addr} {L : List Int} {t : TypeId} {cs : Array Value} (h : WS w W g A L t cs) : WS w W.drew g A L t cs := ⟨h.keep.drew, h.wr, h.hg, h.hA, h.box⟩
def WPost (w W : World) (g : Nat) (A : Option Addr) (L : List Int) (t : TypeId) (cs : Array Value) (e : Ending) (W' : World) : Prop :=
  e = .returned (bptr g) ∧ ∃ A', WS w W' g A' L t cs ∧ Keep W.heap.size (g :: blks A) W W' ∧ ∀ x, x ∈ blks A' → x ∈ blks A ∨ W.heap.size ≤ x
theorem vI_len {n : Int} (h0 : -9223372036854775808 ≤ n) (h1 : n ≤ 9223372036854775807) : (vI n).length ≤ 10 := by
  have hz := zz_nonneg n h0 h1
  exact vn_len10 _ (by omega)
theorem wu_p {w W : World} {g : Nat} {A : Option Addr} {L : List Int} {t : TypeId} {cs : Array Value} (h : WS w W g A L t cs) (n z : Int) (sz : Nat) (hz : z = (sz : Int)) (hn0 : 0 ≤ n) (hn1 : n < 18446744073709551616) (h1 : 1 ≤ sz) (h8 : sz ≤ 8) (hL : L.length ≤ 100000) :
    Calls Try.prog 20 #[bptr g, .int .u64 n, .int .i64 z] W (WPost w W g A (L ++ be n sz) t cs) := by
  refine (wuint_z W g A L n z sz hz hn0 hn1 h1 h8 h.wr (by omega)).mono ?_
  rintro e W' ⟨rfl, A', hw, hk, hb⟩
  exact ⟨rfl, A', h.next hw hk hb, hk, hb⟩
theorem wi_p {w W : World} {g : Nat} {A : Option Addr} {L : List Int} {t : TypeId} {cs : Array Value} (h : WS w W g A L t cs) (n : Int) (h0 : -9223372036854775808 ≤ n) (h1 : n ≤ 9223372036854775807) (hL : L.length ≤ 100000) :
    Calls Try.prog 21 #[bptr g, .int .i64 n] W (WPost w W g A (L ++ vI n) t cs) := by
  refine (wint_any W g A L n h0 h1 (by omega) h.wr).mono ?_
  rintro e W' ⟨rfl, A', hw, hk, hb⟩
  exact ⟨rfl, A', h.next hw hk hb, hk, hb⟩
theorem wb_p {w W : World} {g : Nat} {A : Option Addr} {L : List Int} {t : TypeId} {cs : Array Value} (h : WS w W g A L t cs) (X : Option Addr) (m c : Nat) (B : List Int) (hm : m ≤ 100000) (hL : L.length ≤ 100000) (hv : Vw W X m 1 (octs B)) (hX : 0 < m → ∀ x, x ∈ blks X → x ∉ g :: blks A) :
    Calls Try.prog 22 #[bptr g, .slice X m c] W (WPost w W g A (L ++ vB B) t cs) := by
  have hml : m = B.length := by have := hv.1; simp [octs] at this; omega
  refine (wblob_q W g A L X m c B (by omega) (by omega) h.wr hv hX).mono ?_
  rintro e W' ⟨rfl, A', hw, hk, hb⟩
  refine ⟨rfl, A', h.next (by unfold vB vI; rw [← List.append_assoc, ← hml]; exact hw) hk hb, hk, hb⟩
/-- parts of the argument lie below -/
theorem Vw.old {w : World} {X : Option Addr} {m size : Nat} {xs : List Value} (h : Vw w X m size xs) (hs : 0 < size) : 0 < m → ∀ x, x ∈ blks X → x < w.heap.size := by
  intro hm x hx
  obtain ⟨b, o, rfl, hb, _⟩ := h.2 hm
  rcases List.mem_singleton.1 hx with rfl
  exact hb
theorem WS.apart {w W : World} {g : Nat} {A : Option Addr} {L : List Int} {t : TypeId} {cs : Array Value} (h : WS w W g A L t cs) {m : Nat} {X : Option Addr} (hX : 0 < m → ∀ x, x ∈ blks X → x < w.heap.size) : 0 < m → ∀ x, x ∈ blks X → x ∉ g :: blks A := by
  intro hm x hx hc
  have h1 := hX hm x hx
  rcases List.mem_cons.1 hc with rfl | hc
  · have := h.hg; omega
  · have := h.hA _ hc; omega
theorem WS.new {w W : World} {g : Nat} {A : Option Addr} {L : List Int} {t : TypeId} {cs : Array Value} (h : WS w W g A L t cs) {x : Nat} (hx : W.heap.size ≤ x) : x ∉ g :: blks A := by
  intro hc
  rcases List.mem_cons.1 hc with rfl | hc
  · have := h.wr.lt; omega
  · have := h.wr.blk _ hc; omega
theorem apart_next {W : World} {g x : Nat} {A A' : Option Addr} (h : x ∉ g :: blks A) (hx : x < W.heap.size) (hb : ∀ y, y ∈ blks A' → y ∈ blks A ∨ W.heap.size ≤ y) : x ∉ g :: blks A' := by
  intro hc
  rcases List.mem_cons.1 hc with rfl | hc
  · exact h (by simp)
  · rcases hb x hc with h' | h'
    · exact h (List.mem_cons_of_mem _ h')
    · omega
end Go.Proofs.Ytijionfhnoffcaa
