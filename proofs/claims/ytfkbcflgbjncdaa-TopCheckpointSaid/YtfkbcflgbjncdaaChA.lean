/- The checkpoint: steps of its writer and its reader. -/
import Derived.Test.YtfkbcflgbjncdaaCkB
import Derived.Test.YtfkbcflgbjncdaaOctK
namespace Go.Proofs.Ytfkbcflgbjncdaa
set_option linter.unusedVariables false
set_option linter.unusedSimpArgs false
open Go.RowKit
def vI (n : Int) : List Int := vn (zz n).toNat
def vB (B : List Int) : List Int := vI (B.length : Int) ++ B
theorem vI_len {n : Int} (h0 : -9223372036854775808 ≤ n) (h1 : n ≤ 9223372036854775807) : (vI n).length ≤ 10 := by
  have hz := zz_nonneg n h0 h1
  exact vn_len10 _ (by omega)
theorem vI_pos (n : Int) : (vI n).length ≠ 0 := by have := vn_pos (zz n).toNat; unfold vI; omega
theorem vI_oct (n : Int) : Oct (vI n) := vn_oct _
theorem Oct.app {L M : List Int} (h : Oct L) (k : Oct M) : Oct (L ++ M) := fun x hx => by
  rcases List.mem_append.1 hx with hx | hx
  · exact h x hx
  · exact k x hx
theorem be_octC (n : Int) : ∀ k, Oct (be n k)
  | 0 => by simp [be, Oct]
  | k + 1 => by
    intro x hx
    rw [be] at hx
    rcases List.mem_cons.1 hx with rfl | hx
    · omega
    · exact be_octC n k x hx
theorem WS.other {w W W' : World} {g : Nat} {A : Option Addr} {L : List Int} {t : TypeId} {cs : Array Value} (h : WS w W g A L t cs) (hk : Keep W.heap.size [] W W') : WS w W' g A L t cs :=
  ⟨h.keep.chain0 (Nat.le_refl _) hk, h.wr.keepS hk (by simp) (by simp), h.hg, h.hA, h.box.keepS hk (by simp)⟩
theorem WS.drew {w W : World} {g : Nat} {A : Option Addr} {L : List Int} {t : TypeId} {cs : Array Value} (h : WS w W g A L t cs) : WS w W.drew g A L t cs := ⟨h.keep.drew, h.wr, h.hg, h.hA, h.box⟩
def WPost (w W : World) (g : Nat) (A : Option Addr) (L : List Int) (t : TypeId) (cs : Array Value) (e : Ending) (W' : World) : Prop :=
  e = .returned (bptr g) ∧ ∃ A', WS w W' g A' L t cs ∧ Keep W.heap.size (g :: blks A) W W' ∧ ∀ x, x ∈ blks A' → x ∈ blks A ∨ W.heap.size ≤ x
theorem wu_p {w W : World} {g : Nat} {A : Option Addr} {L : List Int} {t : TypeId} {cs : Array Value} (h : WS w W g A L t cs) (n z : Int) (sz : Nat) (hz : z = (sz : Int)) (hn0 : 0 ≤ n) (hn1 : n < 18446744073709551616) (h1 : 1 ≤ sz) (h8 : sz ≤ 8) (hL : L.length ≤ 100000) :
    Calls Try.prog 50 #[bptr g, .int .u64 n, .int .i64 z] W (WPost w W g A (L ++ be n sz) t cs) := by
  refine (wuint_z W g A L n z sz hz hn0 hn1 h1 h8 h.wr (by omega)).mono ?_
  rintro e W' ⟨rfl, A', hw, hk, hb⟩
  exact ⟨rfl, A', h.next hw hk hb, hk, hb⟩
theorem wi_p {w W : World} {g : Nat} {A : Option Addr} {L : List Int} {t : TypeId} {cs : Array Value} (h : WS w W g A L t cs) (n : Int) (h0 : -9223372036854775808 ≤ n) (h1 : n ≤ 9223372036854775807) (hL : L.length ≤ 100000) :
    Calls Try.prog 109 #[bptr g, .int .i64 n] W (WPost w W g A (L ++ vI n) t cs) := by
  refine (wint_any W g A L n h0 h1 (by omega) h.wr).mono ?_
  rintro e W' ⟨rfl, A', hw, hk, hb⟩
  exact ⟨rfl, A', h.next hw hk hb, hk, hb⟩
theorem wb_p {w W : World} {g : Nat} {A : Option Addr} {L : List Int} {t : TypeId} {cs : Array Value} (h : WS w W g A L t cs) (X : Option Addr) (m c : Nat) (B : List Int) (hm : m ≤ 100000) (hL : L.length ≤ 100000) (hv : Vw W X m 1 (octs B)) (hX : 0 < m → ∀ x, x ∈ blks X → x ∉ g :: blks A) :
    Calls Try.prog 110 #[bptr g, .slice X m c] W (WPost w W g A (L ++ vB B) t cs) := by
  have hml : m = B.length := by have := hv.1; simp [octs] at this; omega
  refine (wblob_q W g A L X m c B (by omega) (by omega) h.wr hv hX).mono ?_
  rintro e W' ⟨rfl, A', hw, hk, hb⟩
  refine ⟨rfl, A', h.next (by unfold vB vI; rw [← List.append_assoc, ← hml]; exact hw) hk hb, hk, hb⟩
theorem Vw.old {w : World} {X : Option Addr} {m size : Nat} {xs : List Value} (h : Vw w X m size xs) : 0 < m → ∀ x, x ∈ blks X → x < w.heap.size := by
  intro hm x hx
  obtain ⟨b, o, rfl, hb, _⟩ := h.2 hm
  rcases List.mem_singleton.1 hx with rfl
  exact hb
theorem WS.apart {w W : World} {g : Nat} {A : Option Addr} {L : List Int} {t : TypeId} {cs : Array Value} (h : WS w W g A L t cs) {m : Nat} {X : Option Addr} (hX : 0 < m → ∀ x, x ∈ blks X → x < w.heap.size) : 0 < m → ∀ x, x ∈ blks X → x ∉ g :: blks A := by
  intro hm x hx hc
  have h1 := hX hm x hx
  rcases List.mem_cons.1 hc with rfl | hc
  · have := h.hg; omega
  · have := h.hA _ hc; omega
/-! ### the reader, of what was written -/
def RdPost (w : World) (g : Nat) (X : Option Addr) (M : List Int) (v : Value) (e : Ending) (w' : World) : Prop :=
  e = .returned v ∧ ∃ X', Rd w' g X' M ∧ Keep w.heap.size [g] w w' ∧ blks X' = blks X
theorem ri_v {w : World} {g : Nat} {X : Option Addr} (n : Int) (M : List Int) (h0 : -9223372036854775808 ≤ n) (h1 : n ≤ 9223372036854775807) (hO : Oct M) (hr : Rd w g X (vI n ++ M)) :
    Calls Try.prog 68 #[bptr g] w (RdPost w g X M (.int .i64 n)) := by
  refine (rint_yes w g X (vI n ++ M) n (vI n).length ((vI_oct n).app hO) hr (tkI_vn n h0 h1 M) (vI_pos n)).mono ?_
  rintro e w' ⟨rfl, X', h2, h3, h4⟩
  rw [List.drop_left] at h2
  exact ⟨rfl, X', h2, h3, h4⟩
theorem ru_v {w : World} {g : Nat} {X : Option Addr} (n : Int) (k : Nat) (z : Int) (hz : z = (k : Int)) (M : List Int) (h1 : 1 ≤ k) (h8 : k ≤ 8) (h0 : 0 ≤ n) (hn : n < 256 ^ k) (hO : Oct M) (hr : Rd w g X (be n k ++ M)) :
    Calls Try.prog 53 #[bptr g, .int .i64 z] w (RdPost w g X M (.int .u64 n)) := by
  subst hz
  have hl : (be n k).length = k := be_length n k
  refine (ruint_yes w g X (be n k ++ M) ((be_octC n k).app hO) k h1 h8 (by rw [List.length_append, hl]; omega) hr).mono ?_
  rintro e w' ⟨rfl, X', h2, h3, h4⟩
  have e1 : (be n k ++ M).take k = be n k := by rw [List.take_append_of_le_length (by omega), List.take_of_length_le (by omega)]
  have e2 : (be n k ++ M).drop k = M := by
    have h := @List.drop_left Int (be n k) M
    rwa [hl] at h
  rw [e2] at h2
  rw [e1, beVal_be n h0, Int.emod_eq_of_lt h0 hn]
  exact ⟨rfl, X', h2, h3, h4⟩
theorem tkC_vI (n most : Int) (M : List Int) (h0 : 0 ≤ n) (h1 : n ≤ most) (h2 : n ≤ 9223372036854775807) : tkC (vI n ++ M) most = (n, (vI n).length) := by
  have h3 : tkI (vI n ++ M) = (n, (vI n).length) := tkI_vn n (by omega) h2 M
  unfold tkC
  rw [h3]
  simp only
  rw [if_neg (by have := vI_pos n; omega)]
theorem rc_v {w : World} {g : Nat} {X : Option Addr} (n most : Int) (M : List Int) (h0 : 0 ≤ n) (h1 : n ≤ most) (h2 : n ≤ 9223372036854775807) (hO : Oct M) (hr : Rd w g X (vI n ++ M)) :
    Calls Try.prog 71 #[bptr g, .int .i64 most] w (RdPost w g X M (.int .i64 n)) := by
  refine (rcount_yes w g X (vI n ++ M) most n (vI n).length ((vI_oct n).app hO) hr (tkC_vI n most M h0 h1 h2) (vI_pos n)).mono ?_
  rintro e w' ⟨rfl, X', h2, h3, h4⟩
  rw [List.drop_left] at h2
  exact ⟨rfl, X', h2, h3, h4⟩
theorem tkB_vB (B M : List Int) (most : Int) (h1 : (B.length : Int) ≤ most) (h2 : (B.length : Int) ≤ 9223372036854775807) : tkB (vB B ++ M) most = (B, (vB B).length) := by
  have e : vB B ++ M = vI (B.length : Int) ++ (B ++ M) := by unfold vB; rw [List.append_assoc]
  unfold tkB
  rw [e, tkC_vI _ most _ (by omega) h1 h2]
  simp only
  rw [if_neg (by have := vI_pos (B.length : Int); simp only [List.length_append]; omega), List.drop_left]
  rw [Int.toNat_natCast, List.take_left]
  unfold vB
  rw [List.length_append]
theorem rb_v {w : World} {g : Nat} {X : Option Addr} (B M : List Int) (most : Int) (h1 : (B.length : Int) ≤ most) (h2 : B.length + M.length ≤ 90000000) (hB : Oct B) (hO : Oct M) (hr : Rd w g X (vB B ++ M)) :
    Calls Try.prog 69 #[bptr g, .int .i64 most] w (BlobPost w g X M B) := by
  have hl := vI_len (n := (B.length : Int)) (by omega) (by omega)
  have hb : (vB B).length ≠ 0 := by have := vI_pos (B.length : Int); unfold vB; rw [List.length_append]; omega
  have := rblob_yes w g X (vB B ++ M) B most (vB B).length (((vI_oct _).app hB).app hO) hr (by unfold vB; simp only [List.length_append]; omega) (tkB_vB B M most h1 (by omega)) hb
  rw [List.drop_left] at this
  exact this
end Go.Proofs.Ytfkbcflgbjncdaa
