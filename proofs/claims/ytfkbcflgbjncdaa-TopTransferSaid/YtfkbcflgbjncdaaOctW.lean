/- A function that writes octets: what it knows of the world on its way. -/
import Derived.Test.YtfkbcflgbjncdaaOctR
import Derived.Laws.BytesArg
namespace Go.Proofs.Ytfkbcflgbjncdaa
set_option linter.unusedVariables false
set_option linter.unusedSimpArgs false
open Go.RowKit
theorem wuint_z (w : World) (g : Nat) (A : Option Addr) (L : List Int) (n z : Int) (sz : Nat) (hz : z = (sz : Int)) (hn0 : 0 ≤ n) (hn1 : n < 18446744073709551616) (h1 : 1 ≤ sz) (h8 : sz ≤ 8) (hw : Wr w g A L) (hL : L.length + 8 ≤ 900000000) :
    Calls Try.prog 50 #[bptr g, .int .u64 n, .int .i64 z] w fun e w' =>
      e = .returned (bptr g) ∧ ∃ A', Wr w' g A' (L ++ be n sz) ∧ Keep w.heap.size (g :: blks A) w w' ∧ ∀ x, x ∈ blks A' → x ∈ blks A ∨ w.heap.size ≤ x := by
  subst hz; exact wuint_any w g A L n hn0 hn1 sz h1 h8 hL hw
theorem ruint_z (w : World) (g : Nat) (X : Option Addr) (L : List Int) (z : Int) (sz : Nat) (hz : z = (sz : Int)) (hO : Oct L) (h1 : 1 ≤ sz) (h8 : sz ≤ 8) (hle : sz ≤ L.length) (hr : Rd w g X L) :
    Calls Try.prog 53 #[bptr g, .int .i64 z] w fun e w' =>
      e = .returned (.int .u64 (beVal (L.take sz))) ∧ ∃ X', Rd w' g X' (L.drop sz) ∧ Keep w.heap.size [g] w w' ∧ blks X' = blks X := by
  subst hz; exact ruint_yes w g X L hO sz h1 h8 hle hr
theorem be_length (n : Int) : ∀ k, (be n k).length = k
  | 0 => rfl
  | k + 1 => by simp [be, be_length n k]
theorem u64_in (n : Int) (h0 : 0 ≤ n) (h1 : n < 18446744073709551616) : IntKind.u64.wrap n = n := by
  rw [IntKind.wrap_u64]; omega
/-- a world W on the way of a call that began in w: a boxed argument at the first new block, a writer with the octets L -/
structure WS (w W : World) (g : Nat) (A : Option Addr) (L : List Int) (t : TypeId) (cs : Array Value) : Prop where
  keep : Keep w.heap.size [] w W
  wr : Wr W g A L
  hg : w.heap.size < g
  hA : ∀ x, x ∈ blks A → w.heap.size < x
  box : Blk W w.heap.size t cs
theorem WS.next {w W W' : World} {g : Nat} {A A' : Option Addr} {L L' : List Int} {t : TypeId} {cs : Array Value} (h : WS w W g A L t cs) (hW : Wr W' g A' L') (hk : Keep W.heap.size (g :: blks A) W W')
    (hb : ∀ x, x ∈ blks A' → x ∈ blks A ∨ W.heap.size ≤ x) : WS w W' g A' L' t cs := by
  have hz := h.box.lt
  refine ⟨h.keep.chain (Nat.le_refl _) hk (fun x hx => ?_), hW, h.hg, fun x hx => ?_, h.box.keepS hk (fun hx => ?_)⟩
  · rcases List.mem_cons.1 hx with rfl | hx
    · exact Nat.le_of_lt h.hg
    · exact Nat.le_of_lt (h.hA x hx)
  · rcases hb x hx with h' | h'
    · exact h.hA x h'
    · omega
  · rcases List.mem_cons.1 hx with e | hx
    · have := h.hg; omega
    · have := h.hA _ hx; omega
/-- the conversion of octets to a string -/
theorem conv_str {P : Program} {w : World} (src dst e : TypeId) (hs : P.underlying src = some (.slice e)) (he : P.underlying e = some (.int .u8)) (hd : P.underlying dst = some .string)
    (X : Option Addr) (m c : Nat) (L : List Int) (hv : Vw w X m 1 (octs L)) : (convert src dst (.slice X m c)).run P w = .ok (.string (strOfNums L)) w := by
  have hlen : L.length = m := by simpa [octs] using hv.1
  rcases Nat.eq_zero_or_pos m with h0 | h0
  · subst h0
    obtain rfl : L = [] := List.eq_nil_of_length_eq_zero hlen
    cases X with
    | none => exact run_convert_bytes_nil w src e hs he 0 c dst hd
    | some a =>
      rw [run_convert_bytes_string w src dst e _ 0 c hs he hd]
      have hl : (loadCells a 0).run P w = .ok (([] : List Int).map (Value.int .u8)).toArray w := by
        have := run_loadCells_list (P := P) w a ([] : List Value) (fun j v hj => by simp at hj)
        simpa using this
      rw [run_bytesToString w a 0 c [] hl]
      rfl
  · obtain ⟨b, o, rfl, _, hc⟩ := hv.2 h0
    refine run_convert_bytes_arg w src e hs he b o m c L hlen (fun i hi => ?_) dst hd
    have hx : L[i]? = some (L[i]'(by omega)) := List.getElem?_eq_getElem (by omega)
    have := hc i (.int .u8 (L[i]'(by omega))) (by rw [List.getElem?_map, hx]; rfl)
    rw [this, List.getD, hx]
    rfl
end Go.Proofs.Ytfkbcflgbjncdaa
