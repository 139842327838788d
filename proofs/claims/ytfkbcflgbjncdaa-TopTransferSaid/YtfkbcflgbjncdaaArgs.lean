/- General lemmas over any program: what the cells of an argument hold (flat structs, arrays, slices of them). -/
import Derived.Test.YtfkbcflgbjncdaaLL
namespace Go.Proofs.Ytfkbcflgbjncdaa
set_option linter.unusedVariables false
set_option linter.unusedSimpArgs false
open Go.ChangeShapes Go.WideShapes Go.ChangeAt Go.RowKit

inductive Lf where
  | int (k : IntKind)
  | bool
  | str
  | sl (t e : TypeId)
  deriving DecidableEq

/-- the cells of a type, one after the other: structs and arrays laid flat -/
def leaves (P : Program) : Nat → TypeId → Option (List Lf)
  | 0, _ => none
  | n + 1, t => match P.underlying t with
    | some (.int k) => some [.int k]
    | some .bool => some [.bool]
    | some .string => some [.str]
    | some (.slice e) => some [.sl t e]
    | some (.struct fs) => match fs.toList.mapM (fun f => leaves P n f.type) with
      | some ls => if P.cellsOf t = ls.flatten.length ∧ (List.range fs.size).all (fun i => match fs[i]?, ls[i]? with
          | some f, some l => f.offset == (ls.take i).flatten.length && P.cellsOf f.type == l.length
          | _, _ => false) then some ls.flatten else none
      | none => none
    | some (.array k e) => match leaves P n e with
      | some l => if P.cellsOf e = l.length ∧ P.cellsOf t = k * l.length then some (List.replicate k l).flatten else none
      | none => none
    | _ => none

theorem flatten_at : ∀ (ls : List (List Lf)) (i : Nat) (x : Lf), ls.flatten[i]? = some x → ∃ j l k, ls[j]? = some l ∧ l[k]? = some x ∧ i = (ls.take j).flatten.length + k
  | [], i, x, h => by simp at h
  | l :: ls, i, x, h => by
    by_cases hi : i < l.length
    · rw [List.flatten_cons, List.getElem?_append_left hi] at h
      exact ⟨0, l, i, rfl, h, by simp⟩
    · rw [List.flatten_cons, List.getElem?_append_right (by omega)] at h
      obtain ⟨j, l', k, h1, h2, h3⟩ := flatten_at ls _ x h
      refine ⟨j + 1, l', k, by simpa using h1, h2, ?_⟩
      simp only [List.take_succ_cons, List.flatten_cons, List.length_append]
      omega

theorem mapM_at {α β : Type} (f : α → Option β) : ∀ (l : List α) (r : List β), l.mapM f = some r → r.length = l.length ∧ ∀ (i : Nat) (x : α), l[i]? = some x → ∃ y, r[i]? = some y ∧ f x = some y
  | [], r, h => by
    simp at h; subst h; exact ⟨rfl, by simp⟩
  | a :: l, r, h => by
    rw [List.mapM_cons] at h
    cases hf : f a with
    | none => rw [hf] at h; cases h
    | some b =>
      rw [hf] at h
      cases hl : l.mapM f with
      | none => rw [hl] at h; cases h
      | some r' =>
        rw [hl] at h
        have hr : r = b :: r' := by simpa using h.symm
        subst hr
        obtain ⟨h1, h2⟩ := mapM_at f l r' hl
        refine ⟨by simp [h1], fun i x hx => ?_⟩
        cases i with
        | zero => simp at hx; subst hx; exact ⟨b, rfl, hf⟩
        | succ i => simpa using h2 i x (by simpa using hx)

section
variable {H : Type} {enc : TypeId × Value → H} {P : Program} {w : World} {base : Nat} {spare : Nat → Bool} {held : Bool}

/-- what a leaf's cell holds -/
def LfOk (enc : TypeId × Value → H) (P : Program) (w : World) (base : Nat) (spare : Nat → Bool) (held : Bool) : Lf → Value → Prop
  | .int k, v => ∃ n, v = .int k n ∧ (Lit.int k n).wf = true
  | .bool, v => ∃ b, v = .bool b
  | .str, v => ∃ s : ByteArray, v = .string s ∧ s.size ≤ maxLen
  | .sl t e, v => P.underlying t = some (.slice e) ∧ ∃ m y, DataW.trod enc P w base spare held m t [v] = some y

theorem leaves_trod : ∀ (n : Nat) (t : TypeId) (l : List Lf) (fuel : Nat) (cs : List Value) (x : DataW H × List MemPlace), leaves P n t = some l → DataW.trod enc P w base spare held fuel t cs = some x →
    cs.length = l.length ∧ ∀ (i : Nat) (lf : Lf), l[i]? = some lf → ∃ v, cs[i]? = some v ∧ LfOk enc P w base spare held lf v
  | 0, t, l, fuel, cs, x, hl, h => by simp [leaves] at hl
  | n + 1, t, l, fuel, cs, x, hl, h => by
    unfold leaves at hl
    split at hl
    · rename_i k hk
      obtain ⟨m, rfl, _, hwf⟩ := DataW.trod_int hk h
      cases hl
      refine ⟨rfl, fun i lf hi => ?_⟩
      cases i with
      | zero => simp at hi; subst hi; exact ⟨_, rfl, m, rfl, hwf⟩
      | succ i => simp at hi
    · rename_i hk
      obtain ⟨b, rfl, _⟩ := DataW.trod_bool hk h
      cases hl
      refine ⟨rfl, fun i lf hi => ?_⟩
      cases i with
      | zero => simp at hi; subst hi; exact ⟨_, rfl, b, rfl⟩
      | succ i => simp at hi
    · rename_i hk
      obtain ⟨s, rfl, _, hs⟩ := DataW.trod_string hk h
      cases hl
      refine ⟨rfl, fun i lf hi => ?_⟩
      cases i with
      | zero => simp at hi; subst hi; exact ⟨_, rfl, s, rfl, hs⟩
      | succ i => simp at hi
    · rename_i e hk
      cases hl
      have hc : ∃ v, cs = [v] := by
        rcases DataW.trod_slice hk h with ⟨rfl, _⟩ | ⟨a, len, cap, _, _, _, _, rfl, _⟩
        · exact ⟨_, rfl⟩
        · exact ⟨_, rfl⟩
      obtain ⟨v, rfl⟩ := hc
      refine ⟨rfl, fun i lf hi => ?_⟩
      cases i with
      | zero => simp at hi; subst hi; exact ⟨_, rfl, hk, fuel, x, h⟩
      | succ i => simp at hi
    · rename_i fs hk
      split at hl
      · rename_i ls hls
        split at hl
        · rename_i hc
          obtain ⟨hc1, hc2⟩ := hc
          cases hl
          obtain ⟨xs, m, rfl, _, hlen, hxl, hf⟩ := DataW.trod_struct hk h
          refine ⟨by omega, fun i lf hi => ?_⟩
          obtain ⟨j, l, k, h1, h2, rfl⟩ := flatten_at ls i lf hi
          obtain ⟨hL, hM⟩ := mapM_at _ _ _ hls
          have hj : j < fs.size := by
            have := (List.getElem?_eq_some_iff.1 h1).1
            simpa using (by omega : j < fs.toList.length)
          have hfj : fs[j]? = some fs[j] := Array.getElem?_eq_getElem hj
          obtain ⟨l', hl', hlv⟩ := hM j fs[j] (by simp)
          rw [h1] at hl'
          cases hl'
          have ho := List.all_eq_true.1 hc2 j (List.mem_range.2 hj)
          simp only [hfj, h1, Bool.and_eq_true, beq_iff_eq] at ho
          have ht := hf j fs[j] hfj
          obtain ⟨y, hy⟩ : ∃ y, xs[j]? = some y := ⟨xs[j]'(by omega), List.getElem?_eq_getElem (by omega)⟩
          rw [hy, ho.1, ho.2] at ht
          obtain ⟨e1, e2⟩ := leaves_trod n _ l m _ y hlv ht
          obtain ⟨v, hv, hok⟩ := e2 k lf h2
          refine ⟨v, ?_, hok⟩
          have hkl : k < l.length := (List.getElem?_eq_some_iff.1 h2).1
          rw [List.getElem?_take, if_pos hkl, List.getElem?_drop] at hv
          exact hv
        · cases hl
      · cases hl
    · rename_i k e hk
      split at hl
      · rename_i l0 hl0
        split at hl
        · rename_i hc
          obtain ⟨hc1, hc2⟩ := hc
          cases hl
          obtain ⟨xs, m, rfl, _, hlen, hxl, hf⟩ := DataW.trod_array hk h
          have hfl : ∀ q, (List.replicate q l0).flatten.length = q * l0.length := fun q => by simp
          refine ⟨by rw [hfl]; omega, fun i lf hi => ?_⟩
          obtain ⟨j, l, kk, h1, h2, rfl⟩ := flatten_at _ i lf hi
          have hj : j < k := by
            have := (List.getElem?_eq_some_iff.1 h1).1
            simpa using this
          have : l = l0 := by
            rw [List.getElem?_replicate, if_pos hj] at h1
            exact (Option.some.inj h1).symm
          subst this
          have ht := hf j hj
          obtain ⟨y, hy⟩ : ∃ y, xs[j]? = some y := ⟨xs[j]'(by omega), List.getElem?_eq_getElem (by omega)⟩
          rw [hy, hc1] at ht
          obtain ⟨e1, e2⟩ := leaves_trod n _ l m _ y hl0 ht
          obtain ⟨v, hv, hok⟩ := e2 kk lf h2
          refine ⟨v, ?_, hok⟩
          have hkl : kk < l.length := (List.getElem?_eq_some_iff.1 h2).1
          rw [List.getElem?_take, if_pos hkl, List.getElem?_drop] at hv
          rw [List.take_replicate, Nat.min_eq_left (by omega), hfl]
          exact hv
        · cases hl
      · cases hl
    · cases hl

theorem addr_of_cell {w : World} {a : Addr} {v : Value} (h : w.cell? a = some v) : a = ⟨a.block, a.off, none⟩ ∧ a.block < w.heap.size := by
  obtain ⟨b, o, s⟩ := a
  unfold World.cell? at h
  split at h
  · rename_i c e f hb
    cases s with
    | none => exact ⟨rfl, (Array.getElem?_eq_some_iff.1 hb).1⟩
    | some s => simp at h
  · cases h

/-- a slice: each element's cells by their leaves -/
theorem slice_cells {t e : TypeId} {n : Nat} {l : List Lf} {fuel : Nat} {v : Value} {x : DataW H × List MemPlace} (ht : P.underlying t = some (.slice e)) (hl : leaves P n e = some l) (hc : P.cellsOf e = l.length)
    (hpos : 0 < l.length) (h : DataW.trod enc P w base spare held fuel t [v] = some x) :
    ∃ (A : Option Addr) (len cap : Nat), v = .slice A len cap ∧ len ≤ cap ∧ cap ≤ maxLen ∧
      (0 < len → ∃ b o, A = some ⟨b, o, none⟩ ∧ b < w.heap.size ∧
        ∀ (i j : Nat) (lf : Lf), i < len → l[j]? = some lf → ∃ u, w.cell? ⟨b, o + i * l.length + j, none⟩ = some u ∧ LfOk enc P w base spare held lf u) := by
  rcases Go.Deep.open_slice ht h with ⟨h0, _⟩ | ⟨a, len, cap, m, k, D, Pl, hcs, hb, hlc, hm, hmm, hx, hi⟩
  · cases h0
    exact ⟨none, 0, 0, rfl, Nat.le_refl _, by simp [maxLen], fun h => absurd h (by omega)⟩
  · cases hcs
    refine ⟨some a, len, cap, rfl, hlc, hm, fun hlen => ?_⟩
    have hlm : len ≤ m := by rw [hmm]; split <;> omega
    have key : ∀ (i j : Nat) (lf : Lf), i < len → l[j]? = some lf → ∃ u, w.cell? (a.add (i * l.length + j)) = some u ∧ LfOk enc P w base spare held lf u := by
      intro i j lf hil hj
      obtain ⟨cs', hcell, htr⟩ := hi i (by omega)
      rw [hc] at hcell
      obtain ⟨e1, e2⟩ := leaves_trod n e l k cs' _ hl htr
      obtain ⟨u, hu, hok⟩ := e2 j lf hj
      obtain ⟨_, hcl, hat⟩ := World.cells?_some hcell
      have hjl : j < l.length := (List.getElem?_eq_some_iff.1 hj).1
      have hh := hat j hjl
      rw [Go.Deep.add_add, hu] at hh
      exact ⟨u, hh, hok⟩
    obtain ⟨lf0, hlf0⟩ : ∃ lf0, l[0]? = some lf0 := ⟨l[0]'hpos, List.getElem?_eq_getElem hpos⟩
    obtain ⟨u0, hu0, _⟩ := key 0 0 lf0 hlen hlf0
    have ha0 : a.add (0 * l.length + 0) = a := by simp [Addr.add]
    rw [ha0] at hu0
    obtain ⟨ea, hbl⟩ := addr_of_cell hu0
    refine ⟨a.block, a.off, by rw [← ea], hbl, fun i j lf hil hj => ?_⟩
    obtain ⟨u, hu, hok⟩ := key i j lf hil hj
    refine ⟨u, ?_, hok⟩
    have : a.add (i * l.length + j) = ⟨a.block, a.off + i * l.length + j, none⟩ := by
      rw [ea]
      unfold Addr.add
      split
      · rename_i h0; simp [h0]; omega
      · simp [Nat.add_assoc]
    rw [← this]
    exact hu

/-- an argument that is a struct or an array, by value -/
theorem agg_cells {t : TypeId} {n : Nat} {l : List Lf} {v : Value} {d : DataW H} {ps : List MemPlace} (hl : leaves P n t = some l) (h : DataW.Trod enc P w base spare held t v d ps) :
    v.cells.size = l.length ∧ ∀ (i : Nat) (lf : Lf), l[i]? = some lf → ∃ u, v.cells[i]? = some u ∧ LfOk enc P w base spare held lf u := by
  obtain ⟨fuel, hf⟩ := h
  obtain ⟨h1, h2⟩ := leaves_trod n t l fuel _ _ hl hf
  exact ⟨by simpa using h1, fun i lf hi => by simpa using h2 i lf hi⟩
end

/-- an array known place by place -/
theorem arr_ext {cs : Array Value} {l : List Value} (hs : cs.size = l.length) (h : ∀ i, i < l.length → cs[i]? = l[i]?) : cs = ⟨l⟩ := by
  apply Array.ext_getElem?
  intro i
  by_cases hi : i < l.length
  · simpa using h i hi
  · rw [Array.getElem?_eq_none (by omega)]
    simp; omega
theorem arr3 {cs : Array Value} {u0 u1 u2 : Value} (hs : cs.size = 3) (h0 : cs[0]? = some u0) (h1 : cs[1]? = some u1) (h2 : cs[2]? = some u2) : cs = #[u0, u1, u2] :=
  arr_ext (l := [u0, u1, u2]) hs (fun i hi => by match i, hi with | 0, _ => exact h0 | 1, _ => exact h1 | 2, _ => exact h2)
theorem arr4 {cs : Array Value} {u0 u1 u2 u3 : Value} (hs : cs.size = 4) (h0 : cs[0]? = some u0) (h1 : cs[1]? = some u1) (h2 : cs[2]? = some u2) (h3 : cs[3]? = some u3) : cs = #[u0, u1, u2, u3] :=
  arr_ext (l := [u0, u1, u2, u3]) hs (fun i hi => by match i, hi with | 0, _ => exact h0 | 1, _ => exact h1 | 2, _ => exact h2 | 3, _ => exact h3)
theorem arr2 {cs : Array Value} {u0 u1 : Value} (hs : cs.size = 2) (h0 : cs[0]? = some u0) (h1 : cs[1]? = some u1) : cs = #[u0, u1] :=
  arr_ext (l := [u0, u1]) hs (fun i hi => by match i, hi with | 0, _ => exact h0 | 1, _ => exact h1)
theorem wf_u8 {x : Int} (h : (Lit.int .u8 x).wf = true) : 0 ≤ x ∧ x ≤ 255 := by
  simp [Lit.wf, IntKind.min, IntKind.max, IntKind.signed, IntKind.bits] at h; omega
theorem wf_u32 {x : Int} (h : (Lit.int .u32 x).wf = true) : 0 ≤ x ∧ x ≤ 4294967295 := by
  simp [Lit.wf, IntKind.min, IntKind.max, IntKind.signed, IntKind.bits] at h; omega
theorem wf_i64 {x : Int} (h : (Lit.int .i64 x).wf = true) : -9223372036854775808 ≤ x ∧ x ≤ 9223372036854775807 := by
  simp [Lit.wf, IntKind.min, IntKind.max, IntKind.signed, IntKind.bits] at h; omega
end Go.Proofs.Ytfkbcflgbjncdaa
