/- append(s, make([]byte, k)...), onto a slice that is owned. -/
import Derived.Test.YtfkbcflgbjncdaaTxK
import Derived.Lib.AppendZerosOnto
namespace Go.Proofs.Ytfkbcflgbjncdaa
set_option linter.unusedVariables false
set_option linter.unusedSimpArgs false
open Go.RowKit
abbrev zer (m : Nat) : List Value := List.replicate m (.int .u8 0)
theorem zc1 (m : Nat) : Builtin.zeroCells #[Value.int .u8 0] m = (zer m).toArray := by
  apply Array.ext'
  simp only [Builtin.zeroCells]
  apply List.ext_getElem?
  intro i
  by_cases h : i < m
  · simp [h, Nat.mod_one]
  · simp [h]
theorem run_appZ (w : World) (ty : TypeId) (A : Option Addr) (n cp : Nat) (xs : List Value) (hown : Sl w 5 1 A n cp xs) (m : Nat) (hm : 0 < m) (hb : n + m ≤ 100000) :
    ∃ A' c' w', (Builtin.append_ #[35, 3] ty #[.slice A n cp, .int .i64 m]).run Try.prog w = .ok (.slice A' (n + m) c') w' ∧ Sl w' 5 1 A' (n + m) c' (xs ++ zer m) ∧ Keep w.heap.size (blks A) w w' ∧ (∀ g, g ∈ blks A' → g ∈ blks A ∨ g = w.heap.size) := by
  obtain ⟨i0, hi0, hz0, hz1, hz2⟩ := info_parts infoU8
  have hlen : (xs ++ zer m).length = (n + m) * 1 := by rw [List.length_append, hown.1, List.length_replicate]; omega
  have grown : ∀ old : Nat, (w.drew.alloc (.cells (xs.toArray ++ Builtin.zeroCells (Value.int .u8 0).cells m ++ Builtin.zeroCells (Value.int .u8 0).cells (grownCap w (n + m) old 5 - (n + m))) 5)).ownsRow 0 5 1 (.slice (some ⟨w.heap.size, 0, none⟩) (n + m) (grownCap w (n + m) old 5)) (n + m) (xs ++ zer m) := by
    intro old
    have hge := grownCap_ge w (n + m) old 5
    have hcm : grownCap w (n + m) old 5 ≤ maxLen := grownCap_le_maxLen w (n + m) old 5 (by unfold maxLen; omega)
    have hz : (Value.int .u8 0).cells = #[Value.int .u8 0] := rfl
    rw [hz, zc1, zc1]
    refine ⟨hlen, .inr ⟨w.heap.size, _, _, rfl, Nat.zero_le _, heap_alloc_new w.drew _, hge, hcm, ?_, ?_⟩⟩
    · have := hown.1
      simp only [Array.size_append, List.size_toArray, List.length_replicate]
      omega
    · simp only [Array.toList_append]
      rw [← hlen]
      exact List.take_left
  rcases hown.2 with ⟨hv, hn⟩ | ⟨g, cap, cur, hv, h0, hg, hnc, hcm, hcs, htk⟩
  · injection hv with e1 e2 e3
    subst e1; subst e2; subst e3
    have hx : xs = [] := List.eq_nil_of_length_eq_zero (by have := hown.1; omega)
    subst hx
    have hr := Lib.run_append_nil_zeros (P := Try.prog) w 35 3 ty 5 i0 _ .i64 .i64 Try.underlying35 Try.underlying3 hi0 hz0 m hm (by rw [hz1]; omega) (by omega) (by rw [hz2]; omega)
    have hgr := grown 0
    simp only [Nat.zero_add, List.nil_append] at hgr
    simp only [Nat.zero_add, List.nil_append]
    refine ⟨_, _, _, hr, ?_, (Keep.refl _ _ _).drew.alloc (Nat.le_refl _) _, fun y hy => .inr (by simpa [blks] using hy)⟩
    unfold Sl
    simpa using hgr
  · injection hv with e1 e2 e3
    subst e1; subst e3
    by_cases hroom : n + m ≤ cp
    · have hst := run_storeCells_at Try.prog g n 5 (zer m) 0 cur w hg (by simp; omega) (by intro v hv; rw [List.eq_of_mem_replicate hv]; rfl)
      simp only [Nat.add_zero, List.length_replicate] at hst
      have hk : m ≠ 0 := by omega
      have hw : IntKind.i64.wrap (m : Int) = m := by rw [IntKind.wrap_i64]; omega
      have hneg : ¬ ((m : Int) < 0) := by omega
      have h48 : ¬ (281474976710656 < (m : Int)) := by omega
      have hz : (Value.int .u8 0).cells = #[Value.int .u8 0] := rfl
      have hr : (Builtin.append_ #[35, 3] ty #[.slice (some ⟨g, 0, none⟩) n cp, .int .i64 m]).run Try.prog w = .ok (.slice (some ⟨g, 0, none⟩) (n + m) cp) (w.setRow g (cur.toList.take n ++ zer m ++ cur.toList.drop (n + m)).toArray) := by
        simp [Builtin.append_, run_underlying Try.underlying35, run_underlying Try.underlying3, sizeOf, typeInfo, zeroValue, hi0, hz0, hz1, hz2, asInt, asIntOf, hw, hneg, h48, hk, hroom, Addr.add_lit, zc1, hst, hz]
      refine ⟨_, _, _, hr, ⟨hlen, .inr ⟨g, cp, _, rfl, h0, setRow_heap w g cur _ 5 _ hg, hroom, hcm, ?_, ?_⟩⟩, ⟨rfl, rfl, rfl, by simp, fun k _ hk => setRow_other w g k _ (fun e => hk (by simp [blks, e]))⟩, fun y hy => .inl hy⟩
      · simp only [List.size_toArray, List.length_append, List.length_take, List.length_drop, Array.length_toList, List.length_replicate]
        omega
      · rw [Nat.mul_one] at htk
        rw [htk, ← hlen]
        exact List.take_left
    · have hold : ∀ j u, xs[j]? = some u → w.drew.cell? ((⟨g, 0, none⟩ : Addr).add j) = some u := (World.ownsRow.cells (g := g) (w := w) hown rfl)
      have hf := run_firstCells_some (P := Try.prog) w.drew 1 n ⟨g, 0, none⟩ n cp xs hown.1 hold
      have hr := Lib.run_append_grow_zeros (P := Try.prog) w 35 3 ty 5 i0 _ .i64 .i64 Try.underlying35 Try.underlying3 hi0 hz0 (some ⟨g, 0, none⟩) n cp xs (by rw [hz1]; exact hf) m hm (by rw [hz1]; omega) (by omega) (by omega) (by rw [hz2]; omega) (by rw [hz2]; exact growslice_fits (by omega) (by omega))
      refine ⟨_, _, _, hr, grown cp, (Keep.refl _ _ _).drew.alloc (Nat.le_refl _) _, fun y hy => .inr (by simpa [blks] using hy)⟩
theorem step_appZ {ops : Array Oper} {o : Oper} {a : Act} {w : World} {K : Act → World → Prop} {Q : Exit → Act → World → Prop} {E : Prop} (hgd : o.guard = none) (s x : Operand)
    (ho : o.op = .call { callee := .builtin .append, args := #[s, x], argTypes := #[35, 3] })
    (A : Option Addr) (n cp : Nat) (xs : List Value) (hs : a.eval s = .slice A n cp) (hown : Sl w 5 1 A n cp xs)
    (m : Nat) (hx : a.eval x = .int .i64 m) (hm : 0 < m) (hb : n + m ≤ 100000)
    (h : ∀ A' c' w', Sl w' 5 1 A' (n + m) c' (xs ++ zer m) → Keep w.heap.size (blks A) w w' → (∀ g, g ∈ blks A' → g ∈ blks A ∨ g = w.heap.size) → K (a.put o.dst (.slice A' (n + m) c')) w') :
    if Region.wanted o (yielded ops a.tmps) = true then Oper.wp Try.prog o a w K Q else E := by
  have hw : Region.wanted o (yielded ops a.tmps) = true := by simp [Region.wanted, hgd]
  rw [if_pos hw]
  obtain ⟨A', c', w', hr, h2, h3, h4⟩ := run_appZ w o.type A n cp xs hown m hm hb
  unfold Oper.wp execOp
  simp only [ho, resolve, invoke, builtin, Sem.run_bind, Sem.run_pure, Result.andThen_ok, List.map_toArray, List.map_cons, List.map_nil, hs, hx, hr]
  exact h A' c' w' h2 h3 h4
end Go.Proofs.Ytfkbcflgbjncdaa
