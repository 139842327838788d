/- A set of numbers as a map[int]bool of the program's own: the laws of its look-up, store, delete and length. -/
import Derived.Test.YtlceepknoijndaaSl
import Derived.MapKept
import Derived.Lib.Hide
namespace Go.Proofs.Ytlceepknoijndaa
set_option linter.unusedVariables false
set_option linter.unusedSimpArgs false
open Go.RowKit
theorem map_er {α β : Type} (f : α → β) : ∀ (l : List α) (i : Nat), (l.eraseIdx i).map f = (l.map f).eraseIdx i
  | [], _ => by simp
  | a :: l, 0 => by simp
  | a :: l, i + 1 => by simp [map_er f l i]
/-- a map at block r with just the keys ks, each true -/
def MapB (w : World) (r : Nat) (ks : List Int) : Prop :=
  ∃ es clock, w.heap[r]? = some (.map es clock) ∧ es.toList.map (·.key) = ks.map (Value.int .i64) ∧ (∀ e ∈ es.toList, e.val = .bool true) ∧ ks.Nodup
theorem MapB.lt {w : World} {r : Nat} {ks : List Int} (h : MapB w r ks) : r < w.heap.size := by
  obtain ⟨es, c, h1, _⟩ := h
  exact (Array.getElem?_eq_some_iff.1 h1).1
theorem MapB.keepS {w w' : World} {r : Nat} {ks : List Int} {S : List Nat} (h : MapB w r ks) (k : Keep w.heap.size S w w') (hs : r ∉ S) : MapB w' r ks := by
  have hl := h.lt
  obtain ⟨es, c, h1, h2⟩ := h
  exact ⟨es, c, (k.block r hl hs).trans h1, h2⟩
theorem MapB.key {es : Array MapEntry} {ks : List Int} (h : es.toList.map (·.key) = ks.map (Value.int .i64)) : ∀ x ∈ es.toList, MapKept.IsKey (.int .i64) x.key := by
  intro x hx
  have : x.key ∈ es.toList.map (·.key) := List.mem_map_of_mem hx
  rw [h] at this
  obtain ⟨k, _, e⟩ := List.mem_map.1 this
  rw [← e]; trivial
theorem isKeyI (k : Int) : MapKept.IsKey (.int .i64) (.int .i64 k) := rfl
/-- where a key lies -/
theorem MapB.find {es : Array MapEntry} {ks : List Int} (h : es.toList.map (·.key) = ks.map (Value.int .i64)) (k : Int) :
    (k ∉ ks ∧ Instr.findNow (.int .i64) (.int .i64 k) es.toList 0 = some none) ∨ ∃ j e, Instr.findNow (.int .i64) (.int .i64 k) es.toList 0 = some (some (j, e.val)) ∧ es.toList[j]? = some e ∧ e.key = .int .i64 k ∧ ks[j]? = some k := by
  rcases MapKept.findNow_spec (isKeyI k) es.toList 0 (MapB.key h) with ⟨h1, h2⟩ | ⟨j, e, h1, h2, h3⟩
  · left
    refine ⟨fun hm => ?_, h1⟩
    have : Value.int .i64 k ∈ es.toList.map (·.key) := by rw [h]; exact List.mem_map_of_mem hm
    obtain ⟨x, hx, e⟩ := List.mem_map.1 this
    exact h2 x hx e
  · right
    refine ⟨j, e, by simpa using h1, h2, h3, ?_⟩
    have h4 : (es.toList.map (·.key))[j]? = some (.int .i64 k) := by rw [List.getElem?_map, h2]; simp [h3]
    rw [h, List.getElem?_map] at h4
    cases h5 : ks[j]? with
    | none => rw [h5] at h4; simp at h4
    | some v => rw [h5] at h4; simp at h4; rw [h4]
section
variable {w : World} {r : Nat} {ks : List Int}
theorem MapB.look (h : MapB w r ks) (k : Int) : (Instr.lookup 54 (.map (some r)) (.int .i64 k) false).run Try.prog w = .ok (.bool (decide (k ∈ ks))) w := by
  obtain ⟨es, c, hb, hk, hv, _⟩ := h
  unfold Instr.lookup
  simp only [Sem.run_bind, run_underlying Try.underlying54, Result.andThen, MapKept.run_getObj_map hb, Sem.run_pure, MapKept.run_checkKey Try.underlying3 (isKeyI k)]
  rcases MapB.find hk k with ⟨hn, hf⟩ | ⟨j, e, hf, he, _, hj⟩
  · rw [MapKept.run_findKey Try.underlying3 hf]
    simp [Try.zeroValue4, hn]
  · rw [MapKept.run_findKey Try.underlying3 hf]
    have hm : k ∈ ks := List.mem_of_getElem? hj
    have := hv e (List.mem_of_getElem? he)
    simp [this, hm]
theorem MapB.len (h : MapB w r ks) : (Builtin.len_ #[54] 3 #[.map (some r)]).run Try.prog w = .ok (.int .i64 ks.length) w := by
  obtain ⟨es, c, hb, hk, hv, _⟩ := h
  have hl : es.size = ks.length := by have := congrArg List.length hk; simpa using this
  have hu : Try.prog.underlying 54 = some (.map (Try.prog.mapKeyOf 54) (Try.prog.mapElemOf 54)) := by kernel_rfl
  rw [run_len_map w _ _ r es c hu hb, hl]
  rfl
/-- a world in which one block is another -/
abbrev World.put (w : World) (r : Nat) (o : Obj) : World := { w with heap := w.heap.setIfInBounds r o }
theorem put_keep (w : World) (r : Nat) (o : Obj) : Keep w.heap.size [r] w (World.put w r o) :=
  ⟨rfl, rfl, rfl, by simp, fun i _ hs => by simp at hs; simp [Ne.symm hs]⟩
theorem MapB.store (h : MapB w r ks) (k : Int) : ∃ w', (Instr.mapUpdate 54 (.map (some r)) (.int .i64 k) (.bool true)).run Try.prog w = .ok () w' ∧ MapB w' r (if k ∈ ks then ks else ks ++ [k]) ∧ Keep w.heap.size [r] w w' := by
  have hlt := h.lt
  obtain ⟨es, c, hb, hk, hv, hnd⟩ := h
  unfold Instr.mapUpdate
  simp only [Sem.run_bind, run_underlying Try.underlying54, Result.andThen, MapKept.run_getObj_map hb, Sem.run_pure, MapKept.run_checkKey Try.underlying3 (isKeyI k)]
  rcases MapB.find hk k with ⟨hn, hf⟩ | ⟨j, e, hf, he, hek, hj⟩
  · rw [MapKept.run_findKey Try.underlying3 hf]
    refine ⟨_, MapKept.run_setObj_map _ hb, ?_, put_keep w r _⟩
    rw [if_neg hn]
    refine ⟨_, _, (MapKept.heap_set hb).1, by simp [hk], fun x hx => ?_, ?_⟩
    · simp at hx
      rcases hx with hx | hx
      · exact hv x (by simpa using hx)
      · rw [hx]
    · rw [List.nodup_append]
      exact ⟨hnd, by simp, fun a ha b hb' => by simp at hb'; subst hb'; exact fun e => hn (e ▸ ha)⟩
  · rw [MapKept.run_findKey Try.underlying3 hf]
    have hm : k ∈ ks := List.mem_of_getElem? hj
    have he' : es[j]? = some e := by simpa using he
    have hst : (Instr.keyThatStays (.int .i64 k) (.int .i64 k)).run Try.prog w = .ok (.int .i64 k) w := by
      unfold Instr.keyThatStays
      rw [show Instr.sameBits 10000 (.int .i64 k) (.int .i64 k) = true from by simp [Instr.sameBits]]
      rfl
    have hev := hv e (List.mem_of_getElem? he)
    have hmod : (es.modify j fun e => { e with key := .int .i64 k, val := .bool true }) = es := by
      apply Array.ext_getElem?
      intro i
      rw [Array.getElem?_modify]
      by_cases hij : j = i
      · subst hij
        rw [if_pos rfl, he']
        cases e
        simp only at hek hev
        rw [hek, hev]
        rfl
      · rw [if_neg hij]
    simp only [he', Option.map_some, Option.getD_some, hek, Sem.run_bind, hst, Result.andThen]
    rw [hmod]
    refine ⟨_, MapKept.run_setObj_map _ hb, ?_, put_keep w r _⟩
    rw [if_pos hm]
    exact ⟨es, c, (MapKept.heap_set hb).1, hk, hv, hnd⟩
theorem MapB.drop (h : MapB w r ks) (k : Int) (t : TypeId) : ∃ w', (Builtin.delete_ #[54, 3] t #[.map (some r), .int .i64 k]).run Try.prog w = .ok (.tuple #[]) w' ∧ MapB w' r (ks.erase k) ∧ Keep w.heap.size [r] w w' := by
  obtain ⟨es, c, hb, hk, hv, hnd⟩ := h
  unfold Builtin.delete_
  have e0 : (#[54, 3] : Array TypeId)[0]? = some 54 := rfl
  have e1 : (#[Value.map (some r), .int .i64 k] : Array Value)[0]? = some (.map (some r)) := rfl
  have e2 : (#[Value.map (some r), .int .i64 k] : Array Value)[1]? = some (.int .i64 k) := rfl
  simp only [e0, e1, e2, Sem.run_bind, run_underlying Try.underlying54, Result.andThen, MapKept.run_getObj_map hb, Sem.run_pure, MapKept.run_checkKey Try.underlying3 (isKeyI k)]
  rcases MapB.find hk k with ⟨hn, hf⟩ | ⟨j, e, hf, he, hek, hj⟩
  · rw [MapKept.run_findKey Try.underlying3 hf]
    refine ⟨World.put w r (.map es c), by simp only [Sem.run_bind, MapKept.run_setObj_map _ hb, Result.andThen]; rfl, ?_, put_keep w r _⟩
    rw [List.erase_of_not_mem hn]
    exact ⟨es, c, (MapKept.heap_set hb).1, hk, hv, hnd⟩
  · rw [MapKept.run_findKey Try.underlying3 hf]
    refine ⟨World.put w r (.map (es.eraseIdxIfInBounds j) c), by simp only [Sem.run_bind, MapKept.run_setObj_map _ hb, Result.andThen]; rfl, ?_, put_keep w r _⟩
    have hjl : j < es.size := by have := (List.getElem?_eq_some_iff.1 he).1; simpa using this
    have hes : es.eraseIdxIfInBounds j = es.eraseIdx j hjl := by unfold Array.eraseIdxIfInBounds; rw [dif_pos hjl]
    have hke : ks.erase k = ks.eraseIdx j := by
      obtain ⟨hl, hg⟩ := List.getElem?_eq_some_iff.1 hj
      rw [List.erase_eq_eraseIdx_of_idxOf (i := j)]
      rw [← hg]
      exact (List.Nodup.idxOf_getElem hnd j hl)
    refine ⟨_, c, (MapKept.heap_set hb).1, ?_, fun x hx => ?_, hnd.erase k⟩
    · rw [hes, hke, Array.toList_eraseIdx, map_er, hk, map_er]
    · rw [hes, Array.toList_eraseIdx] at hx
      exact hv x (List.mem_of_mem_eraseIdx hx)
end
end Go.Proofs.Ytlceepknoijndaa
