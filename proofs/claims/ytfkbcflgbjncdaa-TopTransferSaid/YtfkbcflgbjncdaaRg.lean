/- A drawn region whose last operation waits for all others: the condition on the world is wanted before that operation only. -/
import Derived.Test.YtfkbcflgbjncdaaLL
import Derived.Deep.RegionHeld3
namespace Go.Proofs.Ytfkbcflgbjncdaa
set_option linter.unusedVariables false
set_option linter.unusedSimpArgs false
open Go.RowKit
section
variable {P : Program} {ops : Array Oper} {Q : Exit → Act → World → Prop} {md : Region.Mode} {S : World → Prop}
/-- z waits for i -/
def awaits (md : Region.Mode) (ops : Array Oper) (z i : Nat) : Bool := match ops[z]? with
  | some o => o.after.any fun e => Region.binds md e && e.on == i
  | none => false
theorem awaits_out {z i : Nat} (h : awaits md ops z i = true) : ∃ o, ops[z]? = some o ∧ ∃ e ∈ o.after, Region.binds md e = true ∧ e.on = i := by
  unfold awaits at h
  split at h
  · rename_i o ho
    obtain ⟨e, he, hb⟩ := Array.any_eq_true'.1 h
    simp only [Bool.and_eq_true, beq_iff_eq] at hb
    exact ⟨o, ho, e, he, hb⟩
  · cases h
/-- whatever order is picked; S holds as long as z has not come up -/
def anyZ (P : Program) (md : Region.Mode) (ops : Array Oper) (Q : Exit → Act → World → Prop) (S : World → Prop) (z : Nat) : Nat → Array Bool → Act → World → Prop
  | 0, l, a, w => Region.ready md ops l = [] ∧ Q .normal a w
  | n + 1, l, a, w => (Region.ready md ops l = [] → Q .normal a w) ∧ ∀ i ∈ Region.ready md ops l, wpOp P ops Q i (fun a' w' => ((l.setIfInBounds i true).getD z false = false → S w') ∧ anyZ P md ops Q S z n (l.setIfInBounds i true) a' w') a w
theorem anyZ.any {z : Nat} : ∀ {n : Nat} {l : Array Bool} {a : Act} {w : World}, anyZ P md ops Q S z n l a w → wpAny P md ops Q n l a w
  | 0, _, _, _, h => h
  | _ + 1, _, _, _, h => ⟨h.1, fun i hi => wpOp_mono (fun _ _ h' => anyZ.any h'.2) (h.2 i hi)⟩
theorem setD {i z : Nat} {l : Array Bool} (h : (l.setIfInBounds i true).getD z false = false) : l.getD z false = false := by
  cases hl : l.getD z false with
  | false => rfl
  | true => rw [getD_set_true hl] at h; cases h
theorem unlisted {i : Nat} {l : Array Bool} (h : i ∈ Region.ready md ops l) : l.getD i false = false := by
  have := (mem_ready.1 h).1
  rcases Nat.lt_or_ge i l.size with h' | h'
  · simp [h'] at this ⊢; exact this
  · simp [Array.getElem?_eq_none h'] at this
theorem waits_not {z i : Nat} {l : Array Bool} (hz : awaits md ops z i = true) (h : i ∈ Region.ready md ops l) : z ∉ Region.ready md ops l := fun hr => by
  obtain ⟨oj, hj, e, he, hb, hi⟩ := awaits_out hz
  obtain ⟨_, o, ho, hall⟩ := mem_ready.1 hr
  rw [hj] at ho
  cases ho
  have := hall e he hb
  rw [hi, unlisted h] at this
  cases this
theorem apart_of {j i : Nat} {oi oj : Oper} {l : Array Bool} (hj : ops[j]? = some oj) (hall : ∀ e ∈ oj.after, Region.binds md e = true → l.getD e.on false = true) (hji : j ≠ i) (hun : l.getD j true = false)
    (hfree : ∀ j oj, ops[j]? = some oj → j ≠ i → l.getD j true = false → (∀ e ∈ oj.after, Region.binds md e = true → e.on ≠ i) → oi.apart ops oj = true) (hr : i ∈ Region.ready md ops l) : oi.apart ops oj = true :=
  hfree j oj hj hji hun (fun e he hb heq => by
    have h1 := hall e he hb
    rw [heq, unlisted hr] at h1
    cases h1)
/-- taken first, S wanted -/
theorem anyZ.first {z i : Nat} {oi : Oper} {v : Value} (hi : ops[i]? = some oi) (hz : awaits md ops z i = true) (hsel : ∀ (j : Nat) (o : Oper) cs b, ops[j]? = some o → o.op ≠ .select cs b)
    (hQ : ∀ c a w, Q (.panic c) (a.put oi.dst v) w → Q (.panic c) a w) :
    ∀ (n : Nat) (l : Array Bool) (a : Act) (w : World), l.getD z false = false →
      (∀ j oj, ops[j]? = some oj → j ≠ i → l.getD j true = false → (∀ e ∈ oj.after, Region.binds md e = true → e.on ≠ i) → oi.apart ops oj = true) →
      i ∈ Region.ready md ops l → YieldsIf P ops S oi v a → S w → anyZ P md ops Q S z n (l.setIfInBounds i true) (a.put oi.dst v) w → anyZ P md ops Q S z (n + 1) l a w
  | 0, l, a, w, _, _, hr, hy, hS, H => ⟨fun h => absurd (h ▸ hr) (by simp), fun j hj => by
      by_cases hji : j = i
      · subst hji; exact hy.wpOp hi hS ⟨fun _ => hS, H⟩
      · have := ready_mono hj hji
        rw [H.1] at this
        cases this⟩
  | n + 1, l, a, w, hlz, hfree, hr, hy, hS, H => ⟨fun h => absurd (h ▸ hr) (by simp), fun j hj => by
      by_cases hji : j = i
      · subst hji; exact hy.wpOp hi hS ⟨fun _ => hS, H⟩
      · have hjz : j ≠ z := fun h => waits_not hz hr (h ▸ hj)
        have hiz : i ≠ z := fun h => waits_not hz hr (h ▸ hr)
        have hlz' : (l.setIfInBounds j true).getD z false = false := by rw [getD_set_ne false hjz]; exact hlz
        obtain ⟨hun, oj, hoj, hall⟩ := mem_ready.1 hj
        have h2 := wpOp_putIf hoj (apart_of hoj hall hji hun hfree hr) (fun cs b => hsel i oi cs b hi) (fun cs b => hsel j oj cs b hoj) hQ hy (H.2 j (ready_mono hj hji))
        refine wpOp_mono (fun a' w' h3 => ?_) h2
        have hS' : S w' := h3.2.1 (by rw [getD_set_ne false hjz, getD_set_ne false hiz]; exact hlz)
        refine ⟨fun _ => hS', anyZ.first hi hz hsel hQ n _ a' w' hlz' (fun k ok hk hki hun' hno => hfree k ok hk hki (by
          by_cases hjk : j = k
          · subst hjk; exact hun
          · rw [getD_set_ne true hjk] at hun'; exact hun') hno) (ready_mono hr (Ne.symm hji)) h3.1 hS' ?_⟩
        rw [Array.setIfInBounds_comm _ _ hji]
        exact h3.2.2⟩
/-- taken first, in whatever world -/
theorem anyZ.firstU {z i : Nat} {oi : Oper} {v : Value} (hi : ops[i]? = some oi) (hsel : ∀ (j : Nat) (o : Oper) cs b, ops[j]? = some o → o.op ≠ .select cs b)
    (hQ : ∀ c a w, Q (.panic c) (a.put oi.dst v) w → Q (.panic c) a w) :
    ∀ (n : Nat) (l : Array Bool) (a : Act) (w : World), i ≠ z →
      (∀ j oj, ops[j]? = some oj → j ≠ i → l.getD j true = false → (∀ e ∈ oj.after, Region.binds md e = true → e.on ≠ i) → oi.apart ops oj = true) →
      i ∈ Region.ready md ops l → YieldsIf P ops (fun _ => True) oi v a → (l.getD z false = false → S w) → anyZ P md ops Q S z n (l.setIfInBounds i true) (a.put oi.dst v) w → anyZ P md ops Q S z (n + 1) l a w
  | 0, l, a, w, _, _, hr, hy, hS, H => ⟨fun h => absurd (h ▸ hr) (by simp), fun j hj => by
      by_cases hji : j = i
      · subst hji; exact hy.wpOp hi trivial ⟨fun h => hS (setD h), H⟩
      · have := ready_mono hj hji
        rw [H.1] at this
        cases this⟩
  | n + 1, l, a, w, hiz, hfree, hr, hy, hS, H => ⟨fun h => absurd (h ▸ hr) (by simp), fun j hj => by
      by_cases hji : j = i
      · subst hji; exact hy.wpOp hi trivial ⟨fun h => hS (setD h), H⟩
      · obtain ⟨hun, oj, hoj, hall⟩ := mem_ready.1 hj
        have h2 := wpOp_putIf hoj (apart_of hoj hall hji hun hfree hr) (fun cs b => hsel i oi cs b hi) (fun cs b => hsel j oj cs b hoj) hQ hy (H.2 j (ready_mono hj hji))
        refine wpOp_mono (fun a' w' h3 => ?_) h2
        have hS' : (l.setIfInBounds j true).getD z false = false → S w' := fun h => h3.2.1 (by rw [Array.setIfInBounds_comm _ _ (Ne.symm hji), getD_set_ne false hiz]; exact h)
        refine ⟨hS', anyZ.firstU hi hsel hQ n _ a' w' hiz (fun k ok hk hki hun' hno => hfree k ok hk hki (by
          by_cases hjk : j = k
          · subst hjk; exact hun
          · rw [getD_set_ne true hjk] at hun'; exact hun') hno) (ready_mono hr (Ne.symm hji)) h3.1 hS' ?_⟩
        rw [Array.setIfInBounds_comm _ _ hji]
        exact h3.2.2⟩
/-- take number i first -/
theorem anyZ.take {z i : Nat} {oi : Oper} {v : Value} {n : Nat} {l : Array Bool} {a : Act} {w : World} (hi : ops[i]? = some oi) (hz : awaits md ops z i = true) (hlz : l.getD z false = false)
    (hs : Region.noSelect ops = true) (hf : Region.free md ops l i = true) (hr : (Region.ready md ops l).contains i = true)
    (hQ : ∀ c a w, Q (.panic c) (a.put oi.dst v) w → Q (.panic c) a w) (hy : YieldsIf P ops S oi v a) (hS : S w)
    (h : anyZ P md ops Q S z n (l.setIfInBounds i true) (a.put oi.dst v) w) : anyZ P md ops Q S z (n + 1) l a w :=
  anyZ.first hi hz (Region.noSelect_spec hs) hQ n l a w hlz (Region.free_spec hi hf) (by simpa using hr) hy hS h
theorem anyZ.takeU {z i : Nat} {oi : Oper} {v : Value} {n : Nat} {l : Array Bool} {a : Act} {w : World} (hi : ops[i]? = some oi) (hz : i ≠ z)
    (hs : Region.noSelect ops = true) (hf : Region.free md ops l i = true) (hr : (Region.ready md ops l).contains i = true)
    (hQ : ∀ c a w, Q (.panic c) (a.put oi.dst v) w → Q (.panic c) a w) (hy : YieldsIf P ops (fun _ => True) oi v a) (hS : S w)
    (h : anyZ P md ops Q S z n (l.setIfInBounds i true) (a.put oi.dst v) w) : anyZ P md ops Q S z (n + 1) l a w :=
  anyZ.firstU hi (Region.noSelect_spec hs) hQ n l a w hz (Region.free_spec hi hf) (by simpa using hr) hy (fun _ => hS) h
/-- each of 'rs' comes up next -/
def AllZ (P : Program) (md : Region.Mode) (ops : Array Oper) (Q : Exit → Act → World → Prop) (S : World → Prop) (z n : Nat) (l : Array Bool) (a : Act) (w : World) (rs : List Nat) : Prop :=
  ∀ i ∈ rs, wpOp P ops Q i (fun a' w' => ((l.setIfInBounds i true).getD z false = false → S w') ∧ anyZ P md ops Q S z n (l.setIfInBounds i true) a' w') a w
theorem AllZ.nil {z n : Nat} {l : Array Bool} {a : Act} {w : World} : AllZ P md ops Q S z n l a w [] := fun _ h => by cases h
theorem AllZ.cons {z n : Nat} {l : Array Bool} {a : Act} {w : World} {i : Nat} {o : Oper} {rs : List Nat} (ho : ops[i]? = some o)
    (h : ∀ K' : Act → World → Prop, Shut (∀ a w, ((l.setIfInBounds i true).getD z false = false → S w) → (((l.setIfInBounds i true).getD z false = false → S w) → anyZ P md ops Q S z n (l.setIfInBounds i true) a w) → K' a w) → if Region.wanted o (yielded ops a.tmps) = true then Oper.wp P o a w K' Q else K' (a.put o.dst undef) w)
    (hs : AllZ P md ops Q S z n l a w rs) : AllZ P md ops Q S z n l a w (i :: rs) := fun j hj => by
  rcases List.mem_cons.1 hj with rfl | hj
  · exact wpOp_step ho (fun K' hK => h K' (fun a w hS hW => hK a w ⟨hS, hW hS⟩))
  · exact hs j hj
theorem anyZ.ready {z n : Nat} {rs : List Nat} {l : Array Bool} {a : Act} {w : World} (hr : Region.ready md ops l = rs) (hne : rs ≠ []) (h : AllZ P md ops Q S z n l a w rs) : anyZ P md ops Q S z (n + 1) l a w :=
  ⟨fun h0 => absurd (hr ▸ h0) hne, hr ▸ h⟩
theorem anyZ.done {z : Nat} {l : Array Bool} {a : Act} {w : World} (hr : Region.ready md ops l = []) (h : Q .normal a w) : ∀ n, anyZ P md ops Q S z n l a w
  | 0 => ⟨hr, h⟩
  | _ + 1 => ⟨fun _ => h, by rw [hr]; simp⟩
theorem region_anyZ (z : Nat) {id : Nat} {a : Act} {w : World} (hm : P.follows .mixedOrders = true) (hS : S w.drew) (h : S w.drew → anyZ P .any ops Q S z ops.size (Array.replicate ops.size false) a w.drew) : (Code.region id ops true).wp P Q a w :=
  wp_region_any hm (h hS).any
end
end Go.Proofs.Ytfkbcflgbjncdaa
