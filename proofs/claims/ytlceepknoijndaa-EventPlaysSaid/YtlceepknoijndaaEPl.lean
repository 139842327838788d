/- Raise and Enable, the service's and the reference's, by what they do to the state. -/
import Derived.Test.YtlceepknoijndaaEAgr
namespace Go.Proofs.Ytlceepknoijndaa
set_option linter.unusedVariables false
set_option linter.unusedSimpArgs false
open Go.RowKit
/-- what Raise does -/
def PR (s : St) (x : Ev) (s' : St) (b : Bool) (z : Int) : Prop :=
  (badE x ∧ s' = s ∧ b = false ∧ z = 1) ∨ (∃ k : Nat, 1 ≤ k ∧ k ≤ 4 ∧ x.sv = (k : Int) ∧ (0 ≤ x.t ∧ x.t ≤ 1099511627776 ∧ 0 ≤ x.id ∧ x.id ≤ 65535) ∧ s' = bump s k (keepL s x) ∧ b = !decide (x.id ∈ s.off) ∧ z = 0)
theorem pr_ex (s : St) (x : Ev) : ∃ s' b z, PR s x s' b z := by
  by_cases h : badE x
  · exact ⟨s, false, 1, .inl ⟨h, rfl, rfl, rfl⟩⟩
  · have h' := h
    unfold badE at h'
    have hk : knP x.id = true := by cases hk : knP x.id with
      | true => rfl
      | false => exact absurd (.inr (.inr (.inl hk))) h'
    have hi : 0 ≤ x.id ∧ x.id ≤ 65535 := by simpa [knP] using hk
    refine ⟨_, _, _, .inr ⟨x.sv.toNat, ?_, ?_, ?_, ⟨?_, ?_, hi.1, hi.2⟩, rfl, rfl, rfl⟩⟩ <;> omega
structure Inv (q : Nat) (s : St) : Prop where
  m0 : 0 ≤ s.most
  m1 : s.most ≤ 256
  a1 : 0 ≤ s.c1 ∧ s.c1 ≤ (q : Int)
  a2 : 0 ≤ s.c2 ∧ s.c2 ≤ (q : Int)
  a3 : 0 ≤ s.c3 ∧ s.c3 ≤ (q : Int)
  a4 : 0 ≤ s.c4 ∧ s.c4 ≤ (q : Int)
  l : s.L.length ≤ q
  o : s.off.length ≤ q
theorem Inv.cnt {q : Nat} {s : St} (h : Inv q s) (k : Nat) (h1 : 1 ≤ k) (h4 : k ≤ 4) : 0 ≤ cntP s k ∧ cntP s k ≤ (q : Int) := by
  have : k = 1 ∨ k = 2 ∨ k = 3 ∨ k = 4 := by omega
  rcases this with rfl | rfl | rfl | rfl
  · exact h.a1
  · exact h.a2
  · exact h.a3
  · exact h.a4
theorem Inv.next {q : Nat} {s : St} (h : Inv q s) : Inv (q + 1) s := by
  obtain ⟨a, b, c, d, e, f, g, i⟩ := h
  exact ⟨a, b, by omega, by omega, by omega, by omega, by omega, by omega⟩
theorem Inv.raise {q : Nat} {s s' : St} {x : Ev} {b : Bool} {z : Int} (h : Inv q s) (hp : PR s x s' b z) : Inv (q + 1) s' := by
  rcases hp with ⟨_, rfl, _, _⟩ | ⟨k, h1, h4, _, _, rfl, _, _⟩
  · exact h.next
  · obtain ⟨a, b, c, d, e, f, g, i⟩ := h
    have hl : (keepL s x).length ≤ s.L.length + 1 := by unfold keepL; split <;> simp <;> omega
    refine ⟨a, b, ?_, ?_, ?_, ?_, by simp only [bump]; omega, by simp only [bump]; omega⟩ <;> simp only [bump] <;> split <;> omega
theorem Inv.en {q : Nat} {s s' : St} {id z : Int} {on : Bool} (h : Inv q s) (hp : enP s id on = (s', z)) : Inv (q + 1) s' := by
  obtain ⟨a, b, c, d, e, f, g, i⟩ := h
  unfold enP at hp
  split at hp
  · obtain ⟨rfl, _⟩ := Prod.mk.inj hp; exact (⟨a, b, c, d, e, f, g, i⟩ : Inv q s).next
  · split at hp
    · obtain ⟨rfl, _⟩ := Prod.mk.inj hp
      have := List.length_erase_le (a := id) (l := s.off)
      exact ⟨a, b, by simp only [setOff]; omega, by simp only [setOff]; omega, by simp only [setOff]; omega, by simp only [setOff]; omega, by simp only [setOff]; omega, by simp only [setOff]; omega⟩
    · split at hp
      · obtain ⟨rfl, _⟩ := Prod.mk.inj hp; exact (⟨a, b, c, d, e, f, g, i⟩ : Inv q s).next
      · obtain ⟨rfl, _⟩ := Prod.mk.inj hp
        have : (if id ∈ s.off then s.off else s.off ++ [id]).length ≤ s.off.length + 1 := by split <;> simp
        exact ⟨a, b, by simp only [setOff]; omega, by simp only [setOff]; omega, by simp only [setOff]; omega, by simp only [setOff]; omega, by simp only [setOff]; omega, by simp only [setOff]; omega⟩
theorem raise_of (w : World) (g r : Nat) (A : Option Addr) (n c : Nat) (s s' : St) (x : Ev) (b : Bool) (z : Int) (q : Nat) (hq : q ≤ 200) (hi : Inv q s) (hp : PR s x s' b z) (h : Sv w g r A n c s) : Calls Try.prog 10 #[pf g, eagg x] w (RaPost w g r A s' b z) := by
  rcases hp with ⟨hb, rfl, rfl, rfl⟩ | ⟨k, h1, h4, hsv, ⟨t0, t1, i0, i1⟩, rfl, rfl, rfl⟩
  · exact raise_bad w g r A n c s' x hb h
  · obtain ⟨c0, c1⟩ := hi.cnt k h1 h4
    have := hi.l
    exact raise_good w g r A n c s x k h1 h4 hsv t0 t1 (knP_in i0 i1) h c0 (by omega) (by omega) hi.m0 hi.m1 _ rfl
def QrPost (w : World) (s : St) (A : Option Addr) (n : Nat) (O : Option Addr) (m d : Nat) (b : Bool) (z : Int) (e : Ending) (w' : World) : Prop :=
  ∃ A2 n2 c2, e = .returned (.tuple #[ragg s A2 n2 c2 O m d, .bool b, .int .i64 z]) ∧ RS w' s A2 n2 c2 O m d ∧ Keep w.heap.size [] w w' ∧ ∀ y, y ∈ blks A2 → y ∈ blks A ∧ n = n2 ∨ w.heap.size ≤ y
theorem rraise_of (w : World) (s s' : St) (A : Option Addr) (n c : Nat) (O : Option Addr) (m d : Nat) (x : Ev) (b : Bool) (z : Int) (q : Nat) (hq : q ≤ 200) (hi : Inv q s) (hp : PR s x s' b z) (hR : RS w s A n c O m d) : Calls Try.prog 15 #[ragg s A n c O m d, eagg x] w (QrPost w s' A n O m d b z) := by
  rcases hp with ⟨hb, rfl, rfl, rfl⟩ | ⟨k, h1, h4, hsv, ⟨t0, t1, i0, i1⟩, rfl, rfl, rfl⟩
  · refine (rraise_bad w s' A n c O m d x hb).mono ?_
    rintro e w' ⟨rfl, hk⟩
    exact ⟨A, n, c, rfl, hR.keep0 hk, hk, fun y hy => .inl ⟨hy, rfl⟩⟩
  · obtain ⟨c0, c1⟩ := hi.cnt k h1 h4
    have := hi.l
    have := hi.o
    have := hR.ml
    refine (rraise_good w s A n c O m d x k h1 h4 hsv t0 t1 i0 i1 hR (by omega) c0 (by omega) (by omega) hi.m0 hi.m1 _ rfl).mono ?_
    rintro e w' ⟨A2, n2, c2, rfl, hr, hk, hb⟩
    exact ⟨A2, n2, c2, rfl, hr, hk, fun y hy => .inr (hb y hy)⟩
def QePost (w : World) (s : St) (A : Option Addr) (n c : Nat) (O : Option Addr) (m : Nat) (z : Int) (e : Ending) (w' : World) : Prop :=
  ∃ O2 m2 d2, e = .returned (.tuple #[ragg s A n c O2 m2 d2, .int .i64 z]) ∧ RS w' s A n c O2 m2 d2 ∧ Keep w.heap.size [] w w' ∧ ∀ y, y ∈ blks O2 → y ∈ blks O ∧ m = m2 ∨ w.heap.size ≤ y
theorem findZ_no {l : List Int} {id : Int} (h : id ∉ l) : findZ l id = -1 := by unfold findZ; rw [if_neg h]
theorem findZ_yes {l : List Int} {id : Int} (h : id ∈ l) : findZ l id = ((l.idxOf id : Nat) : Int) := by unfold findZ; rw [if_pos h]
theorem setOff_same (s : St) : setOff s s.off = s := rfl
theorem ren_of (w : World) (s s' : St) (A : Option Addr) (n c : Nat) (O : Option Addr) (m d : Nat) (id : Int) (on : Bool) (z : Int) (q : Nat) (hq : q ≤ 200) (hi : Inv q s) (hp : enP s id on = (s', z)) (hR : RS w s A n c O m d) : Calls Try.prog 16 #[ragg s A n c O m d, .int .i64 id, .bool on] w (QePost w s' A n c O m z) := by
  have hm := hR.ml
  have ho := hi.o
  have same : ∀ z, ((id < 0 ∧ z = 1) ∨ (0 ≤ id ∧ 65535 < id ∧ z = 1) ∨ (0 ≤ id ∧ id ≤ 65535 ∧ on = false ∧ findZ s.off id = -1 ∧ 256 ≤ m ∧ z = 7) ∨ (0 ≤ id ∧ id ≤ 65535 ∧ on = false ∧ 0 ≤ findZ s.off id ∧ z = 0) ∨ (0 ≤ id ∧ id ≤ 65535 ∧ on = true ∧ findZ s.off id = -1 ∧ z = 0)) →
      Calls Try.prog 16 #[ragg s A n c O m d, .int .i64 id, .bool on] w (QePost w s A n c O m z) := fun z hz => by
    refine (ren_same w s A n c O m d id on z hR (by omega) hz).mono ?_
    rintro e w' ⟨rfl, hk⟩
    exact ⟨O, m, d, rfl, hR.keep0 hk, hk, fun y hy => .inl ⟨hy, rfl⟩⟩
  unfold enP at hp
  cases hkn : knP id with
  | false =>
    rw [if_pos hkn] at hp
    obtain ⟨rfl, rfl⟩ := Prod.mk.inj hp
    have hx : ¬ (0 ≤ id ∧ id ≤ 65535) := by simpa [knP] using hkn
    by_cases h0 : id < 0
    · exact same 1 (.inl ⟨h0, rfl⟩)
    · exact same 1 (.inr (.inl ⟨by omega, by omega, rfl⟩))
  | true =>
    rw [if_neg (by rw [hkn]; decide)] at hp
    have hx : 0 ≤ id ∧ id ≤ 65535 := by simpa [knP] using hkn
    cases on with
    | true =>
      rw [if_pos rfl] at hp
      obtain ⟨rfl, rfl⟩ := Prod.mk.inj hp
      by_cases hin : id ∈ s.off
      · refine (ren_del w s A n c O m d id _ hR (by omega) hx.1 hx.2 (findZ_yes hin)).mono ?_
        rintro e w' ⟨O2, m2, d2, rfl, hr, hk, hb⟩
        exact ⟨O2, m2, d2, rfl, hr, hk, fun y hy => .inr (hb y hy)⟩
      · rw [List.erase_of_not_mem hin, setOff_same]
        exact same 0 (.inr (.inr (.inr (.inr ⟨hx.1, hx.2, rfl, findZ_no hin, rfl⟩))))
    | false =>
      rw [if_neg (by decide)] at hp
      by_cases hin : id ∈ s.off
      · rw [if_neg (fun h => h.1 hin), if_pos hin] at hp
        obtain ⟨rfl, rfl⟩ := Prod.mk.inj hp
        rw [setOff_same]
        exact same 0 (.inr (.inr (.inr (.inl ⟨hx.1, hx.2, rfl, by rw [findZ_yes hin]; omega, rfl⟩))))
      · rw [if_neg (fun h => by omega), if_neg hin] at hp
        obtain ⟨rfl, rfl⟩ := Prod.mk.inj hp
        refine (ren_add w s A n c O m d id hR (by omega) hx.1 hx.2 (findZ_no hin)).mono ?_
        rintro e w' ⟨O2, m2, d2, rfl, hr, hk, hb⟩
        exact ⟨O2, m2, d2, rfl, hr, hk, fun y hy => .inr (hb y hy)⟩
end Go.Proofs.Ytlceepknoijndaa
