/- The world of EventPlays. -/
import Derived.Test.YtlceepknoijndaaEPl
namespace Go.Proofs.Ytlceepknoijndaa
set_option linter.unusedVariables false
set_option linter.unusedSimpArgs false
open Go.RowKit
/-- a call of the law's list -/
structure Opn where
  call : Int
  e : Ev
  id : Int
  on : Bool
abbrev ocells (x : Opn) : List Value := [.int .i64 x.call, .int .i64 x.e.t, .int .i64 x.e.id, .int .i64 x.e.sv, .int .i64 x.e.vl, .int .i64 x.id, .bool x.on]
abbrev opns (l : List Opn) : List Value := l.flatMap ocells
theorem opns_len : ∀ l : List Opn, (opns l).length = l.length * 7
  | [] => rfl
  | e :: l => by rw [show opns (e :: l) = ocells e ++ opns l from rfl, List.length_append, opns_len l]; simp; omega
theorem opns_get : ∀ (l : List Opn) (k : Nat) (y : Opn) (j : Nat), l[k]? = some y → j < 7 → (opns l)[k * 7 + j]? = (ocells y)[j]?
  | [], k, y, j, h, _ => by simp at h
  | x :: l, 0, y, j, h, hj => by
    simp at h; subst h
    show (ocells x ++ opns l)[0 * 7 + j]? = _
    rw [List.getElem?_append_left (by simp [ocells]; omega), Nat.zero_mul, Nat.zero_add]
  | x :: l, k + 1, y, j, h, hj => by
    show (ocells x ++ opns l)[(k + 1) * 7 + j]? = _
    rw [List.getElem?_append_right (by simp [ocells]; omega), show (k + 1) * 7 + j - (ocells x).length = k * 7 + j by simp [ocells]; omega]
    exact opns_get l k y j (by simpa using h) hj
theorem opn_at {W : World} {X : Option Addr} {m k : Nat} {L : List Opn} {y : Opn} (h : Vw W X m 7 (opns L)) (hk : k < m) (hy : L[k]? = some y) : ∃ b o, X = some ⟨b, o, none⟩ ∧ W.cell? ⟨b, o + k * 7, none⟩ = some (.int .i64 y.call) ∧ W.cell? ⟨b, o + k * 7 + 1, none⟩ = some (.int .i64 y.e.t) ∧ W.cell? ⟨b, o + k * 7 + 2, none⟩ = some (.int .i64 y.e.id) ∧ W.cell? ⟨b, o + k * 7 + 3, none⟩ = some (.int .i64 y.e.sv) ∧ W.cell? ⟨b, o + k * 7 + 4, none⟩ = some (.int .i64 y.e.vl) ∧ W.cell? ⟨b, o + k * 7 + 5, none⟩ = some (.int .i64 y.id) ∧ W.cell? ⟨b, o + k * 7 + 6, none⟩ = some (.bool y.on) := by
  obtain ⟨b, o, rfl, hb, hc⟩ := h.2 (by omega)
  exact ⟨b, o, rfl, hc (k * 7) _ (opns_get L k y 0 hy (by omega)), hc (k * 7 + 1) _ (opns_get L k y 1 hy (by omega)), hc (k * 7 + 2) _ (opns_get L k y 2 hy (by omega)), hc (k * 7 + 3) _ (opns_get L k y 3 hy (by omega)), hc (k * 7 + 4) _ (opns_get L k y 4 hy (by omega)), hc (k * 7 + 5) _ (opns_get L k y 5 hy (by omega)), hc (k * 7 + 6) _ (opns_get L k y 6 hy (by omega))⟩
/-- a world that holds the service (state s) and, in block v, the reference's (state t) -/
structure PW (w W : World) (v g r : Nat) (A : Option Addr) (n c : Nat) (s : St) (A' : Option Addr) (n' c' : Nat) (O : Option Addr) (m d : Nat) (t : St) : Prop where
  sw : SW w W g r A n c s
  rb : Blk W v 42 (rcells t A' n' c' O m d)
  hv : w.heap.size ≤ v
  rs : RS W t A' n' c' O m d
  vg : v ≠ g
  vr : v ≠ r
  vA : v ∉ blks A
  dA : 0 < n' → ∀ y, y ∈ blks A' → y < W.heap.size ∧ y ≠ g ∧ y ≠ r ∧ y ∉ blks A ∧ y ≠ v
  dO : 0 < m → ∀ y, y ∈ blks O → y < W.heap.size ∧ y ≠ g ∧ y ≠ r ∧ y ∉ blks A ∧ y ≠ v
section
variable {w W W' : World} {v g r n c n' c' m d n2 c2 m2 d2 : Nat} {A A' O A2 O2 : Option Addr} {s s' t t' : St}
theorem PW.next (h : PW w W v g r A n c s A' n' c' O m d t) (k : Keep W.heap.size [] W W') : PW w W' v g r A n c s A' n' c' O m d t :=
  ⟨h.sw.next k, h.rb.keepS k (by simp), h.hv, h.rs.keep0 k, h.vg, h.vr, h.vA, fun hn y hy => by have := h.dA hn y hy; have := k.size; exact ⟨by omega, (h.dA hn y hy).2⟩, fun hn y hy => by have := h.dO hn y hy; have := k.size; exact ⟨by omega, (h.dO hn y hy).2⟩⟩
theorem PW.praise (h : PW w W v g r A n c s A' n' c' O m d t) (h1 : Sv W' g r A2 n2 c2 s') (hk : Keep W.heap.size (g :: blks A) W W') (hb : ∀ y, y ∈ blks A2 → y ∈ blks A ∨ W.heap.size ≤ y) : PW w W' v g r A2 n2 c2 s' A' n' c' O m d t := by
  have hz := hk.size
  have hlt := h.rb.lt
  refine ⟨h.sw.raise h1 hk hb, h.rb.keepS hk (by simp only [List.mem_cons, not_or]; exact ⟨h.vg, h.vA⟩), h.hv, ⟨h.rs.ev.keepP hk (fun hn y hy => ?_), h.rs.of.keepP hk (fun hn y hy => ?_), h.rs.nl, h.rs.ml, h.rs.nc, h.rs.cm, h.rs.md, h.rs.dm⟩, h.vg, h.vr, fun hx => ?_, fun hn y hy => ?_, fun hn y hy => ?_⟩
  · obtain ⟨_, b, _, e, _⟩ := h.dA hn y hy
    simp only [List.mem_cons, not_or]; exact ⟨b, e⟩
  · obtain ⟨_, b, _, e, _⟩ := h.dO hn y hy
    simp only [List.mem_cons, not_or]; exact ⟨b, e⟩
  · rcases hb v hx with hx | hx
    · exact h.vA hx
    · omega
  · obtain ⟨a, b, c, e, f⟩ := h.dA hn y hy
    refine ⟨by omega, b, c, fun hx => ?_, f⟩
    rcases hb y hx with hx | hx
    · exact e hx
    · omega
  · obtain ⟨a, b, c, e, f⟩ := h.dO hn y hy
    refine ⟨by omega, b, c, fun hx => ?_, f⟩
    rcases hb y hx with hx | hx
    · exact e hx
    · omega
theorem PW.pen (h : PW w W v g r A n c s A' n' c' O m d t) (h1 : Sv W' g r A n c s') (hk : Keep W.heap.size [r] W W') : PW w W' v g r A n c s' A' n' c' O m d t := by
  have hz := hk.size
  refine ⟨h.sw.enable h1 hk, h.rb.keepS hk (by simpa using h.vr), h.hv, ⟨h.rs.ev.keepP hk (fun hn y hy => by simpa using (h.dA hn y hy).2.2.1), h.rs.of.keepP hk (fun hn y hy => by simpa using (h.dO hn y hy).2.2.1), h.rs.nl, h.rs.ml, h.rs.nc, h.rs.cm, h.rs.md, h.rs.dm⟩, h.vg, h.vr, h.vA, fun hn y hy => ?_, fun hn y hy => ?_⟩
  · have := h.dA hn y hy; exact ⟨by omega, this.2⟩
  · have := h.dO hn y hy; exact ⟨by omega, this.2⟩
/-- the reference's service is another: first new memory, then the store into block v -/
theorem PW.rset {F : World} (h : PW w W v g r A n c s A' n' c' O m d t) (k : Keep W.heap.size [] W W') (hr : RS W' t' A2 n2 c2 O2 m2 d2) (kF : Keep W'.heap.size [v] W' F) (hF : Blk F v 42 (rcells t' A2 n2 c2 O2 m2 d2))
    (hA : ∀ y, y ∈ blks A2 → y ∈ blks A' ∧ n' = n2 ∨ W.heap.size ≤ y) (hO : ∀ y, y ∈ blks O2 → y ∈ blks O ∧ m = m2 ∨ W.heap.size ≤ y) : PW w F v g r A n c s A2 n2 c2 O2 m2 d2 t' := by
  have hz := k.size
  have hzF := kF.size
  have hlt := h.rb.lt
  have hg := h.sw.sv.blk.lt
  have hrl := h.sw.sv.mp.lt
  have hAb : ∀ y, y ∈ blks A → y < W.heap.size := fun y hy => h.sw.sv.sl.blk hy
  have s1 := h.sw.next k
  have fA : 0 < n2 → ∀ y, y ∈ blks A2 → y < W'.heap.size ∧ y ≠ g ∧ y ≠ r ∧ y ∉ blks A ∧ y ≠ v := fun hn y hy => by
    obtain ⟨b, o, rfl, hb, _⟩ := hr.ev.2 hn
    have e : y = b := by simpa [blks] using hy
    subst e
    rcases hA y hy with ⟨h1, rfl⟩ | h1
    · exact ⟨hb, (h.dA hn y h1).2⟩
    · exact ⟨hb, by omega, by omega, fun hx => by have := hAb y hx; omega, by omega⟩
  have fO : 0 < m2 → ∀ y, y ∈ blks O2 → y < W'.heap.size ∧ y ≠ g ∧ y ≠ r ∧ y ∉ blks A ∧ y ≠ v := fun hn y hy => by
    obtain ⟨b, o, rfl, hb, _⟩ := hr.of.2 hn
    have e : y = b := by simpa [blks] using hy
    subst e
    rcases hO y hy with ⟨h1, rfl⟩ | h1
    · exact ⟨hb, (h.dO hn y h1).2⟩
    · exact ⟨hb, by omega, by omega, fun hx => by have := hAb y hx; omega, by omega⟩
  refine ⟨⟨s1.keep.chain1 (Nat.le_refl _) kF h.hv, s1.sv.keepS kF (by simpa using Ne.symm h.vg) (by simpa using Ne.symm h.vr) (fun x hx => by simp; rintro rfl; exact h.vA hx), s1.hg, s1.hr, s1.hA⟩, hF, h.hv,
    ⟨hr.ev.keepP kF (fun hn y hy => by simpa using (fA hn y hy).2.2.2.2), hr.of.keepP kF (fun hn y hy => by simpa using (fO hn y hy).2.2.2.2), hr.nl, hr.ml, hr.nc, hr.cm, hr.md, hr.dm⟩, h.vg, h.vr, h.vA, fun hn y hy => ?_, fun hn y hy => ?_⟩
  · have := fA hn y hy; exact ⟨by omega, this.2⟩
  · have := fO hn y hy; exact ⟨by omega, this.2⟩
theorem PW.rset8 (h : PW w W v g r A n c s A' n' c' O m d t) (k : Keep W.heap.size [] W W') (hr : RS W' t' A2 n2 c2 O2 m2 d2)
    (hA : ∀ y, y ∈ blks A2 → y ∈ blks A' ∧ n' = n2 ∨ W.heap.size ≤ y) (hO : ∀ y, y ∈ blks O2 → y ∈ blks O ∧ m = m2 ∨ W.heap.size ≤ y) :
    PW w ((((((((W'.setCell ⟨v, 0, none⟩ (.int .i64 t'.most)).setCell ⟨v, 1, none⟩ (.slice A2 n2 c2)).setCell ⟨v, 2, none⟩ (.slice O2 m2 d2)).setCell ⟨v, 3, none⟩ (.int .i64 t'.c0)).setCell ⟨v, 4, none⟩ (.int .i64 t'.c1)).setCell ⟨v, 5, none⟩ (.int .i64 t'.c2)).setCell ⟨v, 6, none⟩ (.int .i64 t'.c3)).setCell ⟨v, 7, none⟩ (.int .i64 t'.c4)) v g r A n c s A2 n2 c2 O2 m2 d2 t' := by
  have hb := h.rb.keepS k (by simp)
  have hm : v ∈ [v] := by simp
  have k8 := (((((((((Keep.refl W'.heap.size [v] W').setS (i := 0) (u := (.int .i64 t'.most)) hm).setS (i := 1) (u := (.slice A2 n2 c2)) hm).setS (i := 2) (u := (.slice O2 m2 d2)) hm).setS (i := 3) (u := (.int .i64 t'.c0)) hm).setS (i := 4) (u := (.int .i64 t'.c1)) hm).setS (i := 5) (u := (.int .i64 t'.c2)) hm).setS (i := 6) (u := (.int .i64 t'.c3)) hm).setS (i := 7) (u := (.int .i64 t'.c4)) hm)
  have e8 := (((((((hb.set_ 0 (.int .i64 t'.most)).set_ 1 (.slice A2 n2 c2)).set_ 2 (.slice O2 m2 d2)).set_ 3 (.int .i64 t'.c0)).set_ 4 (.int .i64 t'.c1)).set_ 5 (.int .i64 t'.c2)).set_ 6 (.int .i64 t'.c3)).set_ 7 (.int .i64 t'.c4)
  simp only [List.setIfInBounds_toArray, List.set_cons_zero, List.set_cons_succ] at e8
  exact h.rset k hr k8 e8 hA hO
/-- from here on the clone is the service -/
theorem PW.clone {B g2 r2 : Nat} (h : PW w W' v g r A n c s A' n' c' O m d t) (hC : Sv W' g2 r2 A2 n2 c2 s') (h1 : w.heap.size ≤ B) (h2 : v < B) (hA : 0 < n' → ∀ y, y ∈ blks A' → y < B) (hO : 0 < m → ∀ y, y ∈ blks O → y < B) (hg : B ≤ g2) (hr : B ≤ r2) (hb : ∀ y, y ∈ blks A2 → B ≤ y) : PW w W' v g2 r2 A2 n2 c2 s' A' n' c' O m d t := by
  refine ⟨⟨h.sw.keep, hC, by omega, by omega, fun y hy => by have := hb y hy; omega⟩, h.rb, h.hv, h.rs, by omega, by omega, fun hx => by have := hb v hx; omega, fun hn y hy => ?_, fun hn y hy => ?_⟩
  · have h3 := hA hn y hy; have := h.dA hn y hy
    exact ⟨this.1, by omega, by omega, fun hx => by have := hb y hx; omega, this.2.2.2.2⟩
  · have h3 := hO hn y hy; have := h.dO hn y hy
    exact ⟨this.1, by omega, by omega, fun hx => by have := hb y hx; omega, this.2.2.2.2⟩
end
end Go.Proofs.Ytlceepknoijndaa
