/- The reference's ledger: Right, Seen, Newest. -/
import Derived.Test.YthpngafglljgnaaLRel
import Derived.Test.YthpngafglljgnaaBig
namespace Go.Proofs.Ythpngafglljgnaa
set_option linter.unusedVariables false
set_option linter.unusedSimpArgs false
open Go.RowKit
abbrev nums (l : List Int) : List Value := l.map (Value.int .i64)
def OneV (w : World) (cs : Array Value) (i : Nat) (x : Mo) : Prop := ∃ A n c, cs[i * 2]? = some (.int .i64 x.n) ∧ cs[i * 2 + 1]? = some (.slice A n c) ∧ Vw w A n 1 (nums x.s) ∧ n ≤ c ∧ c ≤ maxLen ∧ Sl w 3 1 A n c (nums x.s)
/-- the cells of a reference's ledger -/
structure RV (w : World) (cs : Array Value) (M : List Mo) : Prop where
  sz : cs.size = 32
  one : cs.all (·.oneCell') = true
  ml : M.length = 16
  at_ : ∀ i x, M[i]? = some x → OneV w cs i x
theorem RV.keep0 {w w' : World} {cs : Array Value} {M : List Mo} (h : RV w cs M) (k : Keep w.heap.size [] w w') : RV w' cs M :=
  ⟨h.sz, h.one, h.ml, fun i x hx => by obtain ⟨A, n, c, h1, h2, h3, h4⟩ := h.at_ i x hx; exact ⟨A, n, c, h1, h2, h3.keep0 k, h4.1, h4.2.1, h4.2.2.keep0 k⟩⟩
/-- bounds -/
def MB (q : Nat) (M : List Mo) : Prop := ∀ x ∈ M, (0 ≤ x.n ∧ x.n ≤ 65535) ∧ x.s.length ≤ q
def rightP (s n : Int) : Bool := okS s && okN n
set_option maxHeartbeats 400000 in
theorem right_any (w : World) (s n : Int) (v : Bool) (hv : rightP s n = v) : Calls Try.prog 18 #[.int .i64 s, .int .i64 n] w fun e w' => e = .returned (.bool v) ∧ w = w' := by
  have HV := Lib.hid hv
  clear hv
  by_cases h1 : 0 ≤ s
  · by_cases h2 : s ≤ 15
    · by_cases h3 : 1 ≤ n
      · have ev : v = decide (n ≤ 65535) := by rw [← HV.out]; unfold rightP okS okN; rw [decide_eq_true h1, decide_eq_true (show s < 16 by omega), decide_eq_true h3]; rfl
        subst ev
        go_enter Try.func18, Try.ntmps18
        go_wp2_with fail
        go_ret
        exact ⟨rfl, rfl⟩
      · have ev : v = false := by rw [← HV.out]; unfold rightP okN; rw [decide_eq_false h3]; simp
        subst ev
        have h3' : n < 1 := by omega
        go_enter Try.func18, Try.ntmps18
        go_wp2_with fail
        go_ret
        exact ⟨rfl, rfl⟩
    · have ev : v = false := by rw [← HV.out]; unfold rightP okS; rw [decide_eq_false (show ¬ s < 16 by omega)]; simp
      subst ev
      have h2' : 15 < s := by omega
      go_enter Try.func18, Try.ntmps18
      go_wp2_with fail
      go_ret
      exact ⟨rfl, rfl⟩
  · have ev : v = false := by rw [← HV.out]; unfold rightP okS; rw [decide_eq_false h1]; rfl
    subst ev
    have h1' : s < 0 := by omega
    go_enter Try.func18, Try.ntmps18
    go_wp2_with fail
    go_ret
    exact ⟨rfl, rfl⟩
theorem seenM_bad {M : List Mo} {s n : Int} (h : rightP s n = false) : seenM M s n = true := by
  unfold rightP at h
  unfold seenM
  cases hs : okS s with
  | false => rfl
  | true =>
    rw [hs, Bool.true_and] at h
    rw [h]; rfl
theorem seenM_at {M : List Mo} {i : Nat} {n : Int} {x : Mo} (h : rightP (i : Int) n = true) (hx : M[i]? = some x) : seenM M (i : Int) n = seenR x.n x.s n := by
  unfold rightP at h
  rw [Bool.and_eq_true] at h
  unfold seenM
  rw [h.1, h.2, Int.toNat_natCast, hx]
  rfl
theorem num_at {W : World} {X : Option Addr} {m k : Nat} {l : List Int} (h : Vw W X m 1 (nums l)) (hk : k < m) : ∃ b o x, X = some ⟨b, o, none⟩ ∧ l[k]? = some x ∧ W.cell? ⟨b, o + k, none⟩ = some (.int .i64 x) := by
  have hl : m = l.length := by have := h.1; simp [nums] at this; omega
  obtain ⟨b, o, u, he, _, h2, h3⟩ := h.at_ hk
  have hx : l[k]? = some l[k] := List.getElem?_eq_getElem (by omega)
  refine ⟨b, o, _, he, hx, ?_⟩
  rw [List.getElem?_map, hx] at h2
  simp at h2
  rw [h3, ← h2]
set_option maxHeartbeats 2000000 in
theorem rseen_any (w : World) (cs : Array Value) (M : List Mo) (s n : Int) (b : Bool) (q : Nat) (hq : q ≤ 1000) (hb : seenM M s n = b) (hB : MB q M) (hR : RV w cs M) : Calls Try.prog 31 #[.agg cs, .int .i64 s, .int .i64 n] w fun e w' => e = .returned (.bool b) ∧ Keep w.heap.size [] w w' := by
  have hB1 := Blk.new w 40 cs
  have k0 : Keep w.heap.size [] w (w.alloc (.cells cs 40)) := (Keep.refl _ _ w).alloc (Nat.le_refl _) _
  have K0 := Lib.hid k0
  have R0 := Lib.hid (hR.keep0 k0)
  have B1 := Lib.hid hB1
  cases hr : rightP s n with
  | false =>
    have ev : b = true := by rw [← hb]; exact seenM_bad hr
    subst ev
    have HR := Lib.hid hr
    clear hR hB1 k0 hr hb hB
    go_enter Try.func31, Try.ntmps31
    go_wp2_with fail
    refine (right_any _ s n false HR.out).mono ?_
    rintro e w' ⟨rfl, rfl⟩
    go_wp2_with fail
    go_ret
    exact ⟨rfl, K0.out⟩
  | true =>
    have hs := hr
    unfold rightP at hs
    rw [Bool.and_eq_true] at hs
    have hs1 := okS_iff.1 hs.1
    have hn1 := okN_iff.1 hs.2
    obtain ⟨i, rfl⟩ : ∃ i : Nat, s = (i : Int) := ⟨s.toNat, by omega⟩
    have hi16 : (i : Int) < 16 := hs1.2
    have hil : i < M.length := by rw [hR.ml]; omega
    obtain ⟨x, hx⟩ : ∃ x, M[i]? = some x := ⟨_, List.getElem?_eq_getElem hil⟩
    obtain ⟨⟨n0, n1⟩, hl⟩ := hB x (List.mem_of_getElem? hx)
    obtain ⟨A, m, c, e1, e2, hv, hmc, hcm, _⟩ := R0.out.at_ i x hx
    have hml : m = x.s.length := by have := hv.1; simp [nums] at this; omega
    have c0 : (w.alloc (.cells cs 40)).cell? ⟨w.heap.size, i * 2, none⟩ = some (.int .i64 x.n) := (B1.out.cell _).trans e1
    have c1 : (w.alloc (.cells cs 40)).cell? ⟨w.heap.size, i * 2 + 1, none⟩ = some (.slice A m c) := (B1.out.cell _).trans e2
    have hb' : seenR x.n x.s n = b := by rw [← hb]; exact (seenM_at hr hx).symm
    have HB := Lib.hid hb'
    have HR := Lib.hid hr
    have HV := Lib.hid hv
    have HML := Lib.hid hml
    have hm1 : m ≤ 1000 := by omega
    have hmcI : (m : Int) ≤ (c : Int) := by omega
    have hcI : (c : Int) ≤ 9223372036854775807 := by unfold maxLen at hcm; omega
    clear hR hB1 k0 hr hb hB hs hs1 e1 e2 hv hml hb' hx hil hcm
    by_cases hold : n ≤ x.n - 64
    · have ev : b = true := by rw [← HB.out]; unfold seenR; rw [decide_eq_true hold]; rfl
      subst ev
      go_enter Try.func31, Try.ntmps31
      go_wp2_with fail
      refine (right_any _ (i : Int) n true HR.out).mono ?_
      rintro e w' ⟨rfl, rfl⟩
      go_wp2_with fail
      go_ret
      exact ⟨rfl, K0.out⟩
    · have hold' : x.n - 64 < n := by omega
      have ev : b = decide (n ∈ x.s) := by rw [← HB.out]; unfold seenR; rw [decide_eq_false hold]; rfl
      have EV := Lib.hid ev
      clear ev hold
      go_enter Try.func31, Try.ntmps31
      go_wp2_with fail
      refine (right_any _ (i : Int) n true HR.out).mono ?_
      rintro e w' ⟨rfl, rfl⟩
      go_wp2_with fail
      obtain ⟨W, hW⟩ : ∃ W, W = w.alloc (.cells cs 40) := ⟨_, rfl⟩
      rw [← hW] at K0 R0 B1 c0 c1 HV ⊢
      clear hW
      go_loop [7] (fun j => ∃ k : Nat, k ≤ m ∧ j = .int .i64 k ∧ n ∉ x.s.take k) (fun j => m - (intOf j).toNat)
      case atStart => exact ⟨0, Nat.zero_le _, rfl, by simp⟩
      case round =>
        obtain ⟨k, hk, rfl, hnk⟩ := hrel
        have HN := Lib.hid hnk
        clear hnk
        by_cases hlt : k < m
        · have hkx : (k : Int) < (m : Int) := by omega
          obtain ⟨bb, o, y, rfl, hy, cy⟩ := num_at HV.out hlt
          have HY := Lib.hid hy
          clear hy
          by_cases hyn : y = n
          · subst hyn
            have ev : b = true := by rw [EV.out]; exact decide_eq_true (List.mem_of_getElem? HY.out)
            subst ev
            go_wp2_with fail
            go_ret
            exact ⟨rfl, K0.out⟩
          · go_wp2_with fail
            go_round
            case rel => exact ⟨k + 1, by omega, by go_num, fun h => by
              rw [List.take_add_one, HY.out] at h
              rcases List.mem_append.1 h with h | h
              · exact HN.out h
              · simp at h; exact hyn h.symm⟩
            case measure => simp [intOf] <;> omega
        · obtain rfl : k = m := by omega
          have ev : b = false := by
            have h := HN.out
            rw [List.take_of_length_le (by rw [HML.out]; exact Nat.le_refl _)] at h
            rw [EV.out]; exact decide_eq_false h
          subst ev
          go_wp2_with fail
          go_ret
          exact ⟨rfl, K0.out⟩
set_option maxHeartbeats 1000000 in
theorem rnewest_any (w : World) (cs : Array Value) (M : List Mo) (s v : Int) (hv : newestM M s = v) (hR : RV w cs M) : Calls Try.prog 34 #[.agg cs, .int .i64 s] w fun e w' => e = .returned (.int .i64 v) ∧ Keep w.heap.size [] w w' := by
  have k0 : Keep w.heap.size [] w (w.alloc (.cells cs 40)) := (Keep.refl _ _ w).alloc (Nat.le_refl _) _
  have K0 := Lib.hid k0
  have B1 := Lib.hid (Blk.new w 40 cs)
  clear k0
  by_cases h1 : s < 0
  · have ev : v = 0 := by rw [← hv]; unfold newestM okS; rw [decide_eq_false (by omega)]; rfl
    subst ev
    clear hv hR
    go_enter Try.func34, Try.ntmps34
    go_wp2_with fail
    go_ret
    exact ⟨rfl, K0.out⟩
  by_cases h2 : 15 < s
  · have ev : v = 0 := by rw [← hv]; unfold newestM okS; rw [decide_eq_false (show ¬ s < 16 by omega), Bool.and_false]; rfl
    subst ev
    clear hv hR
    go_enter Try.func34, Try.ntmps34
    go_wp2_with fail
    go_ret
    exact ⟨rfl, K0.out⟩
  obtain ⟨i, rfl⟩ : ∃ i : Nat, s = (i : Int) := ⟨s.toNat, by omega⟩
  have hi16 : (i : Int) < 16 := by omega
  have hil : i < M.length := by rw [hR.ml]; omega
  obtain ⟨x, hx⟩ : ∃ x, M[i]? = some x := ⟨_, List.getElem?_eq_getElem hil⟩
  obtain ⟨A, m, c, e1, _⟩ := hR.at_ i x hx
  have ev : x.n = v := by rw [← hv]; unfold newestM; rw [if_pos (okS_iff.2 ⟨by omega, hi16⟩), Int.toNat_natCast, hx]
  have c0 : (w.alloc (.cells cs 40)).cell? ⟨w.heap.size, i * 2, none⟩ = some (.int .i64 v) := by rw [← ev]; exact (B1.out.cell _).trans e1
  clear hv hR hx hil e1 ev
  go_enter Try.func34, Try.ntmps34
  go_wp2_with fail
  go_ret
  exact ⟨rfl, K0.out⟩
end Go.Proofs.Ythpngafglljgnaa
