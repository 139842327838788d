/- Counts: the walk. -/
import Derived.Test.YtlceepknoijndaaELawB
namespace Go.Proofs.Ytlceepknoijndaa
set_option linter.unusedVariables false
set_option linter.unusedSimpArgs false
open Go.RowKit
abbrev octs (L : List Int) : List Value := L.map (Value.int .u8)
def Oct (L : List Int) : Prop := ∀ x ∈ L, 0 ≤ x ∧ x ≤ 255
theorem vw_at {W : World} {b o m k : Nat} {L : List Int} {x : Int} (h : Vw W (some ⟨b, o, none⟩) m 1 (octs L)) (hx : L[k]? = some x) : W.cell? ⟨b, o + k, none⟩ = some (.int .u8 x) := by
  have hl : m = L.length := by have := h.1; simp [octs] at this; omega
  have hk := (List.getElem?_eq_some_iff.1 hx).1
  obtain ⟨b', o', u, he, _, h2, h3⟩ := h.at_ (k := k) (by omega)
  cases he
  simp [octs, hx] at h2
  rw [← h2] at h3
  exact h3
theorem vw_nth {W : World} {X : Option Addr} {m k : Nat} {L : List Int} (h : Vw W X m 1 (octs L)) (hk : k < m) : ∃ b o x, X = some ⟨b, o, none⟩ ∧ L[k]? = some x ∧ W.cell? ⟨b, o + k, none⟩ = some (.int .u8 x) := by
  have hl : m = L.length := by have := h.1; simp [octs] at this; omega
  obtain ⟨b, o, rfl, _⟩ := h.2 (by omega)
  have hx : L[k]? = some L[k] := List.getElem?_eq_getElem (by omega)
  exact ⟨b, o, _, rfl, hx, vw_at h hx⟩
theorem mem_take_succ {L : List Int} {k : Nat} {y x : Int} (h : L[k]? = some y) : x ∈ L.take (k + 1) ↔ x ∈ L.take k ∨ x = y := by
  rw [List.take_add_one, h]
  simp
set_option maxHeartbeats 1000000 in
theorem has_any (w : World) (X : Option Addr) (m c : Nat) (L : List Int) (b : Int) (v : Bool) (hm : m ≤ 1000) (hmc : m ≤ c) (hv : Vw w X m 1 (octs L)) (hb : decide (b ∈ L) = v) : Calls Try.prog 11 #[.slice X m c, .int .u8 b] w fun e w' => e = .returned (.bool v) ∧ w' = w := by
  have HV := Lib.hid hv
  have HB := Lib.hid hb
  have HLn : Hid (m = L.length) := Lib.hid (by have := hv.1; simp [octs] at this; omega)
  have hmc' : (m : Int) ≤ (c : Int) := by omega
  clear hv hb
  go_enter Try.func11, Try.ntmps11
  go_wp2_with fail
  go_loop [5] (fun i => ∃ k : Nat, k ≤ m ∧ i = .int .i64 k ∧ b ∉ L.take k) (fun i => m - (intOf i).toNat)
  case atStart => exact ⟨0, Nat.zero_le _, rfl, by simp⟩
  case round =>
    obtain ⟨k, hk, rfl, hn⟩ := hrel
    have HN := Lib.hid hn
    clear hn
    by_cases hlt : k < m
    · have hkx : (k : Int) < (m : Int) := by omega
      obtain ⟨bb, o, y, rfl, hy, c1⟩ := vw_nth HV.out hlt
      have HY := Lib.hid hy
      clear hy
      by_cases hq : y = b
      · subst hq
        have ev : v = true := by rw [← HB.out]; exact decide_eq_true (List.mem_of_getElem? HY.out)
        subst ev
        go_wp2_with fail
        go_ret
        exact ⟨rfl, rfl⟩
      · go_wp2_with fail
        go_round
        case rel => exact ⟨k + 1, by omega, by go_num, fun h => by
          rcases (mem_take_succ HY.out).1 h with h | h
          · exact HN.out h
          · exact hq h.symm⟩
        case measure => simp [intOf] <;> omega
    · obtain rfl : k = m := by omega
      have ev : v = false := by
        rw [← HB.out]
        have h := HN.out
        rw [List.take_of_length_le (by rw [HLn.out]; exact Nat.le_refl _)] at h
        exact decide_eq_false h
      subst ev
      go_wp2_with fail
      go_ret
      exact ⟨rfl, rfl⟩
/-- what holds of the counts behind k events -/
structure CK (s : St) (k : Nat) (offs : List Int) : Prop where
  most : s.most = 10
  off : s.off = offs
  a0 : 0 ≤ s.c1
  b0 : 0 ≤ s.c2
  d0 : 0 ≤ s.c3
  e0 : 0 ≤ s.c4
  sum : s.c1 + s.c2 + s.c3 + s.c4 = (k : Int)
  len : s.L.length = min k 10
theorem CK.bump {s : St} {k : Nat} {offs : List Int} (h : CK s k offs) (q : Nat) (h1 : 1 ≤ q) (h4 : q ≤ 4) (x : Ev) : CK (bump s q (keepL s x)) (k + 1) offs := by
  have a0 := h.a0; have b0 := h.b0; have d0 := h.d0; have e0 := h.e0; have sum := h.sum; have len := h.len; have most := h.most
  have hl : (keepL s x).length = min (k + 1) 10 := by
    unfold keepL
    rw [most]
    by_cases hq : (10 : Int) < (s.L.length : Int) + 1
    · rw [if_pos hq]; simp; omega
    · rw [if_neg hq]; simp; omega
  have hq : q = 1 ∨ q = 2 ∨ q = 3 ∨ q = 4 := by omega
  rcases hq with rfl | rfl | rfl | rfl <;> exact ⟨most, h.off, by simp [Go.Proofs.Ytlceepknoijndaa.bump]; omega, by simp [Go.Proofs.Ytlceepknoijndaa.bump]; omega, by simp [Go.Proofs.Ytlceepknoijndaa.bump]; omega, by simp [Go.Proofs.Ytlceepknoijndaa.bump]; omega, by simp [Go.Proofs.Ytlceepknoijndaa.bump]; omega, hl⟩
theorem CK.cnt {s : St} {k : Nat} {offs : List Int} (h : CK s k offs) (q : Nat) (h1 : 1 ≤ q) (h4 : q ≤ 4) : 0 ≤ cntP s q ∧ cntP s q ≤ k := by
  have a0 := h.a0; have b0 := h.b0; have d0 := h.d0; have e0 := h.e0; have sum := h.sum
  have hq : q = 1 ∨ q = 2 ∨ q = 3 ∨ q = 4 := by omega
  rcases hq with rfl | rfl | rfl | rfl <;> simp [cntP] <;> omega
end Go.Proofs.Ytlceepknoijndaa
