/- Readers of octets by their state (none: it has failed): Uint, End. -/
import Derived.Test.YtfkbcflgbjncdaaCkE
namespace Go.Proofs.Ytfkbcflgbjncdaa
set_option linter.unusedVariables false
set_option linter.unusedSimpArgs false
open Go.RowKit
abbrev RS := Option (List Int)
def stU (s : RS) (z : Int) : Int × RS := match s with
  | none => (0, none)
  | some L => if z < 1 ∨ 8 < z ∨ (L.length : Int) < z then (0, none) else (beVal (L.take z.toNat), some (L.drop z.toNat))
def RSok (s : RS) : Prop := ∀ L, s = some L → Oct L ∧ L.length ≤ 100000000
theorem RSok.drop {L : List Int} (h : RSok (some L)) (k : Nat) : RSok (some (L.drop k)) := by
  rintro _ ⟨⟩
  obtain ⟨h1, h2⟩ := h L rfl
  exact ⟨fun x hx => h1 x (List.mem_of_mem_drop hx), by simp; omega⟩
theorem RSok.none : RSok none := fun _ h => by cases h
theorem stU_ok {s : RS} {z : Int} (h : RSok s) : RSok (stU s z).2 := by
  cases s with
  | none => exact RSok.none
  | some L => unfold stU; simp only; split
              · exact RSok.none
              · exact h.drop _
def RO (w : World) (g : Nat) (X : Option Addr) (s : RS) : Prop := match s with
  | none => Rf w g
  | some L => Rd w g X L
theorem RO.keepS {w w' : World} {g : Nat} {X : Option Addr} {s : RS} {S : List Nat} (h : RO w g X s) (k : Keep w.heap.size S w w') (hg : g ∉ S) (hx : ∀ x, x ∈ blks X → x ∉ S) : RO w' g X s := by
  cases s with
  | none => exact Blk.keepS h k hg
  | some L => exact Rd.keepS h k hg hx
def Stp (w : World) (g : Nat) (X : Option Addr) (v : Value) (s' : RS) (e : Ending) (w' : World) : Prop :=
  ∃ X', e = .returned v ∧ RO w' g X' s' ∧ Keep w.heap.size [g] w w' ∧ (∀ x, x ∈ blks X' → x ∈ blks X)
theorem ruint_s (w : World) (g : Nat) (X : Option Addr) (s : RS) (z : Int) (hok : RSok s) (hr : RO w g X s) :
    Calls Try.prog 53 #[bptr g, .int .i64 z] w (Stp w g X (.int .u64 (stU s z).1) (stU s z).2) := by
  cases s with
  | none =>
    refine (ruint_failed w g z hr).mono ?_
    rintro e w' ⟨rfl, rfl⟩
    exact ⟨X, rfl, hr, Keep.refl _ _ _, fun x h => h⟩
  | some L =>
    obtain ⟨hO, hL⟩ := hok L rfl
    by_cases h : z < 1 ∨ 8 < z
    · have e1 : stU (some L) z = (0, none) := by unfold stU; simp only; rw [if_pos (by omega)]
      rw [e1]
      refine (ruint_bad w g X L z h hr).mono ?_
      rintro e w' ⟨rfl, h1, h2⟩
      exact ⟨none, rfl, h1, h2, by simp [blks]⟩
    · obtain ⟨sz, rfl⟩ := Int.eq_ofNat_of_zero_le (show 0 ≤ z by omega)
      by_cases hlt : L.length < sz
      · have e1 : stU (some L) (sz : Int) = (0, none) := by unfold stU; simp only; rw [if_pos (by omega)]
        rw [e1]
        refine (ruint_no w g X L sz (by omega) (by omega) hlt hr).mono ?_
        rintro e w' ⟨rfl, h1, h2⟩
        exact ⟨none, rfl, h1, h2, by simp [blks]⟩
      · have e1 : stU (some L) (sz : Int) = (beVal (L.take sz), some (L.drop sz)) := by unfold stU; simp only; rw [if_neg (by omega)]; rfl
        rw [e1]
        refine (ruint_yes w g X L hO sz (by omega) (by omega) (by omega) hr).mono ?_
        rintro e w' ⟨rfl, X', h1, h2, h3⟩
        exact ⟨X', rfl, h1, h2, by rw [h3]; exact fun x h => h⟩
/-- End, by the state -/
def endS (s : RS) : Bool := match s with | none => false | some L => L.length == 0
theorem rend_s (w : World) (g : Nat) (X : Option Addr) (s : RS) (b : Bool) (hb : endS s = b) (hr : RO w g X s) :
    Calls Try.prog 72 #[bptr g] w fun e w' => e = .returned (.bool b) ∧ w = w' := by
  subst hb
  cases s with
  | none => exact rend_failed w g hr
  | some L => exact rend_yes w g X L hr
theorem stU_bd {s : RS} {sz : Nat} (h8 : sz ≤ 8) (hok : RSok s) : 0 ≤ (stU s sz).1 ∧ (stU s sz).1 < 256 ^ sz := by
  have hp : (0 : Int) < 256 ^ sz := Int.pow_pos (by decide)
  cases s with
  | none => exact ⟨Int.le_refl _, hp⟩
  | some L =>
    unfold stU
    simp only
    split
    · exact ⟨Int.le_refl _, hp⟩
    · rename_i h
      refine beVal_bd sz _ (fun x hx => (hok L rfl).1 x (List.mem_of_mem_take hx)) ?_
      simp; omega
end Go.Proofs.Ytfkbcflgbjncdaa
