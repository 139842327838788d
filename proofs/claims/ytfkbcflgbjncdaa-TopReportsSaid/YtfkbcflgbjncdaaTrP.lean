/- The tracker: its state, plainly. -/
import Derived.Test.YtfkbcflgbjncdaaVeA
import Derived.Test.YtfkbcflgbjncdaaLeP
namespace Go.Proofs.Ytfkbcflgbjncdaa
set_option linter.unusedVariables false
set_option linter.unusedSimpArgs false
open Go.RowKit
/-- a command that was sent -/
structure Is where
  s : Int
  n : Int
  t : Int
  g : Int
  c : Int
deriving DecidableEq
def icells (x : Is) : List Value := [.int .i64 x.s, .int .i64 x.n, .int .i64 x.t, .int .i64 x.g, .int .i64 x.c]
structure Tk where
  now : Int
  to : Int
  D : List Is
deriving DecidableEq
def Tk.Ok (t : Tk) : Prop := (0 ≤ t.now ∧ t.now ≤ 1099511627776) ∧ (1 ≤ t.to ∧ t.to ≤ 1099511627776) ∧ ∀ x ∈ t.D, 0 ≤ x.t ∧ x.t ≤ 1099511627776
theorem iflat_at : ∀ (D : List Is) (i : Nat) (x : Is), D[i]? = some x → ∀ j v, (icells x)[j]? = some v → (D.flatMap icells)[i * 5 + j]? = some v
  | [], i, x, h, _, _, _ => by simp at h
  | y :: D, 0, x, h, j, v, hv => by
    simp at h; subst h
    rw [Nat.zero_mul, Nat.zero_add, List.flatMap_cons, List.getElem?_append_left (by have := (List.getElem?_eq_some_iff.1 hv).1; exact this)]
    exact hv
  | y :: D, i + 1, x, h, j, v, hv => by
    have := iflat_at D i x (by simpa using h) j v hv
    rw [List.flatMap_cons, List.getElem?_append_right (by simp [icells]; omega)]
    have e : (i + 1) * 5 + j - (icells y).length = i * 5 + j := by simp [icells]; omega
    rw [e]
    exact this
theorem iflat_len : ∀ (D : List Is), (D.flatMap icells).length = D.length * 5
  | [] => rfl
  | y :: D => by
    have := iflat_len D
    rw [List.flatMap_cons, List.length_append, this]
    simp [icells]; omega
theorem iflat_set : ∀ (D : List Is) (i : Nat) (x x' : Is), D[i]? = some x → x'.s = x.s → x'.n = x.n → x'.t = x.t →
    ((D.flatMap icells).set (i * 5 + 3) (.int .i64 x'.g)).set (i * 5 + 4) (.int .i64 x'.c) = (D.set i x').flatMap icells
  | [], i, x, x', h, _, _, _ => by simp at h
  | y :: D, 0, x, x', h, h1, h2, h3 => by
    simp at h; subst h
    simp [icells, h1, h2, h3]
  | y :: D, i + 1, x, x', h, h1, h2, h3 => by
    have := iflat_set D i x x' (by simpa using h) h1 h2 h3
    have e3 : (i + 1) * 5 + 3 = i * 5 + 3 + 1 + 1 + 1 + 1 + 1 := by omega
    have e4 : (i + 1) * 5 + 4 = i * 5 + 4 + 1 + 1 + 1 + 1 + 1 := by omega
    rw [e3, e4]
    simp only [List.flatMap_cons, icells, List.cons_append, List.nil_append, List.set_cons_succ]
    rw [this]
/-- where a command is -/
def findI (D : List Is) (s n : Int) : Option Nat := D.findIdx? (fun x => x.s == s && x.n == n)
def adv (now n : Int) : Int := if now < n ∧ n ≤ 1099511627776 then n else now
theorem adv_bd {now n : Int} (h : 0 ≤ now ∧ now ≤ 1099511627776) : 0 ≤ adv now n ∧ adv now n ≤ 1099511627776 := by
  unfold adv; split <;> omega
/-- a tracker at block g, its list at A -/
def Tr (w : World) (g : Nat) (A : Option Addr) (t : Tk) : Prop :=
  ∃ n c, n = t.D.length ∧ Blk w g 103 #[.bool true, .int .i64 t.now, .int .i64 t.to, .slice A n c] ∧ Sl w 109 5 A n c (t.D.flatMap icells) ∧ t.Ok ∧ n ≤ 1000
theorem Tr.keepS {w w' : World} {g : Nat} {A : Option Addr} {t : Tk} {S : List Nat} (h : Tr w g A t) (k : Keep w.heap.size S w w') (hg : g ∉ S) (hx : ∀ x, x ∈ blks A → x ∉ S) : Tr w' g A t := by
  obtain ⟨n, c, h1, h2, h3, h4⟩ := h
  exact ⟨n, c, h1, h2.keepS k hg, h3.keepS k hx, h4⟩
theorem Tr.keep0 {w w' : World} {g : Nat} {A : Option Addr} {t : Tk} (h : Tr w g A t) (k : Keep w.heap.size [] w w') : Tr w' g A t := h.keepS k (by simp) (by simp)
theorem Tr.lt {w : World} {g : Nat} {A : Option Addr} {t : Tk} (h : Tr w g A t) : g < w.heap.size := by
  obtain ⟨n, c, _, h2, _⟩ := h; exact h2.lt
/-- a cell of the list -/
theorem Sl.icell {w : World} {A : Option Addr} {n c : Nat} {D : List Is} (h : Sl w 109 5 A n c (D.flatMap icells)) (hn : n = D.length) {i : Nat} {x : Is} (hx : D[i]? = some x) :
    ∃ b, A = some ⟨b, 0, none⟩ ∧ b < w.heap.size ∧ ∀ j v, (icells x)[j]? = some v → w.cell? ⟨b, i * 5 + j, none⟩ = some v := by
  have hi : i < D.length := (List.getElem?_eq_some_iff.1 hx).1
  obtain ⟨b, hA, hb, _⟩ := h.cell (j := i * 5) (by omega)
  refine ⟨b, hA, hb, fun j v hv => ?_⟩
  have hj : j < 5 := by have := (List.getElem?_eq_some_iff.1 hv).1; simpa [icells] using this
  obtain ⟨b', hA', _, hc⟩ := h.cell (j := i * 5 + j) (by omega)
  rw [hA] at hA'
  cases hA'
  rw [hc]
  exact iflat_at D i x hx j v hv
end Go.Proofs.Ytfkbcflgbjncdaa
