/- The vault: newest, older, Generation, Load. -/
import Derived.Test.YtfkbcflgbjncdaaVauF
namespace Go.Proofs.Ytfkbcflgbjncdaa
set_option linter.unusedVariables false
set_option linter.unusedSimpArgs false
open Go.RowKit
/-- what copy i of the vault holds -/
def Holds (D : List Nat) (i : Nat) : Option (Nat × List Int) → Prop
  | none => D[200 * i]? = some 0
  | some (G, b) => (1 ≤ G ∧ G < 4294967296) ∧ Oct b ∧ b.length ≤ 788 ∧ ∀ (j x : Nat), (wordsF G b)[j]? = some x → D[200 * i + j]? = some x
def gen : Option (Nat × List Int) → Nat
  | none => 0
  | some (G, _) => G
def img : Option (Nat × List Int) → List Int
  | none => []
  | some (_, b) => b
theorem read_h (w : World) (v g a : Nat) (cl : Bool) (D C : List Nat) (i : Nat) (o : Option (Nat × List Int)) (hb : VB w v g) (h : MemC w g a cl D C) (hl : D.length = 400) (hi : i < 2) (ho : Holds D i o) (hvg : v ∉ [g, a]) :
    Calls Try.prog 120 #[bptr v, .int .i64 (i : Int)] w (ReadPost w g a cl D (gen o) (img o)) := by
  cases o with
  | none =>
    refine (read_zero w v g a cl D C i hb h hl hi ho hvg).mono ?_
    rintro e w' ⟨rfl, C', h1, h2⟩
    exact ⟨none, 0, rfl, Vw.nil _ _, ⟨Nat.le_refl _, Nat.zero_le _⟩, by simp [blks], C', h1, h2⟩
  | some x =>
    obtain ⟨G, b⟩ := x
    obtain ⟨h1, h2, h3, h4⟩ := ho
    exact read_valid w v g a cl D C i G b hb h hl hi h1 h2 h3 h4 hvg
/-- which copy is the newest one -/
def pick (o0 o1 : Option (Nat × List Int)) : Nat × Option (Nat × List Int) := if gen o0 < gen o1 then (1, o1) else (0, o0)
def NewPost (w : World) (g a : Nat) (cl : Bool) (D : List Nat) (r : Nat × Option (Nat × List Int)) (e : Ending) (w' : World) : Prop :=
  ∃ A c', e = .returned (.tuple #[.int .i64 (r.1 : Int), .int .i64 (gen r.2 : Int), .slice A (img r.2).length c']) ∧ Vw w' A (img r.2).length 1 (octs (img r.2)) ∧ ((img r.2).length ≤ c' ∧ c' ≤ maxLen) ∧ (∀ x, x ∈ blks A → w.heap.size ≤ x) ∧ ∃ C', MemC w' g a cl D C' ∧ Keep w.heap.size [g, a] w w'
theorem Vw.newS {w w' : World} {X : Option Addr} {m size B : Nat} {xs : List Value} {S : List Nat} (h : Vw w X m size xs) (k : Keep w.heap.size S w w') (hX : ∀ x, x ∈ blks X → B ≤ x) (hS : ∀ x, x ∈ S → x < B) : Vw w' X m size xs :=
  h.keepS k (fun x hx hm => by have := hX x hx; have := hS x hm; omega)
set_option maxRecDepth 100000 in
set_option maxHeartbeats 4000000 in
theorem newest_h (w : World) (v g a : Nat) (cl : Bool) (D C : List Nat) (o0 o1 : Option (Nat × List Int)) (hb : VB w v g) (h : MemC w g a cl D C) (hl : D.length = 400) (h0 : Holds D 0 o0) (h1 : Holds D 1 o1) (hvg : v ∉ [g, a]) :
    Calls Try.prog 67 #[bptr v] w (NewPost w g a cl D (pick o0 o1)) := by
  have hgl : g < w.heap.size := by obtain ⟨_, hm⟩ := h.mb; exact hm.lt
  have hal : a < w.heap.size := h.cb.lt
  have hS : ∀ x, x ∈ [g, a] → x < w.heap.size := fun x hx => by simp at hx; omega
  have HB := Lib.hid hb
  have HH := Lib.hid h
  have H0 := Lib.hid h0
  have H1 := Lib.hid h1
  have HS := Lib.hid hS
  clear hb h h0 h1 hS
  go_enter Try.func67, Try.ntmps67
  go_wp2_with fail
  refine (read_h _ v g a cl D C 0 o0 HB.out HH.out hl (by omega) H0.out hvg).mono ?_
  rintro e W1 ⟨A0, c0, rfl, hv0, hc0, hA0, C1, hm1, hk1⟩
  have V0 := Lib.hid hv0
  have HA0 := Lib.hid hA0
  have M1 := Lib.hid hm1
  have K1 := Lib.hid hk1
  clear hv0 hA0 hm1 hk1
  go_wp2_with fail
  refine (read_h _ v g a cl D C1 1 o1 (HB.out.keepS K1.out hvg) M1.out hl (by omega) H1.out hvg).mono ?_
  rintro e W2 ⟨A1, c1, rfl, hv1, hc1, hA1, C2, hm2, hk2⟩
  have V1 := Lib.hid hv1
  have HA1 := Lib.hid hA1
  have M2 := Lib.hid hm2
  have K2 := Lib.hid hk2
  clear hv1 hA1 hm2 hk2
  by_cases hlt : gen o0 < gen o1
  · have hp : pick o0 o1 = (1, o1) := by unfold pick; rw [if_pos hlt]
    have HP := Lib.hid hp
    clear hp
    have hli : (gen o0 : Int) < (gen o1 : Int) := by omega
    go_wp2_with fail
    refine bodyPost_ret (v := .tuple #[.int .i64 1, .int .i64 (gen o1 : Int), .slice A1 (img o1).length c1]) (by simp [results, Try.results67, go_sem]) rfl ?_
    rw [HP.out]
    exact ⟨A1, c1, rfl, V1.out, hc1, fun x hx => Nat.le_trans K1.out.size (HA1.out x hx), C2, M2.out, K1.out.trans (K2.out.mono K1.out.size (fun _ _ hx => hx))⟩
  · have hp : pick o0 o1 = (0, o0) := by unfold pick; rw [if_neg hlt]
    have HP := Lib.hid hp
    clear hp
    have hli : ¬ (gen o0 : Int) < (gen o1 : Int) := by omega
    go_wp2_with fail
    refine bodyPost_ret (v := .tuple #[.int .i64 0, .int .i64 (gen o0 : Int), .slice A0 (img o0).length c0]) (by simp [results, Try.results67, go_sem]) rfl ?_
    rw [HP.out]
    exact ⟨A0, c0, rfl, V0.out.newS K2.out HA0.out HS.out, hc0, HA0.out, C2, M2.out, K1.out.trans (K2.out.mono K1.out.size (fun _ _ hx => hx))⟩
end Go.Proofs.Ytfkbcflgbjncdaa
