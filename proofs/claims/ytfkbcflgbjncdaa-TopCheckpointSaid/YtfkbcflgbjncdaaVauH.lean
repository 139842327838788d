/- The vault: older, Older, Generation, Load. -/
import Derived.Test.YtfkbcflgbjncdaaVauG
namespace Go.Proofs.Ytfkbcflgbjncdaa
set_option linter.unusedVariables false
set_option linter.unusedSimpArgs false
open Go.RowKit
def olderN (o0 o1 : Option (Nat × List Int)) : Nat := if gen (pick o0 o1).2 = 0 then 0 else 1 - (pick o0 o1).1
theorem pick_lt (o0 o1 : Option (Nat × List Int)) : (pick o0 o1).1 ≤ 1 := by unfold pick; split <;> simp
def MPost (w : World) (g a : Nat) (cl : Bool) (D : List Nat) (u : Value) (e : Ending) (w' : World) : Prop := e = .returned u ∧ ∃ C', MemC w' g a cl D C' ∧ Keep w.heap.size [g, a] w w'
set_option maxHeartbeats 4000000 in
theorem older_h (w : World) (v g a : Nat) (cl : Bool) (D C : List Nat) (o0 o1 : Option (Nat × List Int)) (hb : VB w v g) (h : MemC w g a cl D C) (hl : D.length = 400) (h0 : Holds D 0 o0) (h1 : Holds D 1 o1) (hvg : v ∉ [g, a]) :
    Calls Try.prog 119 #[bptr v] w (MPost w g a cl D (.int .i64 (olderN o0 o1 : Int))) := by
  have HB := Lib.hid hb
  have HH := Lib.hid h
  have H0 := Lib.hid h0
  have H1 := Lib.hid h1
  clear hb h h0 h1
  have hol : olderN o0 o1 = if gen (pick o0 o1).2 = 0 then 0 else 1 - (pick o0 o1).1 := rfl
  have hpl := pick_lt o0 o1
  obtain ⟨r, hr⟩ : ∃ r, r = pick o0 o1 := ⟨_, rfl⟩
  have HN := newest_h w v g a cl D C o0 o1 HB.out HH.out hl H0.out H1.out hvg
  rw [← hr] at HN hol hpl
  obtain ⟨q, hq⟩ : ∃ q, q = olderN o0 o1 := ⟨_, rfl⟩
  rw [← hq]
  rw [hol] at hq
  have HQ := Lib.hid hq
  clear hr hol hq
  have HNN := Lib.hid HN
  clear HN
  go_enter Try.func119, Try.ntmps119
  go_wp2_with fail
  refine HNN.out.mono ?_
  rintro e W1 ⟨A, c, rfl, _, _, _, C1, hm, hk⟩
  have M1 := Lib.hid hm
  have K1 := Lib.hid hk
  clear hm hk
  by_cases hz : gen r.2 = 0
  · have hzi : (gen r.2 : Int) = 0 := by omega
    have hq : q = 0 := by rw [HQ.out, if_pos hz]
    rw [hzi]
    go_wp2_with fail
    go_ret
    exact ⟨by rw [hq]; rfl, C1, M1.out, K1.out⟩
  · have hzi : ¬ (gen r.2 : Int) = 0 := by omega
    have hzb : ((gen r.2 : Int) == 0) = false := by rw [beq_eq_false_iff_ne]; exact hzi
    have e1 : (1 : Int) - (r.1 : Int) = (q : Int) := by rw [HQ.out, if_neg hz]; omega
    go_wp2_with fail
    go_ret
    exact ⟨rfl, C1, M1.out, K1.out⟩
end Go.Proofs.Ytfkbcflgbjncdaa
