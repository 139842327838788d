/- The contracts of the small functions of the bucket and of its reference: ok, advance, Advance, clamp, New. -/
import Derived.Test.YtppmbigmpilggaaLL
import Derived.Test.YtppmbigmpilggaaPlain
import Derived.BigQuiet
import Derived.Deep.QuietTactic
import Derived.BigRegion
import Derived.Lib.Hide
namespace Go.Proofs.Ytppmbigmpilggaa
set_option linter.unusedVariables false
set_option linter.unusedSimpArgs false
open Go.RowKit
abbrev bptr (g : Nat) : Value := .pointer (some ⟨g, 0, none⟩)
def bcells (b : Bu) : Array Value := #[.bool true, .int .i64 b.r, .int .i64 b.s, .int .i64 b.l, .int .i64 b.t]
def rcells (b : Bu) : Array Value := #[.int .i64 b.r, .int .i64 b.s, .int .i64 b.l, .int .i64 b.t]

set_option maxHeartbeats 400000 in
theorem ok_any (w : World) (g : Nat) (b : Bu) (hb : Blk w g 47 (bcells b)) :
    Calls Try.prog 20 #[bptr g] w fun e w' => e = .returned (.bool true) ∧ w = w' := by
  have h0 : w.cell? ⟨g, 0, none⟩ = some (.bool true) := hb.cell 0
  clear hb
  go_enter Try.func20, Try.ntmps20
  go_wp2
  go_ret
  exact ⟨rfl, rfl⟩
set_option maxHeartbeats 400000 in
theorem ok_nil (w : World) :
    Calls Try.prog 20 #[.pointer none] w fun e w' => e = .returned (.bool false) ∧ w = w' := by
  go_enter Try.func20, Try.ntmps20
  go_wp2
  go_ret
  exact ⟨rfl, rfl⟩
set_option maxHeartbeats 400000 in
theorem ok_zero (w : World) (g : Nat) (a b c d : Value) (hb : Blk w g 47 #[.bool false, a, b, c, d]) :
    Calls Try.prog 20 #[bptr g] w fun e w' => e = .returned (.bool false) ∧ w = w' := by
  have h0 : w.cell? ⟨g, 0, none⟩ = some (.bool false) := hb.cell 0
  clear hb
  go_enter Try.func20, Try.ntmps20
  go_wp2
  go_ret
  exact ⟨rfl, rfl⟩

theorem upd3 (b : Bu) (l t : Int) : ((bcells b).setIfInBounds 3 (.int .i64 l)).setIfInBounds 4 (.int .i64 t) = bcells ⟨b.r, b.s, l, t⟩ := rfl
theorem upd1 (b : Bu) (l : Int) : (bcells b).setIfInBounds 3 (.int .i64 l) = bcells ⟨b.r, b.s, l, b.t⟩ := rfl
theorem rupd1 (b : Bu) (l : Int) : (rcells b).setIfInBounds 2 (.int .i64 l) = rcells ⟨b.r, b.s, l, b.t⟩ := rfl

def AdvPost (w : World) (g : Nat) (b' : Bu) (e : Ending) (w' : World) : Prop :=
  e = .returned (.tuple #[]) ∧ Blk w' g 47 (bcells b') ∧ Keep w.heap.size [g] w w'

set_option maxHeartbeats 400000 in
theorem adv_same (w : World) (g : Nat) (b : Bu) (now : Int) (hb : Blk w g 47 (bcells b)) (h : now ≤ b.t ∨ 1099511627776 < now) :
    Calls Try.prog 21 #[bptr g, .int .i64 now] w (AdvPost w g b) := by
  have h4 : w.cell? ⟨g, 4, none⟩ = some (.int .i64 b.t) := hb.cell 4
  have HB := Lib.hid hb
  clear hb
  by_cases h1 : now ≤ b.t
  · go_enter Try.func21, Try.ntmps21
    go_wp2
    refine bodyPost_ret (results_none rfl _ _ _) rfl ?_
    exact ⟨rfl, HB.out, Keep.refl _ _ _⟩
  · have h2 : 1099511627776 < now := by omega
    go_enter Try.func21, Try.ntmps21
    go_wp2
    refine bodyPost_ret (results_none rfl _ _ _) rfl ?_
    exact ⟨rfl, HB.out, Keep.refl _ _ _⟩

set_option maxHeartbeats 400000 in
theorem adv_full (w : World) (g : Nat) (b : Bu) (hi : b.Inv) (now : Int) (hb : Blk w g 47 (bcells b)) (h1 : b.t < now) (h2 : now ≤ 1099511627776)
    (h3 : 0 < b.r) (h4 : (b.s - b.l) / b.r < now - b.t) :
    Calls Try.prog 21 #[bptr g, .int .i64 now] w (AdvPost w g ⟨b.r, b.s, b.s, now⟩) := by
  have g1 : w.cell? ⟨g, 1, none⟩ = some (.int .i64 b.r) := hb.cell 1
  have g2 : w.cell? ⟨g, 2, none⟩ = some (.int .i64 b.s) := hb.cell 2
  have g3 : w.cell? ⟨g, 3, none⟩ = some (.int .i64 b.l) := hb.cell 3
  have g4 : w.cell? ⟨g, 4, none⟩ = some (.int .i64 b.t) := hb.cell 4
  have f3 := hb.frozen 3
  have f4 := hb.frozen 4
  obtain ⟨i1, i2, i3, i4, i5, i6, i7, i8⟩ := hi
  have HB := Lib.hid hb
  clear hb
  go_enter Try.func21, Try.ntmps21
  go_wp2
  go_quiet (fail)
  go_wp2
  go_end0
  refine ⟨rfl, ?_, ?_⟩
  · rw [← upd3 b]; exact (((HB.out.drewN _).set_ 3 _).set_ 4 _)
  · exact (by repeat (first | exact Keep.refl _ _ _ | apply Keep.drewN | apply Keep.set1))

set_option maxHeartbeats 400000 in
theorem adv_part (w : World) (g : Nat) (b : Bu) (hi : b.Inv) (now : Int) (hb : Blk w g 47 (bcells b)) (h1 : b.t < now) (h2 : now ≤ 1099511627776)
    (h3 : b.r ≤ 0 ∨ (0 < b.r ∧ now - b.t ≤ (b.s - b.l) / b.r)) (h5 : 0 ≤ b.r * (now - b.t)) (h6 : b.r * (now - b.t) ≤ b.s - b.l) :
    Calls Try.prog 21 #[bptr g, .int .i64 now] w (AdvPost w g ⟨b.r, b.s, b.l + b.r * (now - b.t), now⟩) := by
  have g1 : w.cell? ⟨g, 1, none⟩ = some (.int .i64 b.r) := hb.cell 1
  have g2 : w.cell? ⟨g, 2, none⟩ = some (.int .i64 b.s) := hb.cell 2
  have g3 : w.cell? ⟨g, 3, none⟩ = some (.int .i64 b.l) := hb.cell 3
  have g4 : w.cell? ⟨g, 4, none⟩ = some (.int .i64 b.t) := hb.cell 4
  have f3 := hb.frozen 3
  have f4 := hb.frozen 4
  obtain ⟨i1, i2, i3, i4, i5, i6, i7, i8⟩ := hi
  have HB := Lib.hid hb
  clear hb
  rcases h3 with h3 | ⟨h3, h4⟩
  all_goals
    go_enter Try.func21, Try.ntmps21
    go_wp2
    go_quiet (fail)
    go_wp2
    go_region
    all_goals go_wp2
    all_goals go_end0
    all_goals
      refine ⟨rfl, ?_, ?_⟩
      · rw [← upd3 b]; exact (((HB.out.drewN _).set_ 3 _).set_ 4 _)
      · exact (by repeat (first | exact Keep.refl _ _ _ | apply Keep.drewN | apply Keep.set1))

theorem adv_any (w : World) (g : Nat) (b : Bu) (hi : b.Inv) (now : Int) (hb : Blk w g 47 (bcells b)) :
    Calls Try.prog 21 #[bptr g, .int .i64 now] w (AdvPost w g (b.adv now)) := by
  by_cases hc : now ≤ b.t ∨ 1099511627776 < now
  · rw [adv_stay b now hc]; exact adv_same w g b now hb hc
  · have h1 : b.t < now := by omega
    have h2 : now ≤ 1099511627776 := by omega
    have h5 := Int.mul_nonneg hi.r0 (show 0 ≤ now - b.t by omega)
    rw [adv_go b now h1 h2]
    by_cases hr : 0 < b.r
    · by_cases hq : (b.s - b.l) / b.r < now - b.t
      · rw [fill, if_pos ((quo_lt b _ hr).1 hq)]
        exact adv_full w g b hi now hb h1 h2 hr hq
      · have hn : ¬ b.s < b.l + b.r * (now - b.t) := fun h => hq ((quo_lt b _ hr).2 h)
        rw [fill, if_neg hn]
        exact adv_part w g b hi now hb h1 h2 (.inr ⟨hr, by omega⟩) h5 (by omega)
    · have h0 : b.r = 0 := by have := hi.r0; omega
      have hm : b.r * (now - b.t) = 0 := by rw [h0]; simp
      have := hi.l1
      rw [fill, if_neg (by omega)]
      exact adv_part w g b hi now hb h1 h2 (.inl (by omega)) h5 (by omega)

/-! ### the reference -/
def RAdvPost (w : World) (g : Nat) (b' : Bu) (e : Ending) (w' : World) : Prop :=
  e = .returned (.tuple #[]) ∧ Blk w' g 26 (rcells b') ∧ Keep w.heap.size [g] w w'
theorem rupd3 (b : Bu) (t : Int) : (rcells b).setIfInBounds 3 (.int .i64 t) = rcells ⟨b.r, b.s, b.l, t⟩ := rfl
theorem rupd32 (b : Bu) (l t : Int) : ((rcells b).setIfInBounds 3 (.int .i64 t)).setIfInBounds 2 (.int .i64 l) = rcells ⟨b.r, b.s, l, t⟩ := rfl
theorem rupd322 (b : Bu) (l0 l t : Int) : (((rcells b).setIfInBounds 3 (.int .i64 t)).setIfInBounds 2 (.int .i64 l0)).setIfInBounds 2 (.int .i64 l) = rcells ⟨b.r, b.s, l, t⟩ := rfl

set_option maxHeartbeats 400000 in
theorem radv_same (w : World) (g : Nat) (b : Bu) (now : Int) (hb : Blk w g 26 (rcells b)) (h : now ≤ b.t ∨ 1099511627776 < now) :
    Calls Try.prog 22 #[bptr g, .int .i64 now] w (RAdvPost w g b) := by
  have h4 : w.cell? ⟨g, 3, none⟩ = some (.int .i64 b.t) := hb.cell 3
  have HB := Lib.hid hb
  clear hb
  by_cases h1 : now ≤ b.t
  · go_enter Try.func22, Try.ntmps22
    go_wp2
    refine bodyPost_ret (results_none rfl _ _ _) rfl ?_
    exact ⟨rfl, HB.out, Keep.refl _ _ _⟩
  · have h2 : 1099511627776 < now := by omega
    go_enter Try.func22, Try.ntmps22
    go_wp2
    refine bodyPost_ret (results_none rfl _ _ _) rfl ?_
    exact ⟨rfl, HB.out, Keep.refl _ _ _⟩

set_option maxHeartbeats 400000 in
theorem radv_zero (w : World) (g : Nat) (b : Bu) (hi : b.Inv) (now : Int) (hb : Blk w g 26 (rcells b)) (h1 : b.t < now) (h2 : now ≤ 1099511627776) (h3 : (b.r == 0) = true) :
    Calls Try.prog 22 #[bptr g, .int .i64 now] w (RAdvPost w g ⟨b.r, b.s, b.l, now⟩) := by
  have g1 : w.cell? ⟨g, 0, none⟩ = some (.int .i64 b.r) := hb.cell 0
  have g2 : w.cell? ⟨g, 1, none⟩ = some (.int .i64 b.s) := hb.cell 1
  have g3 : w.cell? ⟨g, 2, none⟩ = some (.int .i64 b.l) := hb.cell 2
  have g4 : w.cell? ⟨g, 3, none⟩ = some (.int .i64 b.t) := hb.cell 3
  have f3 := hb.frozen 2
  have f4 := hb.frozen 3
  obtain ⟨i1, i2, i3, i4, i5, i6, i7, i8⟩ := hi
  have HB := Lib.hid hb
  clear hb
  go_enter Try.func22, Try.ntmps22
  go_wp2
  refine bodyPost_ret (results_none rfl _ _ _) rfl ?_
  refine ⟨rfl, ?_, ?_⟩
  · rw [← rupd3 b]; exact HB.out.set_ 3 _
  · exact (by repeat (first | exact Keep.refl _ _ _ | apply Keep.drewN | apply Keep.set1))

set_option maxHeartbeats 400000 in
theorem radv_full (w : World) (g : Nat) (b : Bu) (hi : b.Inv) (now : Int) (hb : Blk w g 26 (rcells b)) (h1 : b.t < now) (h2 : now ≤ 1099511627776) (h3 : (b.r == 0) = false) (h3' : 0 < b.r)
    (h4 : b.s / b.r < now - b.t) :
    Calls Try.prog 22 #[bptr g, .int .i64 now] w (RAdvPost w g ⟨b.r, b.s, b.s, now⟩) := by
  have g1 : w.cell? ⟨g, 0, none⟩ = some (.int .i64 b.r) := hb.cell 0
  have g2 : w.cell? ⟨g, 1, none⟩ = some (.int .i64 b.s) := hb.cell 1
  have g3 : w.cell? ⟨g, 2, none⟩ = some (.int .i64 b.l) := hb.cell 2
  have g4 : w.cell? ⟨g, 3, none⟩ = some (.int .i64 b.t) := hb.cell 3
  have f3 := hb.frozen 2
  have f4 := hb.frozen 3
  obtain ⟨i1, i2, i3, i4, i5, i6, i7, i8⟩ := hi
  have HB := Lib.hid hb
  clear hb
  go_enter Try.func22, Try.ntmps22
  go_wp2
  go_quiet (fail)
  go_wp2
  refine bodyPost_ret (results_none rfl _ _ _) rfl ?_
  refine ⟨rfl, ?_, ?_⟩
  · rw [← rupd32 b]; exact ((HB.out.drewN _).set_ 3 _).set_ 2 _
  · exact (by repeat (first | exact Keep.refl _ _ _ | apply Keep.drewN | apply Keep.set1))

set_option maxHeartbeats 400000 in
theorem radv_part (w : World) (g : Nat) (b : Bu) (hi : b.Inv) (now : Int) (hb : Blk w g 26 (rcells b)) (h1 : b.t < now) (h2 : now ≤ 1099511627776) (h3 : (b.r == 0) = false) (h3' : 0 < b.r)
    (h4 : now - b.t ≤ b.s / b.r) (h5 : 0 ≤ (now - b.t) * b.r) (h6 : (now - b.t) * b.r ≤ b.s) (hf : fill b (now - b.t) = if b.s < b.l + (now - b.t) * b.r then b.s else b.l + (now - b.t) * b.r) :
    Calls Try.prog 22 #[bptr g, .int .i64 now] w (RAdvPost w g ⟨b.r, b.s, fill b (now - b.t), now⟩) := by
  have g1 : w.cell? ⟨g, 0, none⟩ = some (.int .i64 b.r) := hb.cell 0
  have g2 : w.cell? ⟨g, 1, none⟩ = some (.int .i64 b.s) := hb.cell 1
  have g3 : w.cell? ⟨g, 2, none⟩ = some (.int .i64 b.l) := hb.cell 2
  have g4 : w.cell? ⟨g, 3, none⟩ = some (.int .i64 b.t) := hb.cell 3
  have f3 := hb.frozen 2
  have f4 := hb.frozen 3
  obtain ⟨i1, i2, i3, i4, i5, i6, i7, i8⟩ := hi
  have HB := Lib.hid hb
  clear hb
  by_cases hc : b.s < b.l + (now - b.t) * b.r
  · rw [if_pos hc] at hf
    have HF := Lib.hid hf
    clear hf
    go_enter Try.func22, Try.ntmps22
    go_wp2
    go_quiet (fail)
    go_wp2
    go_region
    all_goals go_wp2
    all_goals go_quiet (fail)
    all_goals go_wp2
    all_goals go_end0
    all_goals
      rw [HF.out]
      refine ⟨rfl, ?_, ?_⟩
      · rw [← rupd322 b (b.l + (now - b.t) * b.r)]; exact ((((HB.out.drewN _).set_ 3 _).set_ 2 _).drewN _).set_ 2 _
      · exact (by repeat (first | exact Keep.refl _ _ _ | apply Keep.drewN | apply Keep.set1))
  · rw [if_neg hc] at hf
    have HF := Lib.hid hf
    clear hf
    go_enter Try.func22, Try.ntmps22
    go_wp2
    go_quiet (fail)
    go_wp2
    go_region
    all_goals go_wp2
    all_goals go_quiet (fail)
    all_goals go_wp2
    all_goals go_end0
    all_goals
      rw [HF.out]
      refine ⟨rfl, ?_, ?_⟩
      · rw [← rupd32 b]; exact (((HB.out.drewN _).set_ 3 _).set_ 2 _)
      · exact (by repeat (first | exact Keep.refl _ _ _ | apply Keep.drewN | apply Keep.set1))

theorem radv_any (w : World) (g : Nat) (b : Bu) (hi : b.Inv) (now : Int) (hb : Blk w g 26 (rcells b)) :
    Calls Try.prog 22 #[bptr g, .int .i64 now] w (RAdvPost w g (b.adv now)) := by
  by_cases hc : now ≤ b.t ∨ 1099511627776 < now
  · rw [adv_stay b now hc]; exact radv_same w g b now hb hc
  · have h1 : b.t < now := by omega
    have h2 : now ≤ 1099511627776 := by omega
    rw [adv_go b now h1 h2]
    by_cases hr : 0 < b.r
    · have h3 : (b.r == 0) = false := beq_eq_false_iff_ne.2 (by omega)
      by_cases hq : b.s / b.r < now - b.t
      · rw [fill, if_pos (squo_lt b _ hi hr hq)]
        exact radv_full w g b hi now hb h1 h2 h3 hr hq
      · exact radv_part w g b hi now hb h1 h2 h3 hr (by omega) (Int.mul_nonneg (by omega) (by omega)) (squo_ge b _ hr (by omega)) (by rw [fill, Int.mul_comm])
    · have h0 : b.r = 0 := by have := hi.r0; omega
      have hm : b.r * (now - b.t) = 0 := by rw [h0]; simp
      have := hi.l1
      have hz := radv_zero w g b hi now hb h1 h2 (by rw [h0]; rfl)
      rw [fill, if_neg (by omega), hm, Int.add_zero]
      exact hz
end Go.Proofs.Ytppmbigmpilggaa
