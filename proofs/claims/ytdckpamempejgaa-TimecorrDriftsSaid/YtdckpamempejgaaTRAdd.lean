/- The reference's Add. -/
import Derived.Test.YtdckpamempejgaaTRFit
namespace Go.Proofs.Ytdckpamempejgaa
set_option linter.unusedVariables false
set_option linter.unusedSimpArgs false
open Go.RowKit
theorem keep_w (w : World) (o : Obj) : Keep w.heap.size [] w (w.alloc o) := (Keep.refl _ _ w).alloc (Nat.le_refl _) o
def RAddPost (w : World) (f : Ft) (z : Int) (e : Ending) (w' : World) : Prop := e = .returned (.tuple #[ragg f, .int .i64 z]) ∧ Keep w.heap.size [] w w'
set_option maxHeartbeats 4000000 in
theorem radd_bad (w : World) (f : Ft) (a b : Int) (hbad : badP f a b) : Calls Try.prog 20 #[ragg f, .int .i64 a, .int .i64 b] w (RAddPost w f 10) := by
  obtain ⟨h1, h2, h3, h4, h5⟩ := rcell5 ((Blk.new w 26 (rcells f)).alloc (.cells (rcells f0) 26))
  unfold badP at hbad
  by_cases k1 : a < 0
  · clear hbad
    go_enter Try.func20, Try.ntmps20
    go_wp2_with fail
    refine bodyPost_ret (v := .tuple #[ragg f, .int .i64 10]) (by simp [results, Try.results20, go_sem, h1, h2, h3, h4, h5] <;> omega) rfl ⟨rfl, ?_⟩
    repeat (first | exact (keep_w w _).alloc (keep_w w _).size _ | refine Keep.setN ?_ (by simp <;> omega))
  by_cases k2 : 1099511627776 < a
  · clear hbad
    go_enter Try.func20, Try.ntmps20
    go_wp2_with fail
    refine bodyPost_ret (v := .tuple #[ragg f, .int .i64 10]) (by simp [results, Try.results20, go_sem, h1, h2, h3, h4, h5] <;> omega) rfl ⟨rfl, ?_⟩
    repeat (first | exact (keep_w w _).alloc (keep_w w _).size _ | refine Keep.setN ?_ (by simp <;> omega))
  by_cases k3 : b < 0
  · clear hbad
    go_enter Try.func20, Try.ntmps20
    go_wp2_with fail
    refine bodyPost_ret (v := .tuple #[ragg f, .int .i64 10]) (by simp [results, Try.results20, go_sem, h1, h2, h3, h4, h5] <;> omega) rfl ⟨rfl, ?_⟩
    repeat (first | exact (keep_w w _).alloc (keep_w w _).size _ | refine Keep.setN ?_ (by simp <;> omega))
  by_cases k4 : 1099511627776 < b
  · clear hbad
    go_enter Try.func20, Try.ntmps20
    go_wp2_with fail
    refine bodyPost_ret (v := .tuple #[ragg f, .int .i64 10]) (by simp [results, Try.results20, go_sem, h1, h2, h3, h4, h5] <;> omega) rfl ⟨rfl, ?_⟩
    repeat (first | exact (keep_w w _).alloc (keep_w w _).size _ | refine Keep.setN ?_ (by simp <;> omega))
  have k5 : 0 < f.n := by omega
  by_cases k6 : a ≤ f.g1
  · clear hbad
    go_enter Try.func20, Try.ntmps20
    go_wp2_with fail
    refine bodyPost_ret (v := .tuple #[ragg f, .int .i64 10]) (by simp [results, Try.results20, go_sem, h1, h2, h3, h4, h5] <;> omega) rfl ⟨rfl, ?_⟩
    repeat (first | exact (keep_w w _).alloc (keep_w w _).size _ | refine Keep.setN ?_ (by simp <;> omega))
  have k7 : b ≤ f.b1 := by omega
  clear hbad
  go_enter Try.func20, Try.ntmps20
  go_wp2_with fail
  refine bodyPost_ret (v := .tuple #[ragg f, .int .i64 10]) (by simp [results, Try.results20, go_sem, h1, h2, h3, h4, h5] <;> omega) rfl ⟨rfl, ?_⟩
  repeat (first | exact (keep_w w _).alloc (keep_w w _).size _ | refine Keep.setN ?_ (by simp <;> omega))
set_option maxHeartbeats 4000000 in
theorem radd_good (w : World) (f : Ft) (a b : Int) (hn0 : 0 ≤ f.n) (hn : f.n < 1000000) (hgood : ¬ badP f a b) : Calls Try.prog 20 #[ragg f, .int .i64 a, .int .i64 b] w (RAddPost w (goodF f a b) 0) := by
  obtain ⟨h1, h2, h3, h4, h5⟩ := rcell5 ((Blk.new w 26 (rcells f)).alloc (.cells (rcells f0) 26))
  have k1 : 0 ≤ a := by unfold badP at hgood; omega
  have k2 : a ≤ 1099511627776 := by unfold badP at hgood; omega
  have k3 : 0 ≤ b := by unfold badP at hgood; omega
  have k4 : b ≤ 1099511627776 := by unfold badP at hgood; omega
  by_cases h6 : f.n = 0
  · have hg : Hid (goodF f a b = ⟨f.n + 1, a, b, a, b⟩) := Lib.hid (by unfold goodF; rw [if_pos h6, if_pos h6])
    have k5 : ¬ 0 < f.n := by omega
    clear hgood
    go_enter Try.func20, Try.ntmps20
    go_wp2_with fail
    rw [hg.out]
    refine bodyPost_ret (v := .tuple #[ragg ⟨f.n + 1, a, b, a, b⟩, .int .i64 0]) (by simp [results, Try.results20, go_sem, h1, h2, h3, h4, h5] <;> omega) rfl ⟨rfl, ?_⟩
    repeat (first | exact (keep_w w _).alloc (keep_w w _).size _ | refine Keep.setN ?_ (by simp <;> omega))
  · have hg : Hid (goodF f a b = ⟨f.n + 1, f.g0, f.b0, a, b⟩) := Lib.hid (by unfold goodF; rw [if_neg h6, if_neg h6])
    have k5 : 0 < f.n := by omega
    have k6 : f.g1 < a := by unfold badP at hgood; omega
    have k7 : f.b1 < b := by unfold badP at hgood; omega
    clear hgood
    go_enter Try.func20, Try.ntmps20
    go_wp2_with fail
    rw [hg.out]
    refine bodyPost_ret (v := .tuple #[ragg ⟨f.n + 1, f.g0, f.b0, a, b⟩, .int .i64 0]) (by simp [results, Try.results20, go_sem, h1, h2, h3, h4, h5] <;> omega) rfl ⟨rfl, ?_⟩
    repeat (first | exact (keep_w w _).alloc (keep_w w _).size _ | refine Keep.setN ?_ (by simp <;> omega))
theorem radd_any (w : World) (f f' : Ft) (a b z : Int) (h : addP f a b = (f', z)) (hn0 : 0 ≤ f.n) (hn : f.n < 1000000) : Calls Try.prog 20 #[ragg f, .int .i64 a, .int .i64 b] w (RAddPost w f' z) := by
  by_cases hbad : badP f a b
  · rw [addP_bad hbad] at h
    obtain ⟨rfl, rfl⟩ := Prod.mk.inj h
    exact radd_bad w f a b hbad
  · rw [addP_good hbad] at h
    obtain ⟨rfl, rfl⟩ := Prod.mk.inj h
    exact radd_good w f a b hn0 hn hbad
end Go.Proofs.Ytdckpamempejgaa
