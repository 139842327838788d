/- Add. -/
import Derived.Test.YtdckpamempejgaaTFit
namespace Go.Proofs.Ytdckpamempejgaa
set_option linter.unusedVariables false
set_option linter.unusedSimpArgs false
open Go.RowKit
def AddPost (w : World) (g : Nat) (f : Ft) (z : Int) (e : Ending) (w' : World) : Prop := e = .returned (.int .i64 z) ∧ Blk w' g 51 (fcells f) ∧ Keep w.heap.size [g] w w'
set_option maxHeartbeats 400000 in
theorem add_nil (w : World) (a b : Int) : Calls Try.prog 13 #[.pointer none, .int .i64 a, .int .i64 b] w fun e w' => e = .returned (.int .i64 2) ∧ w' = w := by
  go_enter Try.func13, Try.ntmps13
  go_wp2_with fail
  refine (none_nil _).mono ?_
  rintro e w' ⟨rfl, rfl⟩
  go_wp2_with fail
  go_ret
  exact ⟨rfl, rfl⟩
set_option maxHeartbeats 2000000 in
theorem add_bad (w : World) (g : Nat) (f : Ft) (a b : Int) (hb : Blk w g 51 (fcells f)) (hbad : badP f a b) : Calls Try.prog 13 #[pf g, .int .i64 a, .int .i64 b] w (AddPost w g f 10) := by
  have h0 : w.cell? ⟨g, 0, none⟩ = some (.bool true) := hb.cell 0
  obtain ⟨h1, h2, h3, h4, h5⟩ := fcell6 hb
  have q1 := hb.frozen 1
  have q2 := hb.frozen 2
  have q3 := hb.frozen 3
  have q4 := hb.frozen 4
  have q5 := hb.frozen 5
  have HB := Lib.hid hb
  clear hb
  cases va : okT a with
  | false =>
    clear hbad
    go_enter Try.func13, Try.ntmps13
    go_wp2_with fail
    refine (none_any _ g f HB.out).mono ?_
    rintro e w' ⟨rfl, rfl⟩
    go_wp2_with fail
    refine (valid_any _ a false (by assumption)).mono ?_
    rintro e w' ⟨rfl, rfl⟩
    go_wp2_with fail
    go_ret
    exact ⟨rfl, HB.out, Keep.refl _ _ _⟩
  | true =>
  cases vb : okT b with
  | false =>
    clear hbad
    go_enter Try.func13, Try.ntmps13
    go_wp2_with fail
    refine (none_any _ g f HB.out).mono ?_
    rintro e w' ⟨rfl, rfl⟩
    go_wp2_with fail
    refine (valid_any _ a true (by assumption)).mono ?_
    rintro e w' ⟨rfl, rfl⟩
    go_wp2_with fail
    refine (valid_any _ b false (by assumption)).mono ?_
    rintro e w' ⟨rfl, rfl⟩
    go_wp2_with fail
    go_ret
    exact ⟨rfl, HB.out, Keep.refl _ _ _⟩
  | true =>
    have h6 : 0 < f.n ∧ (a ≤ f.g1 ∨ b ≤ f.b1) := by
      unfold badP at hbad
      simp only [okT, decide_eq_true_eq] at va vb
      omega
    clear hbad
    obtain ⟨h7, h8⟩ := h6
    by_cases h9 : a ≤ f.g1
    · clear h8
      go_enter Try.func13, Try.ntmps13
      go_wp2_with fail
      refine (none_any _ g f HB.out).mono ?_
      rintro e w' ⟨rfl, rfl⟩
      go_wp2_with fail
      refine (valid_any _ a true (by assumption)).mono ?_
      rintro e w' ⟨rfl, rfl⟩
      go_wp2_with fail
      refine (valid_any _ b true (by assumption)).mono ?_
      rintro e w' ⟨rfl, rfl⟩
      go_wp2_with fail
      go_ret
      exact ⟨rfl, HB.out, Keep.refl _ _ _⟩
    · have h10 : b ≤ f.b1 := by omega
      clear h8
      go_enter Try.func13, Try.ntmps13
      go_wp2_with fail
      refine (none_any _ g f HB.out).mono ?_
      rintro e w' ⟨rfl, rfl⟩
      go_wp2_with fail
      refine (valid_any _ a true (by assumption)).mono ?_
      rintro e w' ⟨rfl, rfl⟩
      go_wp2_with fail
      refine (valid_any _ b true (by assumption)).mono ?_
      rintro e w' ⟨rfl, rfl⟩
      go_wp2_with fail
      go_ret
      exact ⟨rfl, HB.out, Keep.refl _ _ _⟩
theorem set_all {w : World} {g : Nat} {t : TypeId} {f : Ft} (h : Blk w g t (fcells f)) (a b n : Int) :
    Blk (((w.setCell ⟨g, 3, none⟩ (.int .i64 a)).setCell ⟨g, 4, none⟩ (.int .i64 b)).setCell ⟨g, 5, none⟩ (.int .i64 n)) g t (fcells ⟨n, f.g0, f.b0, a, b⟩) ∧ Keep w.heap.size [g] w (((w.setCell ⟨g, 3, none⟩ (.int .i64 a)).setCell ⟨g, 4, none⟩ (.int .i64 b)).setCell ⟨g, 5, none⟩ (.int .i64 n)) :=
  ⟨((h.set_ 3 _).set_ 4 _).set_ 5 _, (((Keep.refl _ _ w).set1).set1).set1⟩
theorem set_all1 {w : World} {g : Nat} {t : TypeId} {f : Ft} (h : Blk w g t (fcells f)) (a b n : Int) :
    Blk (((((w.setCell ⟨g, 3, none⟩ (.int .i64 a)).setCell ⟨g, 4, none⟩ (.int .i64 b)).setCell ⟨g, 1, none⟩ (.int .i64 a)).setCell ⟨g, 2, none⟩ (.int .i64 b)).setCell ⟨g, 5, none⟩ (.int .i64 n)) g t (fcells ⟨n, a, b, a, b⟩) ∧ Keep w.heap.size [g] w (((((w.setCell ⟨g, 3, none⟩ (.int .i64 a)).setCell ⟨g, 4, none⟩ (.int .i64 b)).setCell ⟨g, 1, none⟩ (.int .i64 a)).setCell ⟨g, 2, none⟩ (.int .i64 b)).setCell ⟨g, 5, none⟩ (.int .i64 n)) :=
  ⟨((((h.set_ 3 _).set_ 4 _).set_ 1 _).set_ 2 _).set_ 5 _, (((((Keep.refl _ _ w).set1).set1).set1).set1).set1⟩
set_option maxHeartbeats 2000000 in
theorem add_good (w : World) (g : Nat) (f : Ft) (a b : Int) (hb : Blk w g 51 (fcells f)) (hf : Fo f) (hn : f.n < 1000000) (hgood : ¬ badP f a b) : Calls Try.prog 13 #[pf g, .int .i64 a, .int .i64 b] w (AddPost w g (goodF f a b) 0) := by
  have h0 : w.cell? ⟨g, 0, none⟩ = some (.bool true) := hb.cell 0
  obtain ⟨h1, h2, h3, h4, h5⟩ := fcell6 hb
  have q1 := hb.frozen 1
  have q2 := hb.frozen 2
  have q3 := hb.frozen 3
  have q4 := hb.frozen 4
  have q5 := hb.frozen 5
  have HB := Lib.hid hb
  clear hb
  have n0 := hf.n0
  have va : okT a = true := by simp only [okT, decide_eq_true_eq]; unfold badP at hgood; omega
  have vb : okT b = true := by simp only [okT, decide_eq_true_eq]; unfold badP at hgood; omega
  by_cases h6 : f.n = 0
  · have hg : Hid (goodF f a b = ⟨f.n + 1, a, b, a, b⟩) := Lib.hid (by unfold goodF; rw [if_pos h6, if_pos h6])
    have h7 : ¬ 0 < f.n := by omega
    clear hgood hf
    go_enter Try.func13, Try.ntmps13
    go_wp2_with fail
    refine (none_any _ g f HB.out).mono ?_
    rintro e w' ⟨rfl, rfl⟩
    go_wp2_with fail
    refine (valid_any _ a true (by assumption)).mono ?_
    rintro e w' ⟨rfl, rfl⟩
    go_wp2_with fail
    refine (valid_any _ b true (by assumption)).mono ?_
    rintro e w' ⟨rfl, rfl⟩
    go_wp2_with fail
    go_ret
    rw [hg.out]
    have h := set_all1 HB.out a b (f.n + 1)
    rw [h6] at h ⊢
    exact ⟨rfl, h.1, h.2⟩
  · have hg : Hid (goodF f a b = ⟨f.n + 1, f.g0, f.b0, a, b⟩) := Lib.hid (by unfold goodF; rw [if_neg h6, if_neg h6])
    have h7 : 0 < f.n := by omega
    have h8 : f.g1 < a := by unfold badP at hgood; omega
    have h9 : f.b1 < b := by unfold badP at hgood; omega
    clear hgood hf
    go_enter Try.func13, Try.ntmps13
    go_wp2_with fail
    refine (none_any _ g f HB.out).mono ?_
    rintro e w' ⟨rfl, rfl⟩
    go_wp2_with fail
    refine (valid_any _ a true (by assumption)).mono ?_
    rintro e w' ⟨rfl, rfl⟩
    go_wp2_with fail
    refine (valid_any _ b true (by assumption)).mono ?_
    rintro e w' ⟨rfl, rfl⟩
    go_wp2_with fail
    go_ret
    rw [hg.out]
    have h := set_all HB.out a b (f.n + 1)
    exact ⟨rfl, h.1, h.2⟩
theorem add_any (w : World) (g : Nat) (f f' : Ft) (a b z : Int) (h : addP f a b = (f', z)) (hb : Blk w g 51 (fcells f)) (hf : Fo f) (hn : f.n < 1000000) : Calls Try.prog 13 #[pf g, .int .i64 a, .int .i64 b] w (AddPost w g f' z) := by
  by_cases hbad : badP f a b
  · rw [addP_bad hbad] at h
    obtain ⟨rfl, rfl⟩ := Prod.mk.inj h
    exact add_bad w g f a b hb hbad
  · rw [addP_good hbad] at h
    obtain ⟨rfl, rfl⟩ := Prod.mk.inj h
    exact add_good w g f a b hb hf hn hbad
end Go.Proofs.Ytdckpamempejgaa
