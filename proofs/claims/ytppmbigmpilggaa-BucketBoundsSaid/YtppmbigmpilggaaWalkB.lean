/- The contracts of Take, Level, When, Clone, New of the bucket and of its reference. -/
import Derived.Test.YtppmbigmpilggaaWalkA
namespace Go.Proofs.Ytppmbigmpilggaa
set_option linter.unusedVariables false
set_option linter.unusedSimpArgs false
open Go.RowKit

theorem radv_rintro {P : Prop} (h : P) : P := h

def TakePost (w : World) (g : Nat) (t : TypeId) (cs : Array Value) (v : Value) (e : Ending) (w' : World) : Prop :=
  e = .returned v ∧ Blk w' g t cs ∧ Keep w.heap.size [g] w w'

set_option maxHeartbeats 400000 in
theorem take_any (w : World) (g : Nat) (b : Bu) (hi : b.Inv) (n now : Int) (hb : Blk w g 47 (bcells b)) :
    Calls Try.prog 14 #[bptr g, .int .i64 n, .int .i64 now] w (TakePost w g 47 (bcells (b.take n now)) (.bool (b.takes n now))) := by
  have hi' := adv_inv hi now
  have hr := adv_r b now
  have hs := adv_s b now
  by_cases hn : n < 0
  · have ht : b.takes n now = false := by simp [Bu.takes]; omega
    have hk : b.take n now = b.adv now := by simp [Bu.take, ht]
    rw [hk, ht]
    have HB := Lib.hid hb
    clear hb ht hk hr hs
    go_enter Try.func14, Try.ntmps14
    go_wp2_with fail
    refine (ok_any _ g b HB.out).mono ?_
    rintro e w' ⟨rfl, rfl⟩
    go_wp2_with fail
    refine (adv_any _ g b hi now HB.out).mono ?_
    rintro e w1 ⟨rfl, hb1, hk1⟩
    have HB1 := Lib.hid hb1
    have HK1 := Lib.hid hk1
    clear hb1 hk1
    go_wp2_with fail
    go_ret
    exact ⟨rfl, HB1.out, HK1.out⟩
  · by_cases hl : (b.adv now).l < n
    · have ht : b.takes n now = false := by simp [Bu.takes]; omega
      have hk : b.take n now = b.adv now := by simp [Bu.take, ht]
      rw [hk, ht]
      have HB := Lib.hid hb
      clear hb ht hk hr hs
      go_enter Try.func14, Try.ntmps14
      go_wp2_with fail
      refine (ok_any _ g b HB.out).mono ?_
      rintro e w' ⟨rfl, rfl⟩
      go_wp2_with fail
      refine (adv_any _ g b hi now HB.out).mono ?_
      rintro e w1 ⟨rfl, hb1, hk1⟩
      have c3 : w1.cell? ⟨g, 3, none⟩ = some (.int .i64 (b.adv now).l) := hb1.cell 3
      have HB1 := Lib.hid hb1
      have HK1 := Lib.hid hk1
      clear hb1 hk1
      go_wp2_with fail
      go_ret
      exact ⟨rfl, HB1.out, HK1.out⟩
    · have ht : b.takes n now = true := by simp [Bu.takes]; omega
      have hk : b.take n now = ⟨(b.adv now).r, (b.adv now).s, (b.adv now).l - n, (b.adv now).t⟩ := by simp [Bu.take, ht, hr, hs]
      rw [hk, ht]
      have hl' : n ≤ (b.adv now).l := by omega
      have i1 := hi'.l0
      have i2 := hi'.l1
      have i3 := hi'.s1
      have HB := Lib.hid hb
      clear hb ht hk hr hs
      go_enter Try.func14, Try.ntmps14
      go_wp2_with fail
      refine (ok_any _ g b HB.out).mono ?_
      rintro e w' ⟨rfl, rfl⟩
      go_wp2_with fail
      refine (adv_any _ g b hi now HB.out).mono ?_
      rintro e w1 ⟨rfl, hb1, hk1⟩
      have c3 : w1.cell? ⟨g, 3, none⟩ = some (.int .i64 (b.adv now).l) := hb1.cell 3
      have f3 := hb1.frozen 3
      have HB1 := Lib.hid hb1
      have HK1 := Lib.hid hk1
      clear hb1 hk1
      go_wp2_with fail
      go_ret
      exact ⟨rfl, by rw [← upd1]; exact HB1.out.set_ 3 _, HK1.out.set1⟩

set_option maxHeartbeats 400000 in
theorem rtake_any (w : World) (g : Nat) (b : Bu) (hi : b.Inv) (n now : Int) (hb : Blk w g 26 (rcells b)) :
    Calls Try.prog 18 #[bptr g, .int .i64 n, .int .i64 now] w (TakePost w g 26 (rcells (b.take n now)) (.bool (b.takes n now))) := by
  have hi' := adv_inv hi now
  have hr := adv_r b now
  have hs := adv_s b now
  by_cases hn : n < 0
  · have ht : b.takes n now = false := by simp [Bu.takes]; omega
    have hk : b.take n now = b.adv now := by simp [Bu.take, ht]
    rw [hk, ht]
    have HB := Lib.hid hb
    clear hb ht hk hr hs
    go_enter Try.func18, Try.ntmps18
    go_wp2_with fail
    refine (radv_any _ g b hi now HB.out).mono ?_
    rintro e w1 ⟨rfl, hb1, hk1⟩
    have HB1 := Lib.hid hb1
    have HK1 := Lib.hid hk1
    clear hb1 hk1
    go_wp2_with fail
    go_ret
    exact ⟨rfl, HB1.out, HK1.out⟩
  · by_cases hl : (b.adv now).l < n
    · have ht : b.takes n now = false := by simp [Bu.takes]; omega
      have hk : b.take n now = b.adv now := by simp [Bu.take, ht]
      rw [hk, ht]
      have HB := Lib.hid hb
      clear hb ht hk hr hs
      go_enter Try.func18, Try.ntmps18
      go_wp2_with fail
      refine (radv_any _ g b hi now HB.out).mono ?_
      rintro e w1 ⟨rfl, hb1, hk1⟩
      have c3 : w1.cell? ⟨g, 2, none⟩ = some (.int .i64 (b.adv now).l) := hb1.cell 2
      have HB1 := Lib.hid hb1
      have HK1 := Lib.hid hk1
      clear hb1 hk1
      go_wp2_with fail
      go_ret
      exact ⟨rfl, HB1.out, HK1.out⟩
    · have ht : b.takes n now = true := by simp [Bu.takes]; omega
      have hk : b.take n now = ⟨(b.adv now).r, (b.adv now).s, (b.adv now).l - n, (b.adv now).t⟩ := by simp [Bu.take, ht, hr, hs]
      rw [hk, ht]
      have hl' : n ≤ (b.adv now).l := by omega
      have i1 := hi'.l0
      have i2 := hi'.l1
      have i3 := hi'.s1
      have HB := Lib.hid hb
      clear hb ht hk hr hs
      go_enter Try.func18, Try.ntmps18
      go_wp2_with fail
      refine (radv_any _ g b hi now HB.out).mono ?_
      rintro e w1 ⟨rfl, hb1, hk1⟩
      have c3 : w1.cell? ⟨g, 2, none⟩ = some (.int .i64 (b.adv now).l) := hb1.cell 2
      have f3 := hb1.frozen 2
      have HB1 := Lib.hid hb1
      have HK1 := Lib.hid hk1
      clear hb1 hk1
      go_wp2_with fail
      go_ret
      exact ⟨rfl, by rw [← rupd1]; exact HB1.out.set_ 2 _, HK1.out.set1⟩

set_option maxHeartbeats 400000 in
theorem level_any (w : World) (g : Nat) (b : Bu) (hi : b.Inv) (now : Int) (hb : Blk w g 47 (bcells b)) :
    Calls Try.prog 12 #[bptr g, .int .i64 now] w (TakePost w g 47 (bcells (b.adv now)) (.int .i64 (b.adv now).l)) := by
  have HB := Lib.hid hb
  clear hb
  go_enter Try.func12, Try.ntmps12
  go_wp2_with fail
  refine (ok_any _ g b HB.out).mono ?_
  rintro e w' ⟨rfl, rfl⟩
  go_wp2_with fail
  refine (adv_any _ g b hi now HB.out).mono ?_
  rintro e w1 ⟨rfl, hb1, hk1⟩
  have c3 : w1.cell? ⟨g, 3, none⟩ = some (.int .i64 (b.adv now).l) := hb1.cell 3
  have HB1 := Lib.hid hb1
  have HK1 := Lib.hid hk1
  clear hb1 hk1
  go_wp2_with fail
  go_ret
  exact ⟨rfl, HB1.out, HK1.out⟩

set_option maxHeartbeats 400000 in
theorem rlevel_any (w : World) (g : Nat) (b : Bu) (hi : b.Inv) (now : Int) (hb : Blk w g 26 (rcells b)) :
    Calls Try.prog 13 #[bptr g, .int .i64 now] w (TakePost w g 26 (rcells (b.adv now)) (.int .i64 (b.adv now).l)) := by
  have HB := Lib.hid hb
  clear hb
  go_enter Try.func13, Try.ntmps13
  go_wp2_with fail
  refine (radv_any _ g b hi now HB.out).mono ?_
  rintro e w1 ⟨rfl, hb1, hk1⟩
  have c3 : w1.cell? ⟨g, 2, none⟩ = some (.int .i64 (b.adv now).l) := hb1.cell 2
  have HB1 := Lib.hid hb1
  have HK1 := Lib.hid hk1
  clear hb1 hk1
  go_wp2_with fail
  go_ret
  exact ⟨rfl, HB1.out, HK1.out⟩

set_option maxHeartbeats 400000 in
theorem clamp_any (w : World) (n : Int) :
    Calls Try.prog 17 #[.int .i64 n] w fun e w' => e = .returned (.int .i64 (clampP n)) ∧ w = w' := by
  by_cases h1 : n < 0
  · have hc : clampP n = 0 := if_pos h1
    rw [hc]
    clear hc
    go_enter Try.func17, Try.ntmps17
    go_wp2
    go_ret
    exact ⟨rfl, rfl⟩
  · by_cases h2 : 2147483648 < n
    · have hc : clampP n = 2147483648 := by rw [clampP, if_neg h1, if_pos h2]
      rw [hc]
      clear hc
      go_enter Try.func17, Try.ntmps17
      go_wp2
      go_ret
      exact ⟨rfl, rfl⟩
    · have hc : clampP n = n := by rw [clampP, if_neg h1, if_neg h2]
      rw [hc]
      clear hc
      go_enter Try.func17, Try.ntmps17
      go_wp2
      go_ret
      exact ⟨rfl, rfl⟩

def NewPost (w : World) (t : TypeId) (cs : Array Value) (e : Ending) (w' : World) : Prop :=
  ∃ g, e = .returned (bptr g) ∧ w.heap.size ≤ g ∧ Blk w' g t cs ∧ Keep w.heap.size [] w w'

theorem clampP_lo (n : Int) (h : n < 0) : clampP n = 0 := if_pos h
theorem clampP_hi (n : Int) (h : 2147483648 < n) : clampP n = 2147483648 := by rw [clampP, if_neg (by omega), if_pos h]
theorem clampP_mid (n : Int) (h0 : 0 ≤ n) (h : n ≤ 2147483648) : clampP n = n := by rw [clampP, if_neg (by omega), if_neg (by omega)]
theorem newPost_of (w : World) (r s r' s' : Int) (h1 : clampP r = r') (h2 : clampP s = s') :
    NewPost w 47 (bcells (newB r s)) (.returned (bptr w.heap.size)) (w.alloc (.cells #[.bool true, .int .i64 r', .int .i64 s', .int .i64 s', .int .i64 0] 47)) := by
  subst h1; subst h2
  exact ⟨_, rfl, Nat.le_refl _, Blk.new _ _ _, (Keep.refl _ _ _).alloc (Nat.le_refl _) _⟩

set_option maxHeartbeats 1000000 in
theorem new_any (w : World) (r s : Int) :
    Calls Try.prog 8 #[.int .i64 r, .int .i64 s] w (NewPost w 47 (bcells (newB r s))) := by
  rcases (show r < 0 ∨ (0 ≤ r ∧ r ≤ 2147483648) ∨ 2147483648 < r by omega) with h1 | ⟨h1, h1'⟩ | h1
  all_goals
    rcases (show s < 0 ∨ (0 ≤ s ∧ s ≤ 2147483648) ∨ 2147483648 < s by omega) with h2 | ⟨h2, h2'⟩ | h2
  all_goals
    go_enter Try.func8, Try.ntmps8
    go_wp2
    go_ret
    exact newPost_of w r s _ _ (by first | exact clampP_lo _ h1 | exact clampP_mid _ h1 h1' | exact clampP_hi _ h1) (by first | exact clampP_lo _ h2 | exact clampP_mid _ h2 h2' | exact clampP_hi _ h2)

def RNewPost (w : World) (b : Bu) (e : Ending) (w' : World) : Prop :=
  e = .returned (.agg #[.int .i64 b.r, .int .i64 b.s, .int .i64 b.l, .int .i64 b.t]) ∧ Keep w.heap.size [] w w'
set_option maxHeartbeats 400000 in
theorem rnew_any (w : World) (r s : Int) :
    Calls Try.prog 9 #[.int .i64 r, .int .i64 s] w (RNewPost w (newB r s)) := by
  go_enter Try.func9, Try.ntmps9
  go_wp2_with fail
  refine (clamp_any _ _).mono ?_
  rintro e w' ⟨rfl, rfl⟩
  go_wp2_with fail
  refine (clamp_any _ _).mono ?_
  rintro e w' ⟨rfl, rfl⟩
  go_wp2_with fail
  refine (clamp_any _ _).mono ?_
  rintro e w' ⟨rfl, rfl⟩
  go_wp2_with fail
  refine bodyPost_ret (v := .agg (rcells (newB r s))) (by simp [results, Try.results9, go_sem, rcells, newB]) rfl ⟨rfl, ?_⟩
  exact (Keep.refl _ _ _).alloc (Nat.le_refl _) _

end Go.Proofs.Ytppmbigmpilggaa
