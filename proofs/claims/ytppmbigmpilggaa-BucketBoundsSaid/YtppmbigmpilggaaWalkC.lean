/- The contracts of When and Clone. -/
import Derived.Test.YtppmbigmpilggaaWalkB
namespace Go.Proofs.Ytppmbigmpilggaa
set_option linter.unusedVariables false
set_option linter.unusedSimpArgs false
open Go.RowKit
theorem whens_1 (c : Bu) (n : Int) (h : n < 0) : c.whens n = (0, false) := by rw [Bu.whens, if_pos (.inl h)]
theorem whens_2 (c : Bu) (n : Int) (h : c.s < n) : c.whens n = (0, false) := by rw [Bu.whens, if_pos (.inr h)]
theorem whens_3 (c : Bu) (n : Int) (h0 : 0 ≤ n) (h : n ≤ c.s) (h1 : n ≤ c.l) : c.whens n = (c.t, true) := by rw [Bu.whens, if_neg (by omega), if_pos h1]
theorem whens_4 (c : Bu) (n : Int) (h0 : 0 ≤ n) (h : n ≤ c.s) (h1 : c.l < n) (h2 : c.r = 0) : c.whens n = (0, false) := by rw [Bu.whens, if_neg (by omega), if_neg (by omega), if_pos h2]
theorem whens_5 (c : Bu) (n : Int) (h0 : 0 ≤ n) (h : n ≤ c.s) (h1 : c.l < n) (h2 : 0 < c.r) (h3 : 1099511627776 < c.whenT n) : c.whens n = (0, false) := by
  rw [Bu.whens, if_neg (by omega), if_neg (by omega), if_neg (by omega), if_pos h3]
theorem whens_6 (c : Bu) (n : Int) (h0 : 0 ≤ n) (h : n ≤ c.s) (h1 : c.l < n) (h2 : 0 < c.r) (h3 : c.whenT n ≤ 1099511627776) : c.whens n = (c.whenT n, true) := by
  rw [Bu.whens, if_neg (by omega), if_neg (by omega), if_neg (by omega), if_neg (by omega)]

set_option maxHeartbeats 1000000 in
theorem when_at (w : World) (g : Nat) (b c : Bu) (hc : c.Inv) (n now : Int) (hb : Blk w g 47 (bcells b))
    (HA : Hid (Calls Try.prog 21 #[bptr g, .int .i64 now] w (AdvPost w g c))) :
    Calls Try.prog 15 #[bptr g, .int .i64 n, .int .i64 now] w (TakePost w g 47 (bcells c) (.tuple #[.int .i64 (c.whens n).1, .bool (c.whens n).2])) := by
  obtain ⟨i1, i2, i3, i4, i5, i6, i7, i8⟩ := id hc
  have HB := Lib.hid hb
  clear hb
  by_cases h1 : n < 0
  · rw [whens_1 c n h1]
    go_enter Try.func15, Try.ntmps15
    go_wp2_with fail
    refine (ok_any _ g b HB.out).mono ?_
    rintro e w' ⟨rfl, rfl⟩
    go_wp2_with fail
    refine HA.out.mono ?_
    rintro e w1 ⟨rfl, hb1, hk1⟩
    have c1 : w1.cell? ⟨g, 1, none⟩ = some (.int .i64 c.r) := hb1.cell 1
    have c2 : w1.cell? ⟨g, 2, none⟩ = some (.int .i64 c.s) := hb1.cell 2
    have c3 : w1.cell? ⟨g, 3, none⟩ = some (.int .i64 c.l) := hb1.cell 3
    have c4 : w1.cell? ⟨g, 4, none⟩ = some (.int .i64 c.t) := hb1.cell 4
    have HB1 := Lib.hid hb1
    have HK1 := Lib.hid hk1
    clear hb1 hk1 HA HB
    go_wp2_with fail
    go_ret2
    exact ⟨rfl, HB1.out, HK1.out⟩
  by_cases h2 : c.s < n
  · rw [whens_2 c n h2]
    go_enter Try.func15, Try.ntmps15
    go_wp2_with fail
    refine (ok_any _ g b HB.out).mono ?_
    rintro e w' ⟨rfl, rfl⟩
    go_wp2_with fail
    refine HA.out.mono ?_
    rintro e w1 ⟨rfl, hb1, hk1⟩
    have c1 : w1.cell? ⟨g, 1, none⟩ = some (.int .i64 c.r) := hb1.cell 1
    have c2 : w1.cell? ⟨g, 2, none⟩ = some (.int .i64 c.s) := hb1.cell 2
    have c3 : w1.cell? ⟨g, 3, none⟩ = some (.int .i64 c.l) := hb1.cell 3
    have c4 : w1.cell? ⟨g, 4, none⟩ = some (.int .i64 c.t) := hb1.cell 4
    have HB1 := Lib.hid hb1
    have HK1 := Lib.hid hk1
    clear hb1 hk1 HA HB
    go_wp2_with fail
    go_ret2
    exact ⟨rfl, HB1.out, HK1.out⟩
  by_cases h3 : n ≤ c.l
  · rw [whens_3 c n (by omega) (by omega) h3]
    go_enter Try.func15, Try.ntmps15
    go_wp2_with fail
    refine (ok_any _ g b HB.out).mono ?_
    rintro e w' ⟨rfl, rfl⟩
    go_wp2_with fail
    refine HA.out.mono ?_
    rintro e w1 ⟨rfl, hb1, hk1⟩
    have c1 : w1.cell? ⟨g, 1, none⟩ = some (.int .i64 c.r) := hb1.cell 1
    have c2 : w1.cell? ⟨g, 2, none⟩ = some (.int .i64 c.s) := hb1.cell 2
    have c3 : w1.cell? ⟨g, 3, none⟩ = some (.int .i64 c.l) := hb1.cell 3
    have c4 : w1.cell? ⟨g, 4, none⟩ = some (.int .i64 c.t) := hb1.cell 4
    have HB1 := Lib.hid hb1
    have HK1 := Lib.hid hk1
    clear hb1 hk1 HA HB
    go_wp2_with fail
    go_ret2
    exact ⟨rfl, HB1.out, HK1.out⟩
  by_cases h4 : c.r = 0
  · rw [whens_4 c n (by omega) (by omega) (by omega) h4]
    have h4' : (c.r == 0) = true := beq_iff_eq.2 h4
    clear h4
    go_enter Try.func15, Try.ntmps15
    go_wp2_with fail
    refine (ok_any _ g b HB.out).mono ?_
    rintro e w' ⟨rfl, rfl⟩
    go_wp2_with fail
    refine HA.out.mono ?_
    rintro e w1 ⟨rfl, hb1, hk1⟩
    have c1 : w1.cell? ⟨g, 1, none⟩ = some (.int .i64 c.r) := hb1.cell 1
    have c2 : w1.cell? ⟨g, 2, none⟩ = some (.int .i64 c.s) := hb1.cell 2
    have c3 : w1.cell? ⟨g, 3, none⟩ = some (.int .i64 c.l) := hb1.cell 3
    have c4 : w1.cell? ⟨g, 4, none⟩ = some (.int .i64 c.t) := hb1.cell 4
    have HB1 := Lib.hid hb1
    have HK1 := Lib.hid hk1
    clear hb1 hk1 HA HB
    go_wp2_with fail
    go_ret2
    exact ⟨rfl, HB1.out, HK1.out⟩
  have h4' : (c.r == 0) = false := beq_eq_false_iff_ne.2 h4
  have h5 : 0 < c.r := by omega
  have hw1 := (whenT_bd c hc n (by omega) (by omega) h5).1
  have hw2 := (whenT_bd c hc n (by omega) (by omega) h5).2
  have h6 : 0 ≤ n - c.l + c.r - 1 := by omega
  by_cases h3' : 1099511627776 < c.whenT n
  · rw [whens_5 c n (by omega) (by omega) (by omega) h5 h3']
    unfold Bu.whenT at h3'
    clear h4
    go_enter Try.func15, Try.ntmps15
    go_wp2_with fail
    refine (ok_any _ g b HB.out).mono ?_
    rintro e w' ⟨rfl, rfl⟩
    go_wp2_with fail
    refine HA.out.mono ?_
    rintro e w1 ⟨rfl, hb1, hk1⟩
    have c1 : w1.cell? ⟨g, 1, none⟩ = some (.int .i64 c.r) := hb1.cell 1
    have c2 : w1.cell? ⟨g, 2, none⟩ = some (.int .i64 c.s) := hb1.cell 2
    have c3 : w1.cell? ⟨g, 3, none⟩ = some (.int .i64 c.l) := hb1.cell 3
    have c4 : w1.cell? ⟨g, 4, none⟩ = some (.int .i64 c.t) := hb1.cell 4
    have HB1 := Lib.hid hb1
    have HK1 := Lib.hid hk1
    clear hb1 hk1 HA HB
    go_wp2_with fail
    go_quiet (fail)
    go_wp2_with fail
    go_ret2
    exact ⟨rfl, HB1.out, HK1.out.drewN _⟩
  · rw [whens_6 c n (by omega) (by omega) (by omega) h5 (by omega)]
    unfold Bu.whenT at h3' ⊢
    clear h4
    go_enter Try.func15, Try.ntmps15
    go_wp2_with fail
    refine (ok_any _ g b HB.out).mono ?_
    rintro e w' ⟨rfl, rfl⟩
    go_wp2_with fail
    refine HA.out.mono ?_
    rintro e w1 ⟨rfl, hb1, hk1⟩
    have c1 : w1.cell? ⟨g, 1, none⟩ = some (.int .i64 c.r) := hb1.cell 1
    have c2 : w1.cell? ⟨g, 2, none⟩ = some (.int .i64 c.s) := hb1.cell 2
    have c3 : w1.cell? ⟨g, 3, none⟩ = some (.int .i64 c.l) := hb1.cell 3
    have c4 : w1.cell? ⟨g, 4, none⟩ = some (.int .i64 c.t) := hb1.cell 4
    have HB1 := Lib.hid hb1
    have HK1 := Lib.hid hk1
    clear hb1 hk1 HA HB
    go_wp2_with fail
    go_quiet (fail)
    go_wp2_with fail
    go_ret2
    exact ⟨rfl, HB1.out, HK1.out.drewN _⟩
theorem when_any (w : World) (g : Nat) (b : Bu) (hi : b.Inv) (n now : Int) (hb : Blk w g 47 (bcells b)) :
    Calls Try.prog 15 #[bptr g, .int .i64 n, .int .i64 now] w (TakePost w g 47 (bcells (b.adv now)) (.tuple #[.int .i64 ((b.adv now).whens n).1, .bool ((b.adv now).whens n).2])) :=
  when_at w g b (b.adv now) (adv_inv hi now) n now hb (Lib.hid (adv_any w g b hi now hb))

set_option maxHeartbeats 1000000 in
theorem rwhen_at (w : World) (g : Nat) (b c : Bu) (hc : c.Inv) (n now : Int) (hb : Blk w g 26 (rcells b))
    (HA : Hid (Calls Try.prog 22 #[bptr g, .int .i64 now] w (RAdvPost w g c))) :
    Calls Try.prog 19 #[bptr g, .int .i64 n, .int .i64 now] w (TakePost w g 26 (rcells c) (.tuple #[.int .i64 (c.whens n).1, .bool (c.whens n).2])) := by
  obtain ⟨i1, i2, i3, i4, i5, i6, i7, i8⟩ := id hc
  have HB := Lib.hid hb
  clear hb
  by_cases h1 : n < 0
  · rw [whens_1 c n h1]
    go_enter Try.func19, Try.ntmps19
    go_wp2_with fail
    refine HA.out.mono ?_
    rintro e w1 ⟨rfl, hb1, hk1⟩
    have c1 : w1.cell? ⟨g, 0, none⟩ = some (.int .i64 c.r) := hb1.cell 0
    have c2 : w1.cell? ⟨g, 1, none⟩ = some (.int .i64 c.s) := hb1.cell 1
    have c3 : w1.cell? ⟨g, 2, none⟩ = some (.int .i64 c.l) := hb1.cell 2
    have c4 : w1.cell? ⟨g, 3, none⟩ = some (.int .i64 c.t) := hb1.cell 3
    have HB1 := Lib.hid hb1
    have HK1 := Lib.hid hk1
    clear hb1 hk1 HA HB
    go_wp2_with fail
    go_ret2
    exact ⟨rfl, HB1.out, HK1.out⟩
  by_cases h2 : c.s < n
  · rw [whens_2 c n h2]
    go_enter Try.func19, Try.ntmps19
    go_wp2_with fail
    refine HA.out.mono ?_
    rintro e w1 ⟨rfl, hb1, hk1⟩
    have c1 : w1.cell? ⟨g, 0, none⟩ = some (.int .i64 c.r) := hb1.cell 0
    have c2 : w1.cell? ⟨g, 1, none⟩ = some (.int .i64 c.s) := hb1.cell 1
    have c3 : w1.cell? ⟨g, 2, none⟩ = some (.int .i64 c.l) := hb1.cell 2
    have c4 : w1.cell? ⟨g, 3, none⟩ = some (.int .i64 c.t) := hb1.cell 3
    have HB1 := Lib.hid hb1
    have HK1 := Lib.hid hk1
    clear hb1 hk1 HA HB
    go_wp2_with fail
    go_ret2
    exact ⟨rfl, HB1.out, HK1.out⟩
  by_cases h3 : n ≤ c.l
  · rw [whens_3 c n (by omega) (by omega) h3]
    go_enter Try.func19, Try.ntmps19
    go_wp2_with fail
    refine HA.out.mono ?_
    rintro e w1 ⟨rfl, hb1, hk1⟩
    have c1 : w1.cell? ⟨g, 0, none⟩ = some (.int .i64 c.r) := hb1.cell 0
    have c2 : w1.cell? ⟨g, 1, none⟩ = some (.int .i64 c.s) := hb1.cell 1
    have c3 : w1.cell? ⟨g, 2, none⟩ = some (.int .i64 c.l) := hb1.cell 2
    have c4 : w1.cell? ⟨g, 3, none⟩ = some (.int .i64 c.t) := hb1.cell 3
    have HB1 := Lib.hid hb1
    have HK1 := Lib.hid hk1
    clear hb1 hk1 HA HB
    go_wp2_with fail
    go_ret2
    exact ⟨rfl, HB1.out, HK1.out⟩
  by_cases h4 : c.r = 0
  · rw [whens_4 c n (by omega) (by omega) (by omega) h4]
    have h4' : (c.r == 0) = true := beq_iff_eq.2 h4
    clear h4
    go_enter Try.func19, Try.ntmps19
    go_wp2_with fail
    refine HA.out.mono ?_
    rintro e w1 ⟨rfl, hb1, hk1⟩
    have c1 : w1.cell? ⟨g, 0, none⟩ = some (.int .i64 c.r) := hb1.cell 0
    have c2 : w1.cell? ⟨g, 1, none⟩ = some (.int .i64 c.s) := hb1.cell 1
    have c3 : w1.cell? ⟨g, 2, none⟩ = some (.int .i64 c.l) := hb1.cell 2
    have c4 : w1.cell? ⟨g, 3, none⟩ = some (.int .i64 c.t) := hb1.cell 3
    have HB1 := Lib.hid hb1
    have HK1 := Lib.hid hk1
    clear hb1 hk1 HA HB
    go_wp2_with fail
    go_ret2
    exact ⟨rfl, HB1.out, HK1.out⟩
  have h4' : (c.r == 0) = false := beq_eq_false_iff_ne.2 h4
  have h5 : 0 < c.r := by omega
  have hw1 := (whenT_bd c hc n (by omega) (by omega) h5).1
  have hw2 := (whenT_bd c hc n (by omega) (by omega) h5).2
  have h6 : 0 ≤ n - c.l + c.r - 1 := by omega
  by_cases h3' : 1099511627776 < c.whenT n
  · rw [whens_5 c n (by omega) (by omega) (by omega) h5 h3']
    unfold Bu.whenT at h3'
    clear h4
    go_enter Try.func19, Try.ntmps19
    go_wp2_with fail
    refine HA.out.mono ?_
    rintro e w1 ⟨rfl, hb1, hk1⟩
    have c1 : w1.cell? ⟨g, 0, none⟩ = some (.int .i64 c.r) := hb1.cell 0
    have c2 : w1.cell? ⟨g, 1, none⟩ = some (.int .i64 c.s) := hb1.cell 1
    have c3 : w1.cell? ⟨g, 2, none⟩ = some (.int .i64 c.l) := hb1.cell 2
    have c4 : w1.cell? ⟨g, 3, none⟩ = some (.int .i64 c.t) := hb1.cell 3
    have HB1 := Lib.hid hb1
    have HK1 := Lib.hid hk1
    clear hb1 hk1 HA HB
    go_wp2_with fail
    go_quiet (fail)
    go_wp2_with fail
    go_ret2
    exact ⟨rfl, HB1.out, HK1.out.drewN _⟩
  · rw [whens_6 c n (by omega) (by omega) (by omega) h5 (by omega)]
    unfold Bu.whenT at h3' ⊢
    clear h4
    go_enter Try.func19, Try.ntmps19
    go_wp2_with fail
    refine HA.out.mono ?_
    rintro e w1 ⟨rfl, hb1, hk1⟩
    have c1 : w1.cell? ⟨g, 0, none⟩ = some (.int .i64 c.r) := hb1.cell 0
    have c2 : w1.cell? ⟨g, 1, none⟩ = some (.int .i64 c.s) := hb1.cell 1
    have c3 : w1.cell? ⟨g, 2, none⟩ = some (.int .i64 c.l) := hb1.cell 2
    have c4 : w1.cell? ⟨g, 3, none⟩ = some (.int .i64 c.t) := hb1.cell 3
    have HB1 := Lib.hid hb1
    have HK1 := Lib.hid hk1
    clear hb1 hk1 HA HB
    go_wp2_with fail
    go_quiet (fail)
    go_wp2_with fail
    go_ret2
    exact ⟨rfl, HB1.out, HK1.out.drewN _⟩
theorem rwhen_any (w : World) (g : Nat) (b : Bu) (hi : b.Inv) (n now : Int) (hb : Blk w g 26 (rcells b)) :
    Calls Try.prog 19 #[bptr g, .int .i64 n, .int .i64 now] w (TakePost w g 26 (rcells (b.adv now)) (.tuple #[.int .i64 ((b.adv now).whens n).1, .bool ((b.adv now).whens n).2])) :=
  rwhen_at w g b (b.adv now) (adv_inv hi now) n now hb (Lib.hid (radv_any w g b hi now hb))

set_option maxHeartbeats 400000 in
theorem clone_any (w : World) (g : Nat) (b : Bu) (hb : Blk w g 47 (bcells b)) :
    Calls Try.prog 16 #[bptr g] w (NewPost w 47 (bcells b)) := by
  have c0 : w.cell? ⟨g, 0, none⟩ = some (.bool true) := hb.cell 0
  have c1 : w.cell? ⟨g, 1, none⟩ = some (.int .i64 b.r) := hb.cell 1
  have c2 : w.cell? ⟨g, 2, none⟩ = some (.int .i64 b.s) := hb.cell 2
  have c3 : w.cell? ⟨g, 3, none⟩ = some (.int .i64 b.l) := hb.cell 3
  have c4 : w.cell? ⟨g, 4, none⟩ = some (.int .i64 b.t) := hb.cell 4
  have HB := Lib.hid hb
  clear hb
  go_enter Try.func16, Try.ntmps16
  go_wp2_with fail
  refine (ok_any _ g b HB.out).mono ?_
  rintro e w' ⟨rfl, rfl⟩
  go_wp2_with fail
  go_ret
  exact ⟨_, rfl, Nat.le_refl _, Blk.new _ _ _, (Keep.refl _ _ _).alloc (Nat.le_refl _) _⟩
end Go.Proofs.Ytppmbigmpilggaa
