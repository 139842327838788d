/- Returns: the walk. -/
import Derived.Test.YtdckpamempejgaaTLawB
namespace Go.Proofs.Ytdckpamempejgaa
set_option linter.unusedVariables false
set_option linter.unusedSimpArgs false
open Go.RowKit
set_option maxHeartbeats 8000000 in
theorem returns_any (w : World) (a b c d t : Int) : Calls Try.prog 5 #[p2 a b, p2 c d, .int .i64 t] w (LawPost w) := by
  obtain ⟨f1, z1, ha1⟩ : ∃ f z, addP f0 a b = (f, z) := ⟨_, _, rfl⟩
  obtain ⟨f2, z2, ha2⟩ : ∃ f z, addP f1 c d = (f, z) := ⟨_, _, rfl⟩
  have hn1 : f1.n ≤ 1 := by have := (add_ok (a := a) (b := b) f0_ok (by decide)).2; rw [ha1] at this; exact this
  have HA1 := Lib.hid ha1
  have HA2 := Lib.hid ha2
  obtain ⟨g, hg⟩ : ∃ g, w.heap.size + 2 = g := ⟨_, rfl⟩
  have HG : Hid (((w.alloc (.cells #[.int .i64 a, .int .i64 b] 34)).alloc (.cells #[.int .i64 c, .int .i64 d] 34)).heap.size = g) := Lib.hid (by rw [← hg]; simp)
  have HGG := Lib.hid hg
  clear hg
  by_cases h1 : z1 = 0
  case neg =>
    clear ha1 ha2
    go_enter Try.func5, Try.ntmps5
    go_wp2_with fail
    refine (new_any _).mono ?_
    rintro e w1 ⟨rfl, hb, hk⟩
    have X1 := Lib.hid (xstart2 HGG.out hb hk)
    clear hb hk
    rw [HG.out]
    obtain ⟨d1, d2⟩ := X1.out.b1.c
    go_wp2_with fail
    refine (add_any _ g f0 f1 a b z1 HA1.out X1.out.fw.blk X1.out.fw.ok (by decide)).mono ?_
    rintro e w2 ⟨rfl, hb, hk⟩
    have X2 := Lib.hid (X1.out.add (by decide) HA1.out hb hk)
    clear hb hk d1 d2
    obtain ⟨d1, d2⟩ := X2.out.b2.c
    go_wp2_with fail
    refine (alive_any _).mono ?_
    rintro e w9 ⟨rfl, hk⟩
    have K9 := Lib.hid (X2.out.fw.keep.chain0 (Nat.le_refl _) hk)
    clear hk
    go_wp2_with fail
    go_ret
    exact ⟨rfl, K9.out⟩
  subst h1
  by_cases h2 : z2 = 0
  case neg =>
    clear ha1 ha2
    go_enter Try.func5, Try.ntmps5
    go_wp2_with fail
    refine (new_any _).mono ?_
    rintro e w1 ⟨rfl, hb, hk⟩
    have X1 := Lib.hid (xstart2 HGG.out hb hk)
    clear hb hk
    rw [HG.out]
    obtain ⟨d1, d2⟩ := X1.out.b1.c
    go_wp2_with fail
    refine (add_any _ g f0 f1 a b 0 HA1.out X1.out.fw.blk X1.out.fw.ok (by decide)).mono ?_
    rintro e w2 ⟨rfl, hb, hk⟩
    have X2 := Lib.hid (X1.out.add (by decide) HA1.out hb hk)
    clear hb hk d1 d2
    obtain ⟨d1, d2⟩ := X2.out.b2.c
    go_wp2_with fail
    refine (add_any _ g f1 f2 c d z2 HA2.out X2.out.fw.blk X2.out.fw.ok (by omega)).mono ?_
    rintro e w3 ⟨rfl, hb, hk⟩
    have X3 := Lib.hid (X2.out.add (by omega) HA2.out hb hk)
    clear hb hk d1 d2
    obtain ⟨a1, a2⟩ := X3.out.b1.c
    obtain ⟨c1, c2⟩ := X3.out.b2.c
    go_wp2_with fail
    refine (alive_any _).mono ?_
    rintro e w9 ⟨rfl, hk⟩
    have K9 := Lib.hid (X3.out.fw.keep.chain0 (Nat.le_refl _) hk)
    clear hk
    go_wp2_with fail
    go_ret
    exact ⟨rfl, K9.out⟩
  subst h2
  obtain ⟨e1, e2⟩ := two_adds ha1 ha2
  have ok1 := (add_ok (a := a) (b := b) f0_ok (by decide)).1
  rw [ha1] at ok1
  have ok2 := (add_ok (a := c) (b := d) ok1 (by simp only; omega)).1
  rw [ha2] at ok2
  have OK2 := Lib.hid ok2
  have hbnd : 0 ≤ a ∧ a ≤ 1099511627776 ∧ 0 ≤ b ∧ b ≤ 1099511627776 ∧ 0 ≤ c ∧ c ≤ 1099511627776 ∧ 0 ≤ d ∧ d ≤ 1099511627776 := by
    have a0 := ok2.a0; have a1 := ok2.a1; have c0 := ok2.c0; have c1 := ok2.c1; have d0 := ok2.d0; have d1 := ok2.d1; have e0 := ok2.e0; have e1 := ok2.e1
    simp only [e2] at a0 a1 c0 c1 d0 d1 e0 e1
    omega
  obtain ⟨m1, m2, m3, m4, m5, m6, m7, m8⟩ := hbnd
  by_cases hs : d - b < c - a
  · clear ha1 ha2 e1 e2 ok1 ok2
    go_enter Try.func5, Try.ntmps5
    go_wp2_with fail
    refine (new_any _).mono ?_
    rintro e w1 ⟨rfl, hb, hk⟩
    have X1 := Lib.hid (xstart2 HGG.out hb hk)
    clear hb hk
    rw [HG.out]
    obtain ⟨d1, d2⟩ := X1.out.b1.c
    go_wp2_with fail
    refine (add_any _ g f0 f1 a b 0 HA1.out X1.out.fw.blk X1.out.fw.ok (by decide)).mono ?_
    rintro e w2 ⟨rfl, hb, hk⟩
    have X2 := Lib.hid (X1.out.add (by decide) HA1.out hb hk)
    clear hb hk d1 d2
    obtain ⟨d1, d2⟩ := X2.out.b2.c
    go_wp2_with fail
    refine (add_any _ g f1 f2 c d 0 HA2.out X2.out.fw.blk X2.out.fw.ok (by omega)).mono ?_
    rintro e w3 ⟨rfl, hb, hk⟩
    have X3 := Lib.hid (X2.out.add (by omega) HA2.out hb hk)
    clear hb hk d1 d2
    obtain ⟨a1, a2⟩ := X3.out.b1.c
    obtain ⟨c1, c2⟩ := X3.out.b2.c
    go_wp2_with fail
    refine (alive_any _).mono ?_
    rintro e w9 ⟨rfl, hk⟩
    have K9 := Lib.hid (X3.out.fw.keep.chain0 (Nat.le_refl _) hk)
    clear hk
    go_wp2_with fail
    go_ret
    exact ⟨rfl, K9.out⟩
  · obtain ⟨x, ex, hx⟩ : ∃ x e, boardP f2 t = (x, e) := ⟨_, _, rfl⟩
    obtain ⟨y, ey, hy⟩ : ∃ y e, groundP f2 x = (y, e) := ⟨_, _, rfl⟩
    have hret : ex = 0 → ey = 0 → y = t := fun h3 h4 => by subst h3; subst h4; exact board_ground f2 ok2 (by rw [e2]; simp) (by rw [e2]; simp only; omega) hx hy
    have HX := Lib.hid hx
    have HY := Lib.hid hy
    have hcase : ex ≠ 0 ∨ (ex = 0 ∧ ey ≠ 0) ∨ (ex = 0 ∧ ey = 0 ∧ y = t) := by
      by_cases h3 : ex = 0
      · by_cases h4 : ey = 0
        · exact .inr (.inr ⟨h3, h4, hret h3 h4⟩)
        · exact .inr (.inl ⟨h3, h4⟩)
      · exact .inl h3
    have hs' : c - a ≤ d - b := by omega
    clear ha1 ha2 e1 e2 ok1 ok2 hx hy hret hs
    go_enter Try.func5, Try.ntmps5
    go_wp2_with fail
    refine (new_any _).mono ?_
    rintro e w1 ⟨rfl, hb, hk⟩
    have X1 := Lib.hid (xstart2 HGG.out hb hk)
    clear hb hk
    rw [HG.out]
    obtain ⟨d1, d2⟩ := X1.out.b1.c
    go_wp2_with fail
    refine (add_any _ g f0 f1 a b 0 HA1.out X1.out.fw.blk X1.out.fw.ok (by decide)).mono ?_
    rintro e w2 ⟨rfl, hb, hk⟩
    have X2 := Lib.hid (X1.out.add (by decide) HA1.out hb hk)
    clear hb hk d1 d2
    obtain ⟨d1, d2⟩ := X2.out.b2.c
    go_wp2_with fail
    refine (add_any _ g f1 f2 c d 0 HA2.out X2.out.fw.blk X2.out.fw.ok (by omega)).mono ?_
    rintro e w3 ⟨rfl, hb, hk⟩
    have X3 := Lib.hid (X2.out.add (by omega) HA2.out hb hk)
    clear hb hk d1 d2
    obtain ⟨a1, a2⟩ := X3.out.b1.c
    obtain ⟨c1, c2⟩ := X3.out.b2.c
    go_wp2_with fail
    refine (board_any _ g f2 t x ex X3.out.fw.ok HX.out X3.out.fw.blk).mono ?_
    rintro e w4 ⟨rfl, hk⟩
    have X4 := Lib.hid (X3.out.next hk)
    clear hk a1 a2 c1 c2
    go_wp2_with fail
    refine (ground_any _ g f2 x y ey X4.out.fw.ok HY.out X4.out.fw.blk).mono ?_
    rintro e w5 ⟨rfl, hk⟩
    have X5 := Lib.hid (X4.out.next hk)
    clear hk
    rcases hcase with h3 | ⟨h3, h4⟩ | ⟨h3, h4, h5⟩
    · go_wp2_with fail
      refine (alive_any _).mono ?_
      rintro e w9 ⟨rfl, hk⟩
      have K9 := Lib.hid (X5.out.fw.keep.chain0 (Nat.le_refl _) hk)
      clear hk
      go_wp2_with fail
      go_ret
      exact ⟨rfl, K9.out⟩
    · subst h3
      go_wp2_with fail
      refine (alive_any _).mono ?_
      rintro e w9 ⟨rfl, hk⟩
      have K9 := Lib.hid (X5.out.fw.keep.chain0 (Nat.le_refl _) hk)
      clear hk
      go_wp2_with fail
      go_ret
      exact ⟨rfl, K9.out⟩
    · subst h3
      subst h4
      go_wp2_with fail
      refine (alive_any _).mono ?_
      rintro e w9 ⟨rfl, hk⟩
      have K9 := Lib.hid (X5.out.fw.keep.chain0 (Nat.le_refl _) hk)
      clear hk
      go_wp2_with fail
      go_ret
      exact ⟨rfl, K9.out⟩
end Go.Proofs.Ytdckpamempejgaa
