/- Fits and Returns: the walks. -/
import Derived.Test.YtdckpamempejgaaTMath2
namespace Go.Proofs.Ytdckpamempejgaa
set_option linter.unusedVariables false
set_option linter.unusedSimpArgs false
open Go.RowKit
abbrev p2 (a b : Int) : Value := .agg #[.int .i64 a, .int .i64 b]
/-- a block of two numbers -/
abbrev B2 (W : World) (v : Nat) (a b : Int) : Prop := Blk W v 34 #[.int .i64 a, .int .i64 b]
theorem B2.c {W : World} {v : Nat} {a b : Int} (h : B2 W v a b) : W.cell? ⟨v, 0, none⟩ = some (.int .i64 a) ∧ W.cell? ⟨v, 1, none⟩ = some (.int .i64 b) := ⟨h.cell 0, h.cell 1⟩
/-- a world on the way of Fits: three boxes, a correlation -/
structure XW (w W : World) (v1 v2 v3 g : Nat) (a b c d s t : Int) (f : Ft) : Prop where
  fw : FW w W g f
  b1 : B2 W v1 a b
  b2 : B2 W v2 c d
  b3 : B2 W v3 s t
  h1 : v1 ≠ g
  h2 : v2 ≠ g
  h3 : v3 ≠ g
theorem XW.next {w W W' : World} {v1 v2 v3 g : Nat} {a b c d s t : Int} {f : Ft} (h : XW w W v1 v2 v3 g a b c d s t f) (hk : Keep W.heap.size [] W W') : XW w W' v1 v2 v3 g a b c d s t f :=
  ⟨h.fw.next hk, h.b1.keepS hk (by simp), h.b2.keepS hk (by simp), h.b3.keepS hk (by simp), h.h1, h.h2, h.h3⟩
theorem XW.add {w W W' : World} {v1 v2 v3 g : Nat} {a b c d s t x y z : Int} {f f' : Ft} (h : XW w W v1 v2 v3 g a b c d s t f) (hn : f.n < 1000000) (ha : addP f x y = (f', z)) (hb : Blk W' g 51 (fcells f')) (hk : Keep W.heap.size [g] W W') : XW w W' v1 v2 v3 g a b c d s t f' :=
  ⟨h.fw.add hn ha hb hk, h.b1.keepS hk (by simpa using h.h1), h.b2.keepS hk (by simpa using h.h2), h.b3.keepS hk (by simpa using h.h3), h.h1, h.h2, h.h3⟩
theorem xstart3 {w w1 : World} {a b c d s t : Int} {g : Nat} (hg : w.heap.size + 3 = g) (hb : Blk w1 (((w.alloc (.cells #[.int .i64 a, .int .i64 b] 34)).alloc (.cells #[.int .i64 c, .int .i64 d] 34)).alloc (.cells #[.int .i64 s, .int .i64 t] 34)).heap.size 51 (fcells f0))
    (hk : Keep (((w.alloc (.cells #[.int .i64 a, .int .i64 b] 34)).alloc (.cells #[.int .i64 c, .int .i64 d] 34)).alloc (.cells #[.int .i64 s, .int .i64 t] 34)).heap.size [] (((w.alloc (.cells #[.int .i64 a, .int .i64 b] 34)).alloc (.cells #[.int .i64 c, .int .i64 d] 34)).alloc (.cells #[.int .i64 s, .int .i64 t] 34)) w1) :
    XW w w1 w.heap.size (w.heap.size + 1) (w.heap.size + 2) g a b c d s t f0 := by
  have k1 := (Keep.refl w.heap.size [] w).alloc (Nat.le_refl _) (.cells #[.int .i64 a, .int .i64 b] 34)
  have k2 := k1.alloc k1.size (.cells #[.int .i64 c, .int .i64 d] 34)
  have k3 := k2.alloc k2.size (.cells #[.int .i64 s, .int .i64 t] 34)
  have e1 := ((Blk.new w 34 #[.int .i64 a, .int .i64 b]).alloc (.cells #[.int .i64 c, .int .i64 d] 34)).alloc (.cells #[.int .i64 s, .int .i64 t] 34)
  have e2 := (Blk.new (w.alloc (.cells #[.int .i64 a, .int .i64 b] 34)) 34 #[.int .i64 c, .int .i64 d]).alloc (.cells #[.int .i64 s, .int .i64 t] 34)
  have e3 := Blk.new ((w.alloc (.cells #[.int .i64 a, .int .i64 b] 34)).alloc (.cells #[.int .i64 c, .int .i64 d] 34)) 34 #[.int .i64 s, .int .i64 t]
  have hs : (((w.alloc (.cells #[.int .i64 a, .int .i64 b] 34)).alloc (.cells #[.int .i64 c, .int .i64 d] 34)).alloc (.cells #[.int .i64 s, .int .i64 t] 34)).heap.size = g := by rw [← hg]; simp
  rw [hs] at hb
  refine ⟨⟨k3.chain0 (Nat.le_refl _) hk, hb, by omega, f0_ok⟩, e1.keepS hk (by simp), ?_, ?_, by omega, by omega, by omega⟩
  · have := e2.keepS hk (by simp); simpa using this
  · have := e3.keepS hk (by simp); simpa using this
theorem xstart2 {w w1 : World} {a b c d : Int} {g : Nat} (hg : w.heap.size + 2 = g) (hb : Blk w1 ((w.alloc (.cells #[.int .i64 a, .int .i64 b] 34)).alloc (.cells #[.int .i64 c, .int .i64 d] 34)).heap.size 51 (fcells f0))
    (hk : Keep ((w.alloc (.cells #[.int .i64 a, .int .i64 b] 34)).alloc (.cells #[.int .i64 c, .int .i64 d] 34)).heap.size [] ((w.alloc (.cells #[.int .i64 a, .int .i64 b] 34)).alloc (.cells #[.int .i64 c, .int .i64 d] 34)) w1) :
    XW w w1 w.heap.size (w.heap.size + 1) w.heap.size g a b c d a b f0 := by
  have k1 := (Keep.refl w.heap.size [] w).alloc (Nat.le_refl _) (.cells #[.int .i64 a, .int .i64 b] 34)
  have k2 := k1.alloc k1.size (.cells #[.int .i64 c, .int .i64 d] 34)
  have e1 := (Blk.new w 34 #[.int .i64 a, .int .i64 b]).alloc (.cells #[.int .i64 c, .int .i64 d] 34)
  have e2 := Blk.new (w.alloc (.cells #[.int .i64 a, .int .i64 b] 34)) 34 #[.int .i64 c, .int .i64 d]
  have hs : ((w.alloc (.cells #[.int .i64 a, .int .i64 b] 34)).alloc (.cells #[.int .i64 c, .int .i64 d] 34)).heap.size = g := by rw [← hg]; simp
  rw [hs] at hb
  refine ⟨⟨k2.chain0 (Nat.le_refl _) hk, hb, by omega, f0_ok⟩, e1.keepS hk (by simp), ?_, e1.keepS hk (by simp), by omega, by omega, by omega⟩
  have := e2.keepS hk (by simp); simpa using this
set_option maxHeartbeats 8000000 in
theorem fits_any (w : World) (a b c d s t : Int) : Calls Try.prog 4 #[p2 a b, p2 c d, p2 s t] w (LawPost w) := by
  obtain ⟨f1, z1, ha1⟩ : ∃ f z, addP f0 a b = (f, z) := ⟨_, _, rfl⟩
  obtain ⟨f2, z2, ha2⟩ : ∃ f z, addP f1 c d = (f, z) := ⟨_, _, rfl⟩
  have hn1 : f1.n ≤ 1 := by have := (add_ok (a := a) (b := b) f0_ok (by decide)).2; rw [ha1] at this; exact this
  have hf2 := ha2
  have HA1 := Lib.hid ha1
  have HA2 := Lib.hid ha2
  obtain ⟨g, hg⟩ : ∃ g, w.heap.size + 3 = g := ⟨_, rfl⟩
  have HG : Hid ((((w.alloc (.cells #[.int .i64 a, .int .i64 b] 34)).alloc (.cells #[.int .i64 c, .int .i64 d] 34)).alloc (.cells #[.int .i64 s, .int .i64 t] 34)).heap.size = g) := Lib.hid (by rw [← hg]; simp)
  have HGG := Lib.hid hg
  clear hg
  by_cases h1 : z1 = 0
  case neg =>
    clear ha1 ha2 hf2
    go_enter Try.func4, Try.ntmps4
    go_wp2_with fail
    refine (new_any _).mono ?_
    rintro e w1 ⟨rfl, hb, hk⟩
    have X1 := Lib.hid (xstart3 HGG.out hb hk)
    clear hb hk
    rw [HG.out]
    obtain ⟨d1, d2⟩ := X1.out.b1.c
    go_wp2_with fail
    refine (add_any _ g f0 f1 a b z1 HA1.out X1.out.fw.blk X1.out.fw.ok (by decide)).mono ?_
    rintro e w2 ⟨rfl, hb, hk⟩
    have X2 := Lib.hid (X1.out.add (by decide) HA1.out hb hk)
    clear hb hk d1 d2
    obtain ⟨d1, d2⟩ := X2.out.b2.c
    go_wp2_with fail
    refine (alive_any _).mono ?_
    rintro e w9 ⟨rfl, hk⟩
    have K9 := Lib.hid (X2.out.fw.keep.chain0 (Nat.le_refl _) hk)
    clear hk
    go_wp2_with fail
    go_ret
    exact ⟨rfl, K9.out⟩
  subst h1
  by_cases h2 : z2 = 0
  case neg =>
    clear ha1 ha2 hf2
    go_enter Try.func4, Try.ntmps4
    go_wp2_with fail
    refine (new_any _).mono ?_
    rintro e w1 ⟨rfl, hb, hk⟩
    have X1 := Lib.hid (xstart3 HGG.out hb hk)
    clear hb hk
    rw [HG.out]
    obtain ⟨d1, d2⟩ := X1.out.b1.c
    go_wp2_with fail
    refine (add_any _ g f0 f1 a b 0 HA1.out X1.out.fw.blk X1.out.fw.ok (by decide)).mono ?_
    rintro e w2 ⟨rfl, hb, hk⟩
    have X2 := Lib.hid (X1.out.add (by decide) HA1.out hb hk)
    clear hb hk d1 d2
    obtain ⟨d1, d2⟩ := X2.out.b2.c
    go_wp2_with fail
    refine (add_any _ g f1 f2 c d z2 HA2.out X2.out.fw.blk X2.out.fw.ok (by omega)).mono ?_
    rintro e w3 ⟨rfl, hb, hk⟩
    have X3 := Lib.hid (X2.out.add (by omega) HA2.out hb hk)
    clear hb hk d1 d2
    go_wp2_with fail
    refine (alive_any _).mono ?_
    rintro e w9 ⟨rfl, hk⟩
    have K9 := Lib.hid (X3.out.fw.keep.chain0 (Nat.le_refl _) hk)
    clear hk
    go_wp2_with fail
    go_ret
    exact ⟨rfl, K9.out⟩
  subst h2
  obtain ⟨e1, e2⟩ := two_adds ha1 ha2
  have ok1 := (add_ok (a := a) (b := b) f0_ok (by decide)).1
  rw [ha1] at ok1
  have ok2 := (add_ok (a := c) (b := d) ok1 (by simp only; omega)).1
  rw [ha2] at ok2
  obtain ⟨cf1, cf2⟩ := conv_first f2 ok2 (by rw [e2]; simp)
  obtain ⟨cl1, cl2⟩ := conv_last f2 ok2 (by rw [e2]; simp)
  rw [e2] at cf1 cf2 cl1 cl2
  simp only at cf1 cf2 cl1 cl2
  rw [← e2] at cf1 cf2 cl1 cl2
  obtain ⟨p, hp⟩ : ∃ p, min s t = p := ⟨_, rfl⟩
  obtain ⟨q, hq⟩ : ∃ q, max s t = q := ⟨_, rfl⟩
  obtain ⟨x, ex, hx⟩ : ∃ x e, boardP f2 p = (x, e) := ⟨_, _, rfl⟩
  obtain ⟨y, ey, hy⟩ : ∃ x e, boardP f2 q = (x, e) := ⟨_, _, rfl⟩
  have hmono : ex = 0 → ey = 0 → x ≤ y := fun h3 h4 => by subst h3; subst h4; exact board_mono f2 ok2 (by rw [e2]; simp) (by omega) hx hy
  have CF := Lib.hid (And.intro cf1 cf2)
  have CL := Lib.hid (And.intro cl1 cl2)
  have HX := Lib.hid hx
  have HY := Lib.hid hy
  have hcase : ex ≠ 0 ∨ (ex = 0 ∧ ey ≠ 0) ∨ (ex = 0 ∧ ey = 0 ∧ x ≤ y) := by
    by_cases h3 : ex = 0
    · by_cases h4 : ey = 0
      · exact .inr (.inr ⟨h3, h4, hmono h3 h4⟩)
      · exact .inr (.inl ⟨h3, h4⟩)
    · exact .inl h3
  clear ha1 ha2 hf2 e1 e2 ok1 ok2 cf1 cf2 cl1 cl2 hx hy hmono
  go_enter Try.func4, Try.ntmps4
  go_wp2_with fail
  refine (new_any _).mono ?_
  rintro e w1 ⟨rfl, hb, hk⟩
  have X1 := Lib.hid (xstart3 HGG.out hb hk)
  clear hb hk
  rw [HG.out]
  obtain ⟨d1, d2⟩ := X1.out.b1.c
  go_wp2_with fail
  refine (add_any _ g f0 f1 a b 0 HA1.out X1.out.fw.blk X1.out.fw.ok (by decide)).mono ?_
  rintro e w2 ⟨rfl, hb, hk⟩
  have X2 := Lib.hid (X1.out.add (by decide) HA1.out hb hk)
  clear hb hk d1 d2
  obtain ⟨d1, d2⟩ := X2.out.b2.c
  go_wp2_with fail
  refine (add_any _ g f1 f2 c d 0 HA2.out X2.out.fw.blk X2.out.fw.ok (by omega)).mono ?_
  rintro e w3 ⟨rfl, hb, hk⟩
  have X3 := Lib.hid (X2.out.add (by omega) HA2.out hb hk)
  clear hb hk d1 d2
  obtain ⟨a1, a2⟩ := X3.out.b1.c
  obtain ⟨c1, c2⟩ := X3.out.b2.c
  obtain ⟨s1, s2⟩ := X3.out.b3.c
  go_wp2_with fail
  refine (board_any _ g f2 a b 0 X3.out.fw.ok CF.out.1 X3.out.fw.blk).mono ?_
  rintro e w4 ⟨rfl, hk⟩
  have X4 := Lib.hid (X3.out.next hk)
  clear hk
  clear a1 a2 c1 c2 s1 s2
  obtain ⟨a1, a2⟩ := X4.out.b1.c
  obtain ⟨c1, c2⟩ := X4.out.b2.c
  obtain ⟨s1, s2⟩ := X4.out.b3.c
  go_wp2_with fail
  refine (board_any _ g f2 c d 0 X4.out.fw.ok CL.out.1 X4.out.fw.blk).mono ?_
  rintro e w5 ⟨rfl, hk⟩
  have X5 := Lib.hid (X4.out.next hk)
  clear hk
  clear a1 a2 c1 c2 s1 s2
  obtain ⟨a1, a2⟩ := X5.out.b1.c
  obtain ⟨c1, c2⟩ := X5.out.b2.c
  obtain ⟨s1, s2⟩ := X5.out.b3.c
  go_wp2_with fail
  refine (ground_any _ g f2 b a 0 X5.out.fw.ok CF.out.2 X5.out.fw.blk).mono ?_
  rintro e w6 ⟨rfl, hk⟩
  have X6 := Lib.hid (X5.out.next hk)
  clear hk
  clear a1 a2 c1 c2 s1 s2
  obtain ⟨a1, a2⟩ := X6.out.b1.c
  obtain ⟨c1, c2⟩ := X6.out.b2.c
  obtain ⟨s1, s2⟩ := X6.out.b3.c
  go_wp2_with fail
  refine (ground_any _ g f2 d c 0 X6.out.fw.ok CL.out.2 X6.out.fw.blk).mono ?_
  rintro e w7 ⟨rfl, hk⟩
  have X7 := Lib.hid (X6.out.next hk)
  clear hk
  clear a1 a2 c1 c2 s1 s2
  obtain ⟨a1, a2⟩ := X7.out.b1.c
  obtain ⟨c1, c2⟩ := X7.out.b2.c
  obtain ⟨s1, s2⟩ := X7.out.b3.c
  go_wp2_with fail
  refine (board_any _ g f2 p x ex X7.out.fw.ok HX.out X7.out.fw.blk).mono ?_
  rintro e w8 ⟨rfl, hk⟩
  have X8 := Lib.hid (X7.out.next hk)
  clear hk
  clear a1 a2 c1 c2 s1 s2
  obtain ⟨a1, a2⟩ := X8.out.b1.c
  obtain ⟨c1, c2⟩ := X8.out.b2.c
  obtain ⟨s1, s2⟩ := X8.out.b3.c
  go_wp2_with fail
  refine (board_any _ g f2 q y ey X8.out.fw.ok HY.out X8.out.fw.blk).mono ?_
  rintro e w10 ⟨rfl, hk⟩
  have X9 := Lib.hid (X8.out.next hk)
  clear hk a1 a2 c1 c2 s1 s2
  rcases hcase with h3 | ⟨h3, h4⟩ | ⟨h3, h4, h5⟩
  · go_wp2_with fail
    refine (alive_any _).mono ?_
    rintro e w9 ⟨rfl, hk⟩
    have K9 := Lib.hid (X9.out.fw.keep.chain0 (Nat.le_refl _) hk)
    clear hk
    go_wp2_with fail
    go_ret
    exact ⟨rfl, K9.out⟩
  · subst h3
    go_wp2_with fail
    refine (alive_any _).mono ?_
    rintro e w9 ⟨rfl, hk⟩
    have K9 := Lib.hid (X9.out.fw.keep.chain0 (Nat.le_refl _) hk)
    clear hk
    go_wp2_with fail
    go_ret
    exact ⟨rfl, K9.out⟩
  · subst h3
    subst h4
    go_wp2_with fail
    refine (alive_any _).mono ?_
    rintro e w9 ⟨rfl, hk⟩
    have K9 := Lib.hid (X9.out.fw.keep.chain0 (Nat.le_refl _) hk)
    clear hk
    go_wp2_with fail
    go_ret
    exact ⟨rfl, K9.out⟩
end Go.Proofs.Ytdckpamempejgaa
