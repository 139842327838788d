/- The law's example: alive. -/
import Derived.Test.YtcpfdkmdhpclkaaWalkH
namespace Go.Proofs.Ytcpfdkmdhpclkaa
set_option linter.unusedVariables false
set_option linter.unusedSimpArgs false
open Go.RowKit
/-- a list that a query returned, apart from the tracker -/
def Apart (w : World) (g : Nat) (A Y : Option Addr) (n : Nat) (L : List (Int × Int)) : Prop := Vw w Y n 2 (pcells L) ∧ ∀ x, x ∈ blks Y → x ≠ g ∧ x ∉ blks A ∧ x < w.heap.size
theorem Apart.keep {w w' : World} {g : Nat} {A Y : Option Addr} {n : Nat} {L : List (Int × Int)} {S : List Nat} (h : Apart w g A Y n L) (k : Keep w.heap.size S w w') (hS : ∀ x, x ∈ S → x = g ∨ x ∈ blks A) : Apart w' g A Y n L :=
  ⟨h.1.keepS k (fun x hx hs => by have := h.2 x hx; rcases hS x hs with rfl | h2; exact this.1 rfl; exact this.2.1 h2), fun x hx => ⟨(h.2 x hx).1, (h.2 x hx).2.1, Nat.lt_of_lt_of_le (h.2 x hx).2.2 k.size⟩⟩
theorem Apart.turn {w w' : World} {g : Nat} {A A' Y : Option Addr} {n : Nat} {L : List (Int × Int)} (h : Apart w g A Y n L) (k : Keep w.heap.size (g :: blks A) w w') (hb : ∀ x, x ∈ blks A' → x ∈ blks A ∨ w.heap.size ≤ x) : Apart w' g A' Y n L := by
  have h2 := h.keep k (fun x hx => List.mem_cons.1 hx)
  refine ⟨h2.1, fun x hx => ⟨(h2.2 x hx).1, fun hm => ?_, (h2.2 x hx).2.2⟩⟩
  rcases hb x hm with h3 | h3
  · exact (h.2 x hx).2.1 h3
  · exact absurd (h.2 x hx).2.2 (by omega)
set_option maxRecDepth 100000 in
set_option maxHeartbeats 4000000 in
theorem alive_any (w : World) : Calls Try.prog 6 #[] w fun e w' => e = .returned (.bool true) ∧ Keep w.heap.size [] w w' := by
  go_enter Try.func6, Try.ntmps6
  go_wp2_with fail
  refine (tnew_any _ 10).mono ?_
  rintro e w1 ⟨g, rfl, hg, ht1, hk1⟩
  have K1 := Lib.hid hk1
  have T1 := Lib.hid ht1
  have HG : Hid (w.heap.size ≤ g) := Lib.hid (by omega)
  clear hk1 ht1 hg
  go_wp2_with fail
  refine (issue_any _ g none ⟨0, clampT 10, []⟩ ⟨5, 10, [⟨1, 3, 5, 0, 0⟩]⟩ 1 3 5 0 (by decide) (by decide) T1.out).mono ?_
  rintro e w2 ⟨rfl, A2, ht2, hk2, hb2⟩
  have T2 := Lib.hid ht2
  have K2 : Hid (Keep w.heap.size [] w w2) := Lib.hid (K1.out.chain1 (Nat.le_refl _) (by simpa [blks] using hk2) HG.out)
  have B2 : Hid (∀ x, x ∈ blks A2 → w.heap.size ≤ x) := Lib.hid (fun x hx => by have := hb2 x hx; have := K1.out.size; simp [blks] at *; omega)
  clear ht2 hk2 hb2
  go_wp2_with fail
  refine (overdue_any _ g A2 ⟨5, 10, [⟨1, 3, 5, 0, 0⟩]⟩ 14 [] (by decide) T2.out).mono ?_
  rintro e w3 ⟨u3, rfl, A3, n3, c3, rfl, hn3, hs3, ht3, hk3, hb3⟩
  obtain rfl : n3 = 0 := hn3
  have T3 := Lib.hid ht3
  have K3 : Hid (Keep w.heap.size [] w w3) := Lib.hid (K2.out.chain1 (Nat.le_refl _) hk3 HG.out)
  clear hs3 ht3 hk3 hb3
  go_wp2_with fail
  refine (overdue_any _ g A2 ⟨14, 10, [⟨1, 3, 5, 0, 0⟩]⟩ 15 [(1, 3)] (by decide) (by exact T3.out)).mono ?_
  rintro e w4 ⟨u4, rfl, A4, n4, c4, rfl, hn4, hs4, ht4, hk4, hb4⟩
  obtain rfl : n4 = 1 := hn4
  have T4 := Lib.hid ht4
  have K4 : Hid (Keep w.heap.size [] w w4) := Lib.hid (K3.out.chain1 (Nat.le_refl _) hk4 HG.out)
  have hcap := hs4.cap
  have hc1 : (1 : Int) ≤ (c4 : Int) := by omega
  have hc2 : (c4 : Int) ≤ 9223372036854775807 := by have := hcap.2; unfold maxLen at this; omega
  have Y4 : Hid (Apart w4 g A2 A4 1 [(1, 3)]) := Lib.hid ⟨hs4.vw (by decide), fun x hx => ⟨by have := hb4 x hx; have := T3.out.lt; omega, fun hm => by obtain ⟨_, _, _, _, hs, _⟩ := T3.out; exact absurd (hs.blk hm) (by have := hb4 x hx; omega), hs4.blk hx⟩⟩
  clear hs4 ht4 hk4 hb4 hcap
  go_wp2_with fail
  refine (ack_any _ 1).mono ?_
  rintro e w5 ⟨rfl, hk5⟩
  have T5 := Lib.hid (T4.out.keep0 hk5)
  have Y5 := Lib.hid (Y4.out.keep hk5 (by simp))
  have K5 : Hid (Keep w.heap.size [] w w5) := Lib.hid (K4.out.chain0 (Nat.le_refl _) hk5)
  clear hk5
  go_wp2_with fail
  refine (take_any _ g A2 ⟨15, 10, [⟨1, 3, 5, 0, 0⟩]⟩ ⟨15, 10, [⟨1, 3, 5, 1, 0⟩]⟩ ⟨1, 3, 1, 0⟩ 15 0 (by decide) (by exact T5.out)).mono ?_
  rintro e w6 ⟨rfl, A6, ht6, hk6, hb6⟩
  have T6 := Lib.hid ht6
  have Y6 := Lib.hid (Y5.out.turn hk6 hb6)
  have K6 : Hid (Keep w.heap.size [] w w6) := Lib.hid (K5.out.chain (Nat.le_refl _) hk6 (fun x hx => by rcases List.mem_cons.1 hx with rfl | h; exact HG.out; exact B2.out x h))
  have B6 : Hid (∀ x, x ∈ blks A6 → w.heap.size ≤ x) := Lib.hid (fun x hx => by rcases hb6 x hx with h | h; exact B2.out x h; exact Nat.le_trans K5.out.size h)
  clear ht6 hk6 hb6
  go_wp2_with fail
  refine (ack_any _ 2).mono ?_
  rintro e w7 ⟨rfl, hk7⟩
  have T7 := Lib.hid (T6.out.keep0 hk7)
  have Y7 := Lib.hid (Y6.out.keep hk7 (by simp))
  have K7 : Hid (Keep w.heap.size [] w w7) := Lib.hid (K6.out.chain0 (Nat.le_refl _) hk7)
  clear hk7
  go_wp2_with fail
  refine (take_any _ g A6 ⟨15, 10, [⟨1, 3, 5, 1, 0⟩]⟩ ⟨15, 10, [⟨1, 3, 5, 2, 0⟩]⟩ ⟨1, 3, 2, 0⟩ 15 0 (by decide) (by exact T7.out)).mono ?_
  rintro e w8 ⟨rfl, A8, ht8, hk8, hb8⟩
  have T8 := Lib.hid ht8
  have Y8 := Lib.hid (Y7.out.turn hk8 hb8)
  have K8 : Hid (Keep w.heap.size [] w w8) := Lib.hid (K7.out.chain (Nat.le_refl _) hk8 (fun x hx => by rcases List.mem_cons.1 hx with rfl | h; exact HG.out; exact B6.out x h))
  have B8 : Hid (∀ x, x ∈ blks A8 → w.heap.size ≤ x) := Lib.hid (fun x hx => by rcases hb8 x hx with h | h; exact B6.out x h; exact Nat.le_trans K7.out.size h)
  clear ht8 hk8 hb8
  go_wp2_with fail
  refine (ack_any _ 3).mono ?_
  rintro e w9 ⟨rfl, hk9⟩
  have T9 := Lib.hid (T8.out.keep0 hk9)
  have Y9 := Lib.hid (Y8.out.keep hk9 (by simp))
  have K9 : Hid (Keep w.heap.size [] w w9) := Lib.hid (K8.out.chain0 (Nat.le_refl _) hk9)
  clear hk9
  go_wp2_with fail
  refine (take_any _ g A8 ⟨15, 10, [⟨1, 3, 5, 2, 0⟩]⟩ ⟨16, 10, [⟨1, 3, 5, 3, 0⟩]⟩ ⟨1, 3, 3, 0⟩ 16 0 (by decide) (by exact T9.out)).mono ?_
  rintro e w10 ⟨rfl, A10, ht10, hk10, hb10⟩
  have T10 := Lib.hid ht10
  have Y10 := Lib.hid (Y9.out.turn hk10 hb10)
  have K10 : Hid (Keep w.heap.size [] w w10) := Lib.hid (K9.out.chain (Nat.le_refl _) hk10 (fun x hx => by rcases List.mem_cons.1 hx with rfl | h; exact HG.out; exact B8.out x h))
  have B10 : Hid (∀ x, x ∈ blks A10 → w.heap.size ≤ x) := Lib.hid (fun x hx => by rcases hb10 x hx with h | h; exact B8.out x h; exact Nat.le_trans K9.out.size h)
  clear ht10 hk10 hb10
  go_wp2_with fail
  refine (ack_any _ 3).mono ?_
  rintro e w11 ⟨rfl, hk11⟩
  have T11 := Lib.hid (T10.out.keep0 hk11)
  have Y11 := Lib.hid (Y10.out.keep hk11 (by simp))
  have K11 : Hid (Keep w.heap.size [] w w11) := Lib.hid (K10.out.chain0 (Nat.le_refl _) hk11)
  clear hk11
  go_wp2_with fail
  refine (take_any _ g A10 ⟨16, 10, [⟨1, 3, 5, 3, 0⟩]⟩ ⟨16, 10, [⟨1, 3, 5, 3, 0⟩]⟩ ⟨1, 3, 3, 0⟩ 16 12 (by decide) (by exact T11.out)).mono ?_
  rintro e w12 ⟨rfl, A12, ht12, hk12, hb12⟩
  have T12 := Lib.hid ht12
  have Y12 := Lib.hid (Y11.out.turn hk12 hb12)
  have K12 : Hid (Keep w.heap.size [] w w12) := Lib.hid (K11.out.chain (Nat.le_refl _) hk12 (fun x hx => by rcases List.mem_cons.1 hx with rfl | h; exact HG.out; exact B10.out x h))
  have B12 : Hid (∀ x, x ∈ blks A12 → w.heap.size ≤ x) := Lib.hid (fun x hx => by rcases hb12 x hx with h | h; exact B10.out x h; exact Nat.le_trans K11.out.size h)
  clear ht12 hk12 hb12
  obtain ⟨by', oy, hY, hby, hcy⟩ := Y12.out.1.2 (by decide)
  subst hY
  have y0 : w12.cell? ⟨by', oy, none⟩ = some (.int .i64 1) := hcy 0 _ rfl
  have y1 : w12.cell? ⟨by', oy + 1, none⟩ = some (.int .i64 3) := hcy 1 _ rfl
  clear hcy Y4 Y5 Y6 Y7 Y8 Y9 Y10 Y11 Y12
  go_wp2_with fail
  refine (overdue_any _ g A12 ⟨16, 10, [⟨1, 3, 5, 3, 0⟩]⟩ 17 [] (by decide) T12.out).mono ?_
  rintro e w13 ⟨u13, rfl, A13, n13, c13, rfl, hn13, hs13, ht13, hk13, hb13⟩
  obtain rfl : n13 = 0 := hn13
  have T13 := Lib.hid ht13
  have K13 : Hid (Keep w.heap.size [] w w13) := Lib.hid (K12.out.chain1 (Nat.le_refl _) hk13 HG.out)
  clear hs13 ht13 hk13 hb13
  go_wp2_with fail
  refine (open_any _ g A12 _ 0 (by decide) T13.out).mono ?_
  rintro e w14 ⟨rfl, hk14⟩
  have T14 := Lib.hid (T13.out.keep0 hk14)
  have K14 : Hid (Keep w.heap.size [] w w14) := Lib.hid (K13.out.chain0 (Nat.le_refl _) hk14)
  clear hk14
  go_wp2_with fail
  refine (stage_any _ g A12 _ 1 3 3 (by decide) T14.out).mono ?_
  rintro e w15 ⟨rfl, rfl⟩
  go_wp2_with fail
  go_ret
  exact ⟨rfl, K14.out⟩
end Go.Proofs.Ytcpfdkmdhpclkaa
