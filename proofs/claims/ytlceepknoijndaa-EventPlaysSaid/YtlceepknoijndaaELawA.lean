/- alive, None, Disables. -/
import Derived.Test.YtlceepknoijndaaERa
namespace Go.Proofs.Ytlceepknoijndaa
set_option linter.unusedVariables false
set_option linter.unusedSimpArgs false
open Go.RowKit
def LawPost (w : World) (e : Ending) (w' : World) : Prop := e = .returned (.bool true) ∧ Keep w.heap.size [] w w'
/-- a world that holds a service of the call's own -/
structure SW (w W : World) (g r : Nat) (A : Option Addr) (n c : Nat) (s : St) : Prop where
  keep : Keep w.heap.size [] w W
  sv : Sv W g r A n c s
  hg : w.heap.size ≤ g
  hr : w.heap.size ≤ r
  hA : ∀ y, y ∈ blks A → w.heap.size ≤ y
theorem SW.raise {w W W' : World} {g r : Nat} {A A' : Option Addr} {n c n' c' : Nat} {s s' : St} (h : SW w W g r A n c s) (h1 : Sv W' g r A' n' c' s') (hk : Keep W.heap.size (g :: blks A) W W') (hb : ∀ y, y ∈ blks A' → y ∈ blks A ∨ W.heap.size ≤ y) : SW w W' g r A' n' c' s' := by
  have hz := h.keep.size
  exact ⟨h.keep.chain (Nat.le_refl _) hk (fun y hy => by
    rcases List.mem_cons.1 hy with rfl | hy
    · exact h.hg
    · exact h.hA y hy), h1, h.hg, h.hr, fun y hy => by
    rcases hb y hy with h2 | h2
    · exact h.hA y h2
    · omega⟩
theorem SW.enable {w W W' : World} {g r : Nat} {A : Option Addr} {n c : Nat} {s s' : St} (h : SW w W g r A n c s) (h1 : Sv W' g r A n c s') (hk : Keep W.heap.size [r] W W') : SW w W' g r A n c s' :=
  ⟨h.keep.chain1 (Nat.le_refl _) hk h.hr, h1, h.hg, h.hr, h.hA⟩
theorem SW.next {w W W' : World} {g r : Nat} {A : Option Addr} {n c : Nat} {s : St} (h : SW w W g r A n c s) (hk : Keep W.heap.size [] W W') : SW w W' g r A n c s :=
  ⟨h.keep.chain0 (Nat.le_refl _) hk, h.sv.keep0 hk, h.hg, h.hr, h.hA⟩
theorem raise_v (w : World) (g r : Nat) (A : Option Addr) (n c : Nat) (s s' : St) (x : Ev) (k : Nat) (b : Bool) (hk1 : 1 ≤ k) (hk4 : k ≤ 4) (hsv : x.sv = (k : Int)) (ht0 : 0 ≤ x.t) (ht1 : x.t ≤ 1099511627776) (hid : knP x.id = true) (h : Sv w g r A n c s)
    (hc0 : 0 ≤ cntP s k) (hc1 : cntP s k < 1000000) (hl : s.L.length < 1000) (hm0 : 0 ≤ s.most) (hm1 : s.most ≤ 256) (hs : bump s k (keepL s x) = s') (hb : (!decide (x.id ∈ s.off)) = b) : Calls Try.prog 10 #[pf g, eagg x] w (RaPost w g r A s' b 0) := by
  subst hs; subst hb
  exact raise_good w g r A n c s x k hk1 hk4 hsv ht0 ht1 hid h hc0 hc1 hl hm0 hm1 _ rfl
set_option maxRecDepth 100000 in
set_option maxHeartbeats 4000000 in
theorem alive_any (w : World) : Calls Try.prog 7 #[] w (LawPost w) := by
  go_enter Try.func7, Try.ntmps7
  go_wp2_with fail
  refine (new_any _ 2 2 (by decide)).mono ?_
  rintro e w1 ⟨rfl, hs, hk⟩
  have S1 : Hid (SW w w1 (w.heap.size + 1) w.heap.size none 0 0 (s0 2)) := Lib.hid ⟨hk, hs, by omega, by omega, by simp [blks]⟩
  clear hs hk
  obtain ⟨g, hg⟩ : ∃ g, w.heap.size + 1 = g := ⟨_, rfl⟩
  obtain ⟨r, hr⟩ : ∃ r, w.heap.size = r := ⟨_, rfl⟩
  have HR := Lib.hid hr
  rw [hg] at S1 ⊢
  have S1' : Hid (SW w w1 g r none 0 0 (s0 2)) := by rw [← hr]; exact S1
  clear hg hr S1
  go_wp2_with fail
  refine (raise_v _ g r none 0 0 (s0 2) ⟨2, [⟨0, 1, 1, 0⟩], 0, 1, 0, 0, 0, []⟩ ⟨0, 1, 1, 0⟩ 1 true (by omega) (by omega) rfl (by decide) (by decide) (by decide) S1'.out.sv (by decide) (by decide) (by decide) (by decide) (by decide) rfl rfl).mono ?_
  rintro e w2 ⟨A2, n2, c2, rfl, hs, hk, hb⟩
  have S2 := Lib.hid (S1'.out.raise hs hk hb)
  clear hs hk hb S1'
  go_wp2_with fail
  refine (raise_v _ g r A2 n2 c2 _ ⟨2, [⟨0, 1, 1, 0⟩, ⟨0, 2, 1, 0⟩], 0, 2, 0, 0, 0, []⟩ ⟨0, 2, 1, 0⟩ 1 true (by omega) (by omega) rfl (by decide) (by decide) (by decide) S2.out.sv (by decide) (by decide) (by decide) (by decide) (by decide) rfl rfl).mono ?_
  rintro e w3 ⟨A3, n3, c3, rfl, hs, hk, hb⟩
  have S3 := Lib.hid (S2.out.raise hs hk hb)
  clear hs hk hb S2
  go_wp2_with fail
  refine (raise_v _ g r A3 n3 c3 _ ⟨2, [⟨0, 2, 1, 0⟩, ⟨0, 3, 1, 0⟩], 0, 3, 0, 0, 0, []⟩ ⟨0, 3, 1, 0⟩ 1 true (by omega) (by omega) rfl (by decide) (by decide) (by decide) S3.out.sv (by decide) (by decide) (by decide) (by decide) (by decide) rfl rfl).mono ?_
  rintro e w4 ⟨A4, n4, c4, rfl, hs, hk, hb⟩
  have S4 := Lib.hid (S3.out.raise hs hk hb)
  have hn4 : n4 = 2 := hs.len
  clear hs hk hb S3
  subst hn4
  go_wp2_with fail
  refine (recent_any _ g r A4 2 c4 _ (by omega) S4.out.sv).mono ?_
  rintro e w5 ⟨A5, c5, rfl, hs, hk, hb⟩
  have S5 := Lib.hid (S4.out.next hk)
  have L5 := Lib.hid hs
  have F5 : Hid (∀ y, y ∈ blks A5 → y ≠ g ∧ y ≠ r ∧ y ∉ blks A4) := Lib.hid (fun y hy => by
    have h1 := hb y hy
    have h2 := S4.out.sv.blk.lt
    have h3 := S4.out.sv.mp.lt
    exact ⟨by omega, by omega, fun h => by have := S4.out.sv.sl.blk h; omega⟩)
  clear hs hk hb S4
  go_wp2_with fail
  refine (enable_any _ g r A4 2 c4 _ ⟨2, [⟨0, 2, 1, 0⟩, ⟨0, 3, 1, 0⟩], 0, 3, 0, 0, 0, [7]⟩ 7 false 0 rfl S5.out.sv).mono ?_
  rintro e w6 ⟨rfl, hs, hk⟩
  have S6 := Lib.hid (S5.out.enable hs hk)
  have L6 := Lib.hid (L5.out.keepS hk (fun y hy => by simpa using (F5.out y hy).2.1))
  clear hs hk S5 L5
  go_wp2_with fail
  refine (raise_v _ g r A4 2 c4 _ ⟨2, [⟨0, 3, 1, 0⟩, ⟨0, 7, 4, 0⟩], 0, 3, 0, 0, 1, [7]⟩ ⟨0, 7, 4, 0⟩ 4 false (by omega) (by omega) rfl (by decide) (by decide) (by decide) S6.out.sv (by decide) (by decide) (by decide) (by decide) (by decide) rfl rfl).mono ?_
  rintro e w7 ⟨A7, n7, c7, rfl, hs, hk, hb⟩
  have S7 := Lib.hid (S6.out.raise hs hk hb)
  have L7 := L6.out.keepS hk (fun y hy => by have := F5.out y hy; simp; exact ⟨this.1, this.2.2⟩)
  obtain ⟨ga, rfl, _, e1⟩ := L7.cell (j := 1) (by omega)
  obtain ⟨gb, hgb, _, e5⟩ := L7.cell (j := 5) (by omega)
  obtain rfl : ga = gb := by injection hgb with h; injection h
  have e1' : w7.cell? ⟨ga, 1, none⟩ = some (.int .i64 2) := e1
  have e5' : w7.cell? ⟨ga, 5, none⟩ = some (.int .i64 3) := e5
  clear hs hk hb S6 L6 F5 L7 e1 e5 hgb
  go_wp2_with fail
  refine (count_any _ g r A7 n7 c7 _ 4 1 rfl S7.out.sv).mono ?_
  rintro e w' ⟨rfl, rfl⟩
  go_wp2_with fail
  refine (count_any _ g r A7 n7 c7 _ 1 3 rfl S7.out.sv).mono ?_
  rintro e w' ⟨rfl, rfl⟩
  go_wp2_with fail
  go_ret
  exact ⟨rfl, S7.out.keep⟩
set_option maxHeartbeats 2000000 in
theorem none_law (w : World) (x : Ev) : Calls Try.prog 6 #[eagg x] w (LawPost w) := by
  obtain ⟨d0, d1, d2, d3⟩ := box4 (Blk.new w 31 #[.int .i64 x.t, .int .i64 x.id, .int .i64 x.sv, .int .i64 x.vl])
  go_enter Try.func6, Try.ntmps6
  go_wp2_with fail
  refine (raise_nil _ x).mono ?_
  rintro e w1 ⟨rfl, hk⟩
  have K1 := Lib.hid (((Keep.refl _ _ w).alloc (Nat.le_refl _) _).chain0 (Nat.le_refl _) hk)
  clear hk d0 d1 d2 d3
  go_wp2_with fail
  refine (enable_nil _ 1 true).mono ?_
  rintro e w' ⟨rfl, rfl⟩
  go_wp2_with fail
  refine (count_nil _ 1).mono ?_
  rintro e w' ⟨rfl, rfl⟩
  go_wp2_with fail
  refine (recent_nil _).mono ?_
  rintro e w' ⟨rfl, rfl⟩
  go_wp2_with fail
  refine (sclone_nil _).mono ?_
  rintro e w' ⟨rfl, rfl⟩
  go_wp2_with fail
  refine (alive_any _).mono ?_
  rintro e w2 ⟨rfl, hk⟩
  have K2 := Lib.hid (K1.out.chain0 (Nat.le_refl _) hk)
  clear hk
  go_wp2_with fail
  go_ret
  exact ⟨rfl, K2.out⟩
end Go.Proofs.Ytlceepknoijndaa
