/- The event service: New, none, known, Count, Enable. -/
import Derived.Test.YtlceepknoijndaaEMap
import Derived.Deep.RegionHeld3
import Derived.Deep.RegionLaw
import Derived.BigQuiet
import Derived.BigRegion
namespace Go.Proofs.Ytlceepknoijndaa
set_option linter.unusedVariables false
set_option linter.unusedSimpArgs false
open Go.RowKit
structure Ev where
  t : Int
  id : Int
  sv : Int
  vl : Int
abbrev ecells (e : Ev) : List Value := [.int .i64 e.t, .int .i64 e.id, .int .i64 e.sv, .int .i64 e.vl]
abbrev evs (l : List Ev) : List Value := l.flatMap ecells
abbrev eagg (e : Ev) : Value := .agg #[.int .i64 e.t, .int .i64 e.id, .int .i64 e.sv, .int .i64 e.vl]
structure St where
  most : Int
  L : List Ev
  c0 : Int
  c1 : Int
  c2 : Int
  c3 : Int
  c4 : Int
  off : List Int
abbrev scells (s : St) (r : Nat) (A : Option Addr) (n c : Nat) : Array Value := #[.int .i64 s.most, .slice A n c, .int .i64 s.c0, .int .i64 s.c1, .int .i64 s.c2, .int .i64 s.c3, .int .i64 s.c4, .map (some r)]
abbrev pf (g : Nat) : Value := .pointer (some ⟨g, 0, none⟩)
/-- a service at block g, its map at block r, its events in the row A -/
structure Sv (w : World) (g r : Nat) (A : Option Addr) (n c : Nat) (s : St) : Prop where
  blk : Blk w g 56 (scells s r A n c)
  sl : Sl w 31 4 A n c (evs s.L)
  len : n = s.L.length
  mp : MapB w r s.off
  gr : g ≠ r
  gA : g ∉ blks A
  rA : r ∉ blks A
def s0 (m : Int) : St := ⟨m, [], 0, 0, 0, 0, 0, []⟩
theorem Sv.keepS {w w' : World} {g r : Nat} {A : Option Addr} {n c : Nat} {s : St} {S : List Nat} (h : Sv w g r A n c s) (k : Keep w.heap.size S w w') (hg : g ∉ S) (hr : r ∉ S) (hA : ∀ x, x ∈ blks A → x ∉ S) : Sv w' g r A n c s :=
  ⟨h.blk.keepS k hg, h.sl.keepS k hA, h.len, h.mp.keepS k hr, h.gr, h.gA, h.rA⟩
theorem Sv.keep0 {w w' : World} {g r : Nat} {A : Option Addr} {n c : Nat} {s : St} (h : Sv w g r A n c s) (k : Keep w.heap.size [] w w') : Sv w' g r A n c s := h.keepS k (by simp) (by simp) (by simp)
theorem Sv.c7 {w : World} {g r : Nat} {A : Option Addr} {n c : Nat} {s : St} (h : Sv w g r A n c s) : w.cell? ⟨g, 7, none⟩ = some (.map (some r)) := h.blk.cell 7
set_option maxHeartbeats 400000 in
theorem none_any (w : World) (g r : Nat) (A : Option Addr) (n c : Nat) (s : St) (h : Sv w g r A n c s) : Calls Try.prog 19 #[pf g] w fun e w' => e = .returned (.bool false) ∧ w' = w := by
  have h7 := h.c7
  clear h
  have hq := fun W : World => run_eql_map_nil (P := Try.prog) W 54 3 4 (some r) Try.underlying54
  go_enter Try.func19, Try.ntmps19
  go_wp2_with fail
  go_ret
  exact ⟨rfl, rfl⟩
set_option maxHeartbeats 400000 in
theorem none_nil (w : World) : Calls Try.prog 19 #[.pointer none] w fun e w' => e = .returned (.bool true) ∧ w' = w := by
  go_enter Try.func19, Try.ntmps19
  go_wp2_with fail
  go_ret
  exact ⟨rfl, rfl⟩
def knP (id : Int) : Bool := decide (0 ≤ id ∧ id ≤ 65535)
set_option maxHeartbeats 400000 in
theorem known_any (w : World) (id : Int) (v : Bool) (hv : knP id = v) : Calls Try.prog 20 #[.int .i64 id] w fun e w' => e = .returned (.bool v) ∧ w' = w := by
  have HV := Lib.hid hv
  clear hv
  by_cases h : 0 ≤ id
  · have e0 : v = decide (id ≤ 65535) := by rw [← HV.out]; simp [knP, h]
    go_enter Try.func20, Try.ntmps20
    go_wp2_with fail
    go_ret
    exact ⟨by first | rfl | (rw [e0]; rfl), rfl⟩
  · have e0 : v = false := by rw [← HV.out]; simp [knP, h]
    go_enter Try.func20, Try.ntmps20
    go_wp2_with fail
    go_ret
    exact ⟨by first | rfl | (rw [e0]; rfl), rfl⟩
theorem new_post (w : World) (y z : Int) (hz : y = z) : Ending.returned (pf (w.heap.size + 1)) = Ending.returned (pf (w.heap.size + 1)) ∧ Sv ((w.alloc (.map #[] 0)).alloc (.cells (scells (s0 y) w.heap.size none 0 0) 56)) (w.heap.size + 1) w.heap.size none 0 0 (s0 z) ∧ Keep w.heap.size [] w ((w.alloc (.map #[] 0)).alloc (.cells (scells (s0 y) w.heap.size none 0 0) 56)) := by
  subst hz
  have k1 := (Keep.refl w.heap.size [] w).alloc (Nat.le_refl _) (.map #[] 0)
  have k2 := k1.alloc k1.size (.cells (scells (s0 y) w.heap.size none 0 0) 56)
  have hb : Blk ((w.alloc (.map #[] 0)).alloc (.cells (scells (s0 y) w.heap.size none 0 0) 56)) (w.heap.size + 1) 56 (scells (s0 y) w.heap.size none 0 0) := by
    have := Blk.new (w.alloc (.map #[] 0)) 56 (scells (s0 y) w.heap.size none 0 0)
    simpa using this
  have hm : MapB (w.alloc (.map #[] 0)) w.heap.size [] := ⟨#[], 0, heap_alloc_new w _, by simp, by simp, by simp⟩
  have hm2 := hm.keepS (S := []) ((Keep.refl _ _ _).alloc (Nat.le_refl _) (.cells (scells (s0 y) w.heap.size none 0 0) 56)) (by simp)
  exact ⟨rfl, ⟨hb, Sl.nil _ _ _, rfl, hm2, by omega, by simp [blks], by simp [blks]⟩, k2⟩
set_option maxHeartbeats 1000000 in
theorem new_any (w : World) (m z : Int) (hz : min (max m 0) 256 = z) : Calls Try.prog 8 #[.int .i64 m] w fun e w' => e = .returned (pf (w.heap.size + 1)) ∧ Sv w' (w.heap.size + 1) w.heap.size none 0 0 (s0 z) ∧ Keep w.heap.size [] w w' := by
  have hmm := @run_makeMap Try.prog
  go_enter Try.func8, Try.ntmps8
  go_wp2_with fail
  all_goals
    obtain ⟨q, hq⟩ : ∃ q, q = z := ⟨_, rfl⟩
    go_ret
    first
      | exact new_post w 0 z (by omega)
      | exact new_post w 256 z (by omega)
      | exact new_post w m z (by omega)
def cntP (s : St) (k : Int) : Int := if k = 1 then s.c1 else if k = 2 then s.c2 else if k = 3 then s.c3 else if k = 4 then s.c4 else 0
set_option maxHeartbeats 1000000 in
theorem count_any (w : World) (g r : Nat) (A : Option Addr) (n c : Nat) (s : St) (k z : Int) (hz : cntP s k = z) (h : Sv w g r A n c s) : Calls Try.prog 12 #[pf g, .int .i64 k] w fun e w' => e = .returned (.int .i64 z) ∧ w' = w := by
  have H := Lib.hid h
  have d1 : w.cell? ⟨g, 3, none⟩ = some (.int .i64 s.c1) := h.blk.cell 3
  have d2 : w.cell? ⟨g, 4, none⟩ = some (.int .i64 s.c2) := h.blk.cell 4
  have d3 : w.cell? ⟨g, 5, none⟩ = some (.int .i64 s.c3) := h.blk.cell 5
  have d4 : w.cell? ⟨g, 6, none⟩ = some (.int .i64 s.c4) := h.blk.cell 6
  clear h
  subst hz
  have hk : k < 1 ∨ k = 1 ∨ k = 2 ∨ k = 3 ∨ k = 4 ∨ 4 < k := by omega
  rcases hk with hk | hk | hk | hk | hk | hk
  case inl =>
    have e0 : cntP s k = 0 := by unfold cntP; rw [if_neg (by omega), if_neg (by omega), if_neg (by omega), if_neg (by omega)]
    rw [e0]
    go_enter Try.func12, Try.ntmps12
    go_wp2_with fail
    refine (none_any _ g r A n c s H.out).mono ?_
    rintro e w' ⟨rfl, rfl⟩
    go_wp2_with fail
    go_ret
    exact ⟨rfl, rfl⟩
  case inr.inr.inr.inr.inr =>
    have e0 : cntP s k = 0 := by unfold cntP; rw [if_neg (by omega), if_neg (by omega), if_neg (by omega), if_neg (by omega)]
    rw [e0]
    go_enter Try.func12, Try.ntmps12
    go_wp2_with fail
    refine (none_any _ g r A n c s H.out).mono ?_
    rintro e w' ⟨rfl, rfl⟩
    go_wp2_with fail
    go_ret
    exact ⟨rfl, rfl⟩
  all_goals
    subst hk
    go_enter Try.func12, Try.ntmps12
    go_wp2_with fail
    refine (none_any _ g r A n c s H.out).mono ?_
    rintro e w' ⟨rfl, rfl⟩
    go_wp2_with fail
    go_ret
    exact ⟨rfl, rfl⟩
set_option maxHeartbeats 400000 in
theorem count_nil (w : World) (k : Int) : Calls Try.prog 12 #[.pointer none, .int .i64 k] w fun e w' => e = .returned (.int .i64 0) ∧ w' = w := by
  go_enter Try.func12, Try.ntmps12
  go_wp2_with fail
  refine (none_nil _).mono ?_
  rintro e w' ⟨rfl, rfl⟩
  go_wp2_with fail
  go_ret
  exact ⟨rfl, rfl⟩
end Go.Proofs.Ytlceepknoijndaa
