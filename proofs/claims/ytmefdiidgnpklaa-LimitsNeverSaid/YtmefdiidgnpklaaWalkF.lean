/- The contracts of New, Count, Clone, Severity, and of the law package's lives. -/
import Derived.Test.YtmefdiidgnpklaaWalkE
namespace Go.Proofs.Ytmefdiidgnpklaa
set_option linter.unusedVariables false
set_option linter.unusedSimpArgs false
open Go.RowKit
/-- what New accepts -/
def newOk (l : Li) (s : Int) : Bool := l.valid && decide (0 ≤ s ∧ s ≤ l.sh - l.sl)
def newW (l : Li) (s : Int) : Wt := ⟨l, s, 0, 0, 0, 0, 0, 0⟩
theorem newOk_iff (l : Li) (s : Int) : newOk l s = true ↔ l.valid = true ∧ 0 ≤ s ∧ s ≤ l.sh - l.sl := by simp [newOk]
theorem newW_inv (l : Li) (s : Int) (hf : l.Fit) (hs : Fit s) (h : newOk l s = true) : (newW l s).Inv :=
  have h' := (newOk_iff l s).1 h
  ⟨hf, h'.1, h'.2.1, h'.2.2, hs.2, .inl rfl⟩
theorem newOk_no (l : Li) (s : Int) (h : ¬ (l.valid = true ∧ 0 ≤ s ∧ s ≤ l.sh - l.sl)) : newOk l s = false := by
  cases e : newOk l s
  · rfl
  · exact absurd ((newOk_iff l s).1 e) h
def NewPost (w : World) (l : Li) (s : Int) (e : Ending) (w' : World) : Prop :=
  ∃ g, e = .returned (.tuple #[bptr g, .int .i64 0]) ∧ w.heap.size ≤ g ∧ Blk w' g 42 (wcells (newW l s)) ∧ Keep w.heap.size [] w w'
theorem keep_new (w : World) (a b c : Obj) : Keep w.heap.size [] w (((w.alloc a).alloc b).alloc c) := (((Keep.refl _ _ _).alloc (Nat.le_refl _) _).alloc (by simp) _).alloc (by simp; omega) _
theorem blk_new2 (w : World) (a b : Obj) (t : TypeId) (cs : Array Value) : Blk (((w.alloc a).alloc b).alloc (.cells cs t)) (w.heap.size + 1 + 1) t cs := by
  have h := Blk.new ((w.alloc a).alloc b) t cs
  have e : ((w.alloc a).alloc b).heap.size = w.heap.size + 1 + 1 := by simp
  rwa [e] at h
theorem keep_a1 (w : World) (a : Obj) : Keep w.heap.size [] w (w.alloc a) := (Keep.refl _ _ _).alloc (Nat.le_refl _) _
theorem keep_a2 (w : World) (a b : Obj) : Keep w.heap.size [] w ((w.alloc a).alloc b) := (keep_a1 w a).alloc (by simp) _

set_option maxHeartbeats 1000000 in
theorem new_yes (w : World) (l : Li) (s : Int) (hf : l.Fit) (hs : Fit s) (h : newOk l s = true) :
    Calls Try.prog 13 #[lagg l, .int .i64 s] w (NewPost w l s) := by
  obtain ⟨h1, h2, h3⟩ := (newOk_iff l s).1 h
  have hv := (valid_iff l).1 h1
  have hE1 := u64_id s h2 hs
  have hE2 := u64_sub l.sh l.sl hv.2.1 hf.c hf.b
  have HV := Lib.hid h1
  clear h1 hv hf hs h
  go_enter Try.func13, Try.ntmps13
  go_wp2_with fail
  refine (valid_v _ l true HV.out).mono ?_
  rintro e w' ⟨rfl, rfl⟩
  go_wp2_with fail
  go_ret2
  exact ⟨_, rfl, by omega, blk_new2 w _ _ _ _, keep_new w _ _ _⟩
set_option maxHeartbeats 1000000 in
theorem new_no (w : World) (l : Li) (s : Int) (hf : l.Fit) (hs : Fit s) (h : newOk l s = false) :
    Calls Try.prog 13 #[lagg l, .int .i64 s] w fun e w' => e = .returned (.tuple #[.pointer none, .int .i64 1]) ∧ Keep w.heap.size [] w w' := by
  cases hv : l.valid with
  | false =>
    have HV := Lib.hid hv
    clear hv hf hs h
    go_enter Try.func13, Try.ntmps13
    go_wp2_with fail
    refine (valid_v _ l false HV.out).mono ?_
    rintro e w' ⟨rfl, rfl⟩
    go_wp2_with fail
    go_ret2
    exact ⟨rfl, keep_a2 w _ _⟩
  | true =>
    have hv' := (valid_iff l).1 hv
    have hE2 := u64_sub l.sh l.sl hv'.2.1 hf.c hf.b
    by_cases h0 : s < 0
    · have HV := Lib.hid hv
      clear hv hf hs h hv'
      go_enter Try.func13, Try.ntmps13
      go_wp2_with fail
      refine (valid_v _ l true HV.out).mono ?_
      rintro e w' ⟨rfl, rfl⟩
      go_wp2_with fail
      go_ret2
      exact ⟨rfl, keep_a2 w _ _⟩
    · have hE1 := u64_id s (by omega) hs
      have hlt : l.sh - l.sl < s := by
        by_cases hc : s ≤ l.sh - l.sl
        · have := (newOk_iff l s).2 ⟨hv, by omega, hc⟩; rw [h] at this; cases this
        · omega
      have HV := Lib.hid hv
      clear hv hf hs h hv'
      go_enter Try.func13, Try.ntmps13
      go_wp2_with fail
      refine (valid_v _ l true HV.out).mono ?_
      rintro e w' ⟨rfl, rfl⟩
      go_wp2_with fail
      go_ret2
      exact ⟨rfl, keep_a2 w _ _⟩
set_option maxHeartbeats 1000000 in
theorem rnew_no (w : World) (l : Li) (s : Int) (hf : l.Fit) (hs : Fit s) (h : newOk l s = false) :
    Calls Try.prog 14 #[lagg l, .int .i64 s] w fun e w' => e = .returned (.tuple #[.agg #[.int .i64 0, .int .i64 0, .int .i64 0, .int .i64 0, .int .i64 0, .int .i64 0, .int .i64 0, .int .i64 0, .int .i64 0, .int .i64 0, .int .i64 0], .int .i64 1]) ∧ Keep w.heap.size [] w w' := by
  cases hv : l.valid with
  | false =>
    have HV := Lib.hid hv
    clear hv hf hs h
    go_enter Try.func14, Try.ntmps14
    go_wp2_with fail
    refine (rvalid_v _ l false HV.out).mono ?_
    rintro e w' ⟨rfl, rfl⟩
    go_wp2_with fail
    refine bodyPost_ret (v := .tuple #[.agg #[.int .i64 0, .int .i64 0, .int .i64 0, .int .i64 0, .int .i64 0, .int .i64 0, .int .i64 0, .int .i64 0, .int .i64 0, .int .i64 0, .int .i64 0], .int .i64 1]) (by simp [results, Try.results14, go_sem]) rfl ⟨rfl, ?_⟩
    exact keep_new w _ _ _
  | true =>
    have hv' := (valid_iff l).1 hv
    have hE2 := u64_sub l.sh l.sl hv'.2.1 hf.c hf.b
    by_cases h0 : s < 0
    · have HV := Lib.hid hv
      clear hv hf hs h hv'
      go_enter Try.func14, Try.ntmps14
      go_wp2_with fail
      refine (rvalid_v _ l true HV.out).mono ?_
      rintro e w' ⟨rfl, rfl⟩
      go_wp2_with fail
      refine bodyPost_ret (v := .tuple #[.agg #[.int .i64 0, .int .i64 0, .int .i64 0, .int .i64 0, .int .i64 0, .int .i64 0, .int .i64 0, .int .i64 0, .int .i64 0, .int .i64 0, .int .i64 0], .int .i64 1]) (by simp [results, Try.results14, go_sem]) rfl ⟨rfl, ?_⟩
      exact keep_new w _ _ _
    · have hE1 := u64_id s (by omega) hs
      have hlt : l.sh - l.sl < s := by
        by_cases hc : s ≤ l.sh - l.sl
        · have := (newOk_iff l s).2 ⟨hv, by omega, hc⟩; rw [h] at this; cases this
        · omega
      have HV := Lib.hid hv
      clear hv hf hs h hv'
      go_enter Try.func14, Try.ntmps14
      go_wp2_with fail
      refine (rvalid_v _ l true HV.out).mono ?_
      rintro e w' ⟨rfl, rfl⟩
      go_wp2_with fail
      refine bodyPost_ret (v := .tuple #[.agg #[.int .i64 0, .int .i64 0, .int .i64 0, .int .i64 0, .int .i64 0, .int .i64 0, .int .i64 0, .int .i64 0, .int .i64 0, .int .i64 0, .int .i64 0], .int .i64 1]) (by simp [results, Try.results14, go_sem]) rfl ⟨rfl, ?_⟩
      exact keep_new w _ _ _
set_option maxHeartbeats 1000000 in
theorem rnew_yes (w : World) (l : Li) (s : Int) (hf : l.Fit) (hs : Fit s) (h : newOk l s = true) :
    Calls Try.prog 14 #[lagg l, .int .i64 s] w fun e w' => e = .returned (.tuple #[.agg #[.int .i64 l.hl, .int .i64 l.sl, .int .i64 l.sh, .int .i64 l.hh, .int .i64 s, .int .i64 0, .int .i64 0, .int .i64 0, .int .i64 0, .int .i64 0, .int .i64 0], .int .i64 0]) ∧ Keep w.heap.size [] w w' := by
  obtain ⟨h1, h2, h3⟩ := (newOk_iff l s).1 h
  have hv := (valid_iff l).1 h1
  have hE1 := u64_id s h2 hs
  have hE2 := u64_sub l.sh l.sl hv.2.1 hf.c hf.b
  have HV := Lib.hid h1
  clear h1 hv hf hs h
  go_enter Try.func14, Try.ntmps14
  go_wp2_with fail
  refine (rvalid_v _ l true HV.out).mono ?_
  rintro e w' ⟨rfl, rfl⟩
  go_wp2_with fail
  refine bodyPost_ret (v := .tuple #[.agg #[.int .i64 l.hl, .int .i64 l.sl, .int .i64 l.sh, .int .i64 l.hh, .int .i64 s, .int .i64 0, .int .i64 0, .int .i64 0, .int .i64 0, .int .i64 0, .int .i64 0], .int .i64 0]) (by simp [results, Try.results14, go_sem]) rfl ⟨rfl, ?_⟩
  exact keep_new w _ _ _

set_option maxHeartbeats 400000 in
theorem count_in (w : World) (g : Nat) (W : Wt) (n : Nat) (hn : n < 5) (hb : Blk w g 42 (wcells W)) :
    Calls Try.prog 17 #[bptr g, .int .i64 (n : Int)] w fun e w' => e = .returned (.int .i64 (W.cnt n)) ∧ w = w' := by
  have q7 := wcell_cnt hb hn
  have HB := Lib.hid hb
  clear hb
  go_enter Try.func17, Try.ntmps17
  go_wp2_with fail
  refine (ok_any _ g W HB.out).mono ?_
  rintro e w' ⟨rfl, rfl⟩
  go_wp2_with fail
  go_ret
  exact ⟨rfl, rfl⟩
set_option maxHeartbeats 400000 in
theorem count_out (w : World) (g : Nat) (W : Wt) (n : Int) (hn : n < 0 ∨ 4 < n) (hb : Blk w g 42 (wcells W)) :
    Calls Try.prog 17 #[bptr g, .int .i64 n] w fun e w' => e = .returned (.int .i64 0) ∧ w = w' := by
  have HB := Lib.hid hb
  clear hb
  rcases hn with hn | hn
  all_goals
    go_enter Try.func17, Try.ntmps17
    go_wp2_with fail
    refine (ok_any _ g W HB.out).mono ?_
    rintro e w' ⟨rfl, rfl⟩
    go_wp2_with fail
    go_ret
    exact ⟨rfl, rfl⟩
def ClonePost (w : World) (W : Wt) (e : Ending) (w' : World) : Prop :=
  ∃ g, e = .returned (bptr g) ∧ w.heap.size ≤ g ∧ Blk w' g 42 (wcells W) ∧ Keep w.heap.size [] w w'
set_option maxHeartbeats 400000 in
theorem clone_any (w : World) (g : Nat) (W : Wt) (hb : Blk w g 42 (wcells W)) :
    Calls Try.prog 19 #[bptr g] w (ClonePost w W) := by
  have c0 : w.cell? ⟨g, 0, none⟩ = some (.bool true) := hb.cell 0
  have c1 : w.cell? ⟨g, 1, none⟩ = some (.int .i64 W.l.hl) := hb.cell 1
  have c2 : w.cell? ⟨g, 2, none⟩ = some (.int .i64 W.l.sl) := hb.cell 2
  have c3 : w.cell? ⟨g, 3, none⟩ = some (.int .i64 W.l.sh) := hb.cell 3
  have c4 : w.cell? ⟨g, 4, none⟩ = some (.int .i64 W.l.hh) := hb.cell 4
  have c5 : w.cell? ⟨g, 5, none⟩ = some (.int .u64 W.s) := hb.cell 5
  have c6 : w.cell? ⟨g, 6, none⟩ = some (.int .i64 W.last) := hb.cell 6
  have c7 : w.cell? ⟨g, 7, none⟩ = some (.int .i64 W.c0) := hb.cell 7
  have c8 : w.cell? ⟨g, 8, none⟩ = some (.int .i64 W.c1) := hb.cell 8
  have c9 : w.cell? ⟨g, 9, none⟩ = some (.int .i64 W.c2) := hb.cell 9
  have c10 : w.cell? ⟨g, 10, none⟩ = some (.int .i64 W.c3) := hb.cell 10
  have c11 : w.cell? ⟨g, 11, none⟩ = some (.int .i64 W.c4) := hb.cell 11
  have HB := Lib.hid hb
  clear hb
  go_enter Try.func19, Try.ntmps19
  go_wp2_with fail
  refine (ok_any _ g W HB.out).mono ?_
  rintro e w' ⟨rfl, rfl⟩
  go_wp2_with fail
  go_ret
  exact ⟨_, rfl, Nat.le_refl _, Blk.new _ _ _, keep_a1 w _⟩
set_option maxHeartbeats 400000 in
theorem sev_any (w : World) (x : Int) (h0 : 0 ≤ x) (h1 : x ≤ 4) :
    Calls Try.prog 18 #[.int .i64 x] w fun e w' => e = .returned (.int .i64 (sev x)) ∧ w = w' := by
  go_enter Try.func18, Try.ntmps18
  go_wp2
  go_ret
  exact ⟨rfl, rfl⟩

/-! ### nil and zero -/
abbrev zcells : Array Value := #[.bool false, .int .i64 0, .int .i64 0, .int .i64 0, .int .i64 0, .int .u64 0, .int .i64 0, .int .i64 0, .int .i64 0, .int .i64 0, .int .i64 0, .int .i64 0]
def Bad (w : World) (v : Value) : Prop := Calls Try.prog 20 #[v] w fun e w' => e = .returned (.bool false) ∧ w = w'
set_option maxHeartbeats 400000 in
theorem bad_nil (w : World) : Bad w (.pointer none) := by
  unfold Bad
  go_enter Try.func20, Try.ntmps20
  go_wp2
  go_ret
  exact ⟨rfl, rfl⟩
set_option maxHeartbeats 400000 in
theorem bad_zero (w : World) (g : Nat) (hb : Blk w g 42 zcells) : Bad w (bptr g) := by
  have h0 : w.cell? ⟨g, 0, none⟩ = some (.bool false) := hb.cell 0
  clear hb
  unfold Bad
  go_enter Try.func20, Try.ntmps20
  go_wp2
  go_ret
  exact ⟨rfl, rfl⟩
set_option maxHeartbeats 400000 in
theorem feed_nil (w : World) (v : Int) : Calls Try.prog 15 #[.pointer none, .int .i64 v] w fun e w' => e = .returned (.int .i64 0) ∧ w = w' := by
  have H := Lib.hid (bad_nil w)
  go_enter Try.func15, Try.ntmps15
  go_wp2_with fail
  refine H.out.mono ?_
  rintro e w' ⟨rfl, rfl⟩
  go_wp2_with fail
  go_ret
  exact ⟨rfl, rfl⟩
set_option maxHeartbeats 400000 in
theorem feed_zero (w : World) (g : Nat) (v : Int) (hb : Blk w g 42 zcells) : Calls Try.prog 15 #[bptr g, .int .i64 v] w fun e w' => e = .returned (.int .i64 0) ∧ w = w' := by
  have H := Lib.hid (bad_zero w g hb)
  clear hb
  go_enter Try.func15, Try.ntmps15
  go_wp2_with fail
  refine H.out.mono ?_
  rintro e w' ⟨rfl, rfl⟩
  go_wp2_with fail
  go_ret
  exact ⟨rfl, rfl⟩
set_option maxHeartbeats 400000 in
theorem count_nil (w : World) (v : Int) : Calls Try.prog 17 #[.pointer none, .int .i64 v] w fun e w' => e = .returned (.int .i64 0) ∧ w = w' := by
  have H := Lib.hid (bad_nil w)
  go_enter Try.func17, Try.ntmps17
  go_wp2_with fail
  refine H.out.mono ?_
  rintro e w' ⟨rfl, rfl⟩
  go_wp2_with fail
  go_ret
  exact ⟨rfl, rfl⟩
set_option maxHeartbeats 400000 in
theorem count_zero (w : World) (g : Nat) (v : Int) (hb : Blk w g 42 zcells) : Calls Try.prog 17 #[bptr g, .int .i64 v] w fun e w' => e = .returned (.int .i64 0) ∧ w = w' := by
  have H := Lib.hid (bad_zero w g hb)
  clear hb
  go_enter Try.func17, Try.ntmps17
  go_wp2_with fail
  refine H.out.mono ?_
  rintro e w' ⟨rfl, rfl⟩
  go_wp2_with fail
  go_ret
  exact ⟨rfl, rfl⟩
set_option maxHeartbeats 400000 in
theorem clone_nil (w : World) : Calls Try.prog 19 #[.pointer none] w fun e w' => e = .returned (.pointer none) ∧ w = w' := by
  have H := Lib.hid (bad_nil w)
  go_enter Try.func19, Try.ntmps19
  go_wp2_with fail
  refine H.out.mono ?_
  rintro e w' ⟨rfl, rfl⟩
  go_wp2_with fail
  go_ret
  exact ⟨rfl, rfl⟩
set_option maxHeartbeats 400000 in
theorem clone_zero (w : World) (g : Nat) (hb : Blk w g 42 zcells) : Calls Try.prog 19 #[bptr g] w fun e w' => e = .returned (.pointer none) ∧ w = w' := by
  have H := Lib.hid (bad_zero w g hb)
  clear hb
  go_enter Try.func19, Try.ntmps19
  go_wp2_with fail
  refine H.out.mono ?_
  rintro e w' ⟨rfl, rfl⟩
  go_wp2_with fail
  go_ret
  exact ⟨rfl, rfl⟩

theorem feed_r (w : World) (g : Nat) (W : Wt) (hi : W.Inv) (v : Int) (hv : Fit v) (hb : Blk w g 42 (wcells W)) (x : Int) (hx : W.next v = x) :
    Calls Try.prog 15 #[bptr g, .int .i64 v] w (FeedPost w g 42 (wcells (W.feed v)) (.int .i64 x)) := hx ▸ feed_any w g W hi v hv hb
theorem rfeed_r (w : World) (g : Nat) (W : Wt) (hi : W.Inv) (v : Int) (hb : Blk w g 35 (rcells W)) (x : Int) (hx : W.next v = x) :
    Calls Try.prog 16 #[bptr g, .int .i64 v] w (FeedPost w g 35 (rcells (W.feed v)) (.int .i64 x)) := hx ▸ rfeed_any w g W hi v hb
theorem count_r (w : World) (g : Nat) (W : Wt) (n : Nat) (hn : n < 5) (hb : Blk w g 42 (wcells W)) (x : Int) (hx : W.cnt n = x) :
    Calls Try.prog 17 #[bptr g, .int .i64 (n : Int)] w fun e w' => e = .returned (.int .i64 x) ∧ w = w' := hx ▸ count_in w g W n hn hb
end Go.Proofs.Ytmefdiidgnpklaa
