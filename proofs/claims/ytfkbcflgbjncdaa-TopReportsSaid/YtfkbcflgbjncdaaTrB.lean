/- The tracker: New, valid, advance, find: their contracts. -/
import Derived.Test.YtfkbcflgbjncdaaTrP
namespace Go.Proofs.Ytfkbcflgbjncdaa
set_option linter.unusedVariables false
set_option linter.unusedSimpArgs false
open Go.RowKit
set_option maxHeartbeats 400000 in
theorem tvalid_any (w : World) (g : Nat) (h0 : w.cell? ⟨g, 0, none⟩ = some (.bool true)) :
    Calls Try.prog 40 #[bptr g] w fun e w' => e = .returned (.bool true) ∧ w = w' := by
  go_enter Try.func40, Try.ntmps40
  go_wp2_with fail
  go_ret
  exact ⟨rfl, rfl⟩
set_option maxHeartbeats 400000 in
theorem tvalid_nil (w : World) : Calls Try.prog 40 #[.pointer none] w fun e w' => e = .returned (.bool false) ∧ w = w' := by
  go_enter Try.func40, Try.ntmps40
  go_wp2_with fail
  go_ret
  exact ⟨rfl, rfl⟩
def clampT (t : Int) : Int := min (max t 1) 1099511627776
set_option maxHeartbeats 1000000 in
theorem tnew_any (w : World) (t : Int) : Calls Try.prog 7 #[.int .i64 t] w fun e w' => ∃ g, e = .returned (bptr g) ∧ g = w.heap.size ∧ Tr w' g none ⟨0, clampT t, []⟩ ∧ Keep w.heap.size [] w w' := by
  by_cases h1 : t < 1
  · have hq : clampT t = 1 := by unfold clampT; omega
    rw [hq]
    go_enter Try.func7, Try.ntmps7
    go_wp2_with fail
    go_ret
    refine ⟨_, rfl, rfl, ⟨0, 0, rfl, ?_, Sl.nil _ _ _, ⟨by simp, by simp, by simp⟩, by omega⟩, (Keep.refl _ _ _).alloc (Nat.le_refl _) _⟩
    exact Blk.new w 103 #[.bool true, .int .i64 0, .int .i64 1, .slice none 0 0]
  · by_cases h2 : 1099511627776 < t
    · have hq : clampT t = 1099511627776 := by unfold clampT; omega
      rw [hq]
      go_enter Try.func7, Try.ntmps7
      go_wp2_with fail
      go_ret
      refine ⟨_, rfl, rfl, ⟨0, 0, rfl, ?_, Sl.nil _ _ _, ⟨by simp, by simp, by simp⟩, by omega⟩, (Keep.refl _ _ _).alloc (Nat.le_refl _) _⟩
      exact Blk.new w 103 #[.bool true, .int .i64 0, .int .i64 1099511627776, .slice none 0 0]
    · have hq : clampT t = t := by unfold clampT; omega
      rw [hq]
      go_enter Try.func7, Try.ntmps7
      go_wp2_with fail
      go_ret
      refine ⟨_, rfl, rfl, ⟨0, 0, rfl, ?_, Sl.nil _ _ _, ⟨by simp, by simp only; omega, by simp⟩, by omega⟩, (Keep.refl _ _ _).alloc (Nat.le_refl _) _⟩
      exact Blk.new w 103 #[.bool true, .int .i64 0, .int .i64 t, .slice none 0 0]
set_option maxHeartbeats 1000000 in
theorem tadv_any (w : World) (g : Nat) (A : Option Addr) (t : Tk) (n now' : Int) (hn : adv t.now n = now') (h : Tr w g A t) :
    Calls Try.prog 41 #[bptr g, .int .i64 n] w fun e w' => e = .returned (.tuple #[]) ∧ Tr w' g A ⟨now', t.to, t.D⟩ ∧ Keep w.heap.size [g] w w' := by
  obtain ⟨m, c, hm, hb, hs, hok, hmx⟩ := h
  have d1 : w.cell? ⟨g, 1, none⟩ = some (.int .i64 t.now) := hb.cell 1
  have f1 := hb.frozen 1
  have HB := Lib.hid hb
  have HS := Lib.hid hs
  have HM := Lib.hid hm
  have HOK := Lib.hid hok
  have hne : g ∉ blks A := hs.ne_blk hb (by decide)
  have HNE := Lib.hid hne
  unfold adv at hn
  clear hb hs hm hok hne
  by_cases hc : t.now < n ∧ n ≤ 1099511627776
  · rw [if_pos hc] at hn
    subst hn
    obtain ⟨hc1, hc2⟩ := hc
    go_enter Try.func41, Try.ntmps41
    go_wp2_with fail
    go_end0
    refine ⟨rfl, ⟨m, c, HM.out, HB.out.set_ 1 _, HS.out.far _ HNE.out, ⟨⟨by have := HOK.out.1; simp only; omega, hc2⟩, HOK.out.2⟩, hmx⟩, (Keep.refl _ _ _).set1⟩
  · rw [if_neg hc] at hn
    subst hn
    by_cases h1 : t.now < n
    · have h2 : 1099511627776 < n := by omega
      clear hc
      go_enter Try.func41, Try.ntmps41
      go_wp2_with fail
      go_end0
      exact ⟨rfl, ⟨m, c, HM.out, HB.out, HS.out, HOK.out, hmx⟩, Keep.refl _ _ _⟩
    · clear hc
      go_enter Try.func41, Try.ntmps41
      go_wp2_with fail
      go_end0
      exact ⟨rfl, ⟨m, c, HM.out, HB.out, HS.out, HOK.out, hmx⟩, Keep.refl _ _ _⟩
/-- the pointer that find returns -/
def ptrI (A : Option Addr) (r : Option Nat) : Value := match A, r with
  | some a, some i => .pointer (some ⟨a.block, i * 5, none⟩)
  | _, _ => .pointer none
def FindPost (w : World) (A : Option Addr) (r : Option Nat) (e : Ending) (w' : World) : Prop := e = .returned (ptrI A r) ∧ w = w'
set_option maxHeartbeats 400000 in
theorem find_nil (w : World) (s n : Int) : Calls Try.prog 42 #[.pointer none, .int .i64 s, .int .i64 n] w fun e w' => e = .returned (.pointer none) ∧ w = w' := by
  go_enter Try.func42, Try.ntmps42
  go_wp2_with fail
  refine (tvalid_nil _).mono ?_
  rintro e w' ⟨rfl, rfl⟩
  go_wp2_with fail
  go_ret
  exact ⟨rfl, rfl⟩
def hit (s n : Int) (x : Is) : Bool := x.s == s && x.n == n
set_option maxRecDepth 10000 in
set_option maxHeartbeats 2000000 in
theorem find_any (w : World) (g : Nat) (A : Option Addr) (t : Tk) (s n : Int) (r : Option Nat) (hr : findI t.D s n = r) (h : Tr w g A t) :
    Calls Try.prog 42 #[bptr g, .int .i64 s, .int .i64 n] w (FindPost w A r) := by
  obtain ⟨m, c, hm, hb, hs, hok, hmx⟩ := h
  have d0 : w.cell? ⟨g, 0, none⟩ = some (.bool true) := hb.cell 0
  have d3 : w.cell? ⟨g, 3, none⟩ = some (.slice A m c) := hb.cell 3
  have hcap := hs.cap
  have hmc : (m : Int) ≤ (c : Int) := by omega
  have hcm : (c : Int) ≤ 9223372036854775807 := by have := hcap.2; unfold maxLen at this; omega
  have HS := Lib.hid hs
  have HM := Lib.hid hm
  have HR := Lib.hid hr
  have HD0 := Lib.hid d0
  clear hb hs hm hok hcap hr
  go_enter Try.func42, Try.ntmps42
  go_wp2_with fail
  refine (tvalid_any _ g HD0.out).mono ?_
  rintro e w' ⟨rfl, rfl⟩
  go_wp2_with fail
  go_loop [16] (fun v => ∃ k : Nat, k ≤ m ∧ v = .int .i64 k ∧ (∀ j x, j < k → t.D[j]? = some x → hit s n x = false)) (fun v => m - (intOf v).toNat)
  case atStart => exact ⟨0, Nat.zero_le _, rfl, fun j x hj => by omega⟩
  case round =>
    obtain ⟨k, hk, rfl, hpre⟩ := hrel
    have HPRE := Lib.hid hpre
    clear hpre
    by_cases hlt : k < m
    · obtain ⟨x, hx⟩ : ∃ x, t.D[k]? = some x := ⟨t.D[k]'(by have := HM.out; omega), List.getElem?_eq_getElem _⟩
      obtain ⟨b, hA, hb, hc⟩ := HS.out.icell HM.out hx
      subst hA
      have e0 : w.cell? ⟨b, k * 5, none⟩ = some (.int .i64 x.s) := hc 0 _ rfl
      have e1 : w.cell? ⟨b, k * 5 + 1, none⟩ = some (.int .i64 x.n) := hc 1 _ rfl
      have HX := Lib.hid hx
      have hkm : (k : Int) < (m : Int) := by omega
      clear hc hx
      cases hh : hit s n x with
      | true =>
        have hrk : r = some k := by
          rw [← HR.out]
          unfold findI
          rw [List.findIdx?_eq_some_iff_getElem]
          have h1 := (List.getElem?_eq_some_iff.1 HX.out)
          refine ⟨h1.1, by rw [h1.2]; exact hh, fun j hj => ?_⟩
          have := HPRE.out j (t.D[j]'(by have := HM.out; omega)) hj (List.getElem?_eq_getElem _)
          unfold hit at this
          simpa using this
        subst hrk
        unfold hit at hh
        rw [Bool.and_eq_true] at hh
        obtain ⟨hh1, hh2⟩ := hh
        go_wp2_with fail
        go_ret
        exact ⟨rfl, rfl⟩
      | false =>
        have HH := Lib.hid hh
        unfold hit at hh
        by_cases h1 : x.s = s
        · have q1 : (x.s == s) = true := beq_iff_eq.2 h1
          rw [q1, Bool.true_and] at hh
          clear h1
          go_wp2_with fail
          go_round
          case rel =>
            refine ⟨k + 1, by omega, by go_num, fun j y hj hy => ?_⟩
            by_cases hjk : j = k
            · subst hjk; rw [HX.out] at hy; cases hy; exact HH.out
            · exact HPRE.out j y (by omega) hy
          case measure => simp [intOf]; omega
        · have q1 : (x.s == s) = false := beq_false_of_ne h1
          clear h1 hh
          go_wp2_with fail
          go_round
          case rel =>
            refine ⟨k + 1, by omega, by go_num, fun j y hj hy => ?_⟩
            by_cases hjk : j = k
            · subst hjk; rw [HX.out] at hy; cases hy; exact HH.out
            · exact HPRE.out j y (by omega) hy
          case measure => simp [intOf]; omega
    · obtain rfl : k = m := by omega
      have hrn : r = none := by
        rw [← HR.out]
        unfold findI
        rw [List.findIdx?_eq_none_iff]
        intro x hx
        obtain ⟨j, hj⟩ := List.mem_iff_getElem?.1 hx
        have := HPRE.out j x (by have := (List.getElem?_eq_some_iff.1 hj).1; have := HM.out; omega) hj
        exact this
      subst hrn
      go_wp2_with fail
      go_ret
      refine ⟨?_, rfl⟩
      cases A <;> rfl
end Go.Proofs.Ytfkbcflgbjncdaa
