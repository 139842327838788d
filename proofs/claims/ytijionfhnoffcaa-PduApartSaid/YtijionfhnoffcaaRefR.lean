/- The reference's TakeCount, TakeBlob and its Reader; readers by their state. -/
import Derived.Test.YtijionfhnoffcaaRefT
namespace Go.Proofs.Ytijionfhnoffcaa
set_option linter.unusedVariables false
set_option linter.unusedSimpArgs false
open Go.RowKit
set_option maxHeartbeats 1000000 in
theorem takecount_r (w : World) (X : Option Addr) (m c : Nat) (L : List Int) (most : Int) (r : Int × Nat) (hO : Oct L) (hv : Vw w X m 1 (octs L)) (hmc : m ≤ c) (hcm : c ≤ maxLen) (hr : tkC L most = r) :
    Calls Try.prog 55 #[.slice X m c, .int .i64 most] w fun e w' => e = .returned (.tuple #[.int .i64 r.1, .int .i64 (r.2 : Int)]) ∧ Keep w.heap.size [] w w' := by
  obtain ⟨n, k, hnk⟩ : ∃ n k, tkI L = (n, k) := ⟨_, _, rfl⟩
  have HJ := Lib.hid hnk
  have HO := Lib.hid hO
  have HV := Lib.hid hv
  unfold tkC at hr
  rw [hnk] at hr
  simp only at hr
  clear hnk hO hv
  by_cases hk : k = 0
  · rw [if_pos (.inl hk)] at hr
    subst hr
    subst hk
    go_enter Try.func55, Try.ntmps55
    go_wp2_with fail
    refine (takeint_r _ X m c L _ HO.out HV.out hmc hcm HJ.out).mono ?_
    rintro e w1 ⟨rfl, hk⟩
    have HK := Lib.hid hk
    clear hk
    go_wp2_with fail
    go_ret2
    exact ⟨rfl, HK.out⟩
  · have k0 : ((k : Int) == 0) = false := beq_false_of_ne (by omega)
    by_cases h0 : n < 0
    · rw [if_pos (.inr (.inl h0))] at hr
      subst hr
      clear hk
      go_enter Try.func55, Try.ntmps55
      go_wp2_with fail
      refine (takeint_r _ X m c L _ HO.out HV.out hmc hcm HJ.out).mono ?_
      rintro e w1 ⟨rfl, hk⟩
      have HK := Lib.hid hk
      clear hk
      go_wp2_with fail
      go_ret2
      exact ⟨rfl, HK.out⟩
    · by_cases h1 : most < n
      · rw [if_pos (.inr (.inr h1))] at hr
        subst hr
        clear hk
        go_enter Try.func55, Try.ntmps55
        go_wp2_with fail
        refine (takeint_r _ X m c L _ HO.out HV.out hmc hcm HJ.out).mono ?_
        rintro e w1 ⟨rfl, hk⟩
        have HK := Lib.hid hk
        clear hk
        go_wp2_with fail
        go_ret2
        exact ⟨rfl, HK.out⟩
      · rw [if_neg (by omega)] at hr
        subst hr
        clear hk
        go_enter Try.func55, Try.ntmps55
        go_wp2_with fail
        refine (takeint_r _ X m c L _ HO.out HV.out hmc hcm HJ.out).mono ?_
        rintro e w1 ⟨rfl, hk⟩
        have HK := Lib.hid hk
        clear hk
        go_wp2_with fail
        go_ret2
        exact ⟨rfl, HK.out⟩
theorem tkC_le {L : List Int} {most n : Int} {k : Nat} (hO : Oct L) (h : tkC L most = (n, k)) (hk : k ≠ 0) : k ≤ L.length ∧ k ≤ 10 :=
  have := tkI_sound L n k hO (tkC_yes h hk).1 hk
  ⟨this.2.2.2.1, this.2.2.2.2⟩
def TBPost (w : World) (X : Option Addr) (B : List Int) (k : Nat) (e : Ending) (w' : World) : Prop :=
  ∃ A n c, e = .returned (.tuple #[.slice A n c, .int .i64 (k : Int)]) ∧ Vw w' A n 1 (octs B) ∧ Keep w.heap.size [] w w' ∧ (if k = 0 then A = none ∧ n = 0 ∧ c = 0 else blks A = blks X)
set_option maxHeartbeats 2000000 in
theorem takeblob_r (w : World) (X : Option Addr) (m c : Nat) (L B : List Int) (most : Int) (k : Nat) (hO : Oct L) (hv : Vw w X m 1 (octs L)) (hm : m ≤ 100000000) (hmc : m ≤ c) (hcm : c ≤ maxLen) (hr : tkB L most = (B, k)) :
    Calls Try.prog 54 #[.slice X m c, .int .i64 most] w (TBPost w X B k) := by
  obtain ⟨n, j, hnk⟩ : ∃ n j, tkC L most = (n, j) := ⟨_, _, rfl⟩
  have hlm : L.length = m := by simpa [octs] using hv.1
  have HJ := Lib.hid hnk
  have HO := Lib.hid hO
  have HV := Lib.hid hv
  unfold tkB at hr
  rw [hnk] at hr
  simp only at hr
  clear hO hv
  have hmc' : (m : Int) ≤ (c : Int) := by omega
  have hcm' : (c : Int) ≤ 9223372036854775807 := by unfold maxLen at hcm; omega
  by_cases hj : j = 0
  · rw [if_pos (.inl hj)] at hr
    cases hr
    subst hj
    clear hnk hlm
    go_enter Try.func54, Try.ntmps54
    go_wp2_with fail
    refine (takecount_r _ X m c L most _ HO.out HV.out hmc hcm HJ.out).mono ?_
    rintro e w1 ⟨rfl, hk⟩
    have HK := Lib.hid hk
    clear hk
    go_wp2_with fail
    go_ret2
    exact ⟨none, 0, 0, rfl, Vw.nil _ _, HK.out, by simp⟩
  · have k0 : ((j : Int) == 0) = false := beq_false_of_ne (by omega)
    obtain ⟨hjl, hj10⟩ := tkC_le HO.out hnk hj
    obtain ⟨_, hn0, _⟩ := tkC_yes hnk hj
    have hjm : (j : Int) ≤ (m : Int) := by omega
    obtain ⟨N, rfl⟩ := Int.eq_ofNat_of_zero_le hn0
    clear hnk
    have HLM := Lib.hid hlm
    by_cases h0 : ((L.length - j : Nat) : Int) < (N : Int)
    · rw [if_pos (.inr h0)] at hr
      cases hr
      have h0' : (m : Int) - (j : Int) < (N : Int) := by omega
      have HJ0 := Lib.hid hj
      clear hlm h0 hj hjl
      go_enter Try.func54, Try.ntmps54
      go_wp2_with fail
      refine (takecount_r _ X m c L most _ HO.out HV.out hmc hcm HJ.out).mono ?_
      rintro e w1 ⟨rfl, hk⟩
      have HK := Lib.hid hk
      clear hk
      go_wp2_with fail
      go_ret2
      exact ⟨none, 0, 0, rfl, Vw.nil _ _, HK.out, by simp⟩
    · rw [if_neg (by omega)] at hr
      have hr1 := congrArg Prod.fst hr
      have hr2 := congrArg Prod.snd hr
      simp only [Int.toNat_natCast] at hr1 hr2
      subst hr1
      subst hr2
      obtain ⟨bx, ox, rfl, hbx, _⟩ := HV.out.2 (by omega)
      have h0' : (N : Int) ≤ (m : Int) - (j : Int) := by omega
      have h1' : (j : Int) + (N : Int) ≤ (c : Int) := by omega
      have h2' : (j : Int) ≤ (j : Int) + (N : Int) := by omega
      have h3' : (j : Int) ≤ (c : Int) := by omega
      have HJ1 := Lib.hid hj
      clear hlm h0 hj hjl hr
      by_cases hc : c = j
      · obtain rfl : N = 0 := by omega
        subst hc
        go_enter Try.func54, Try.ntmps54
        go_wp2_with fail
        refine (takecount_r _ _ m _ L most _ HO.out HV.out hmc hcm HJ.out).mono ?_
        rintro e w1 ⟨rfl, hk⟩
        have HK := Lib.hid hk
        clear hk
        go_wp2_with fail
        go_ret2
        refine ⟨some ⟨bx, ox, none⟩, 0, 0, ?_, ?_, HK.out, by rw [if_neg (by have := HJ1.out; omega)]⟩
        · simp
        · simpa using Vw.zero w1 (some ⟨bx, ox, none⟩) 1
      · go_enter Try.func54, Try.ntmps54
        go_wp2_with fail
        refine (takecount_r _ _ m c L most _ HO.out HV.out hmc hcm HJ.out).mono ?_
        rintro e w1 ⟨rfl, hk⟩
        have HK := Lib.hid hk
        have HV1 := Lib.hid (HV.out.keep0 hk)
        clear hk
        go_wp2_with fail
        go_ret2
        refine ⟨some ⟨bx, ox + j, none⟩, N, c - j, ?_, ?_, HK.out, by rw [if_neg (by have := HJ1.out; omega)]; rfl⟩
        · first | rfl | (simp; done) | (simp; omega)
        · have h := (HV1.out.drop (k := j) (by omega)).take (k := N) (by omega)
          rw [octs, ← List.map_drop, ← List.map_take] at h
          exact h

theorem takeblob_no (w : World) (X : Option Addr) (m c : Nat) (L : List Int) (most : Int) (hO : Oct L) (hv : Vw w X m 1 (octs L)) (hm : m ≤ 100000000) (hmc : m ≤ c) (hcm : c ≤ maxLen) (hr : tkB L most = ([], 0)) :
    Calls Try.prog 54 #[.slice X m c, .int .i64 most] w fun e w' => e = .returned (.tuple #[.slice none 0 0, .int .i64 0]) ∧ Keep w.heap.size [] w w' := by
  refine (takeblob_r w X m c L [] most 0 hO hv hm hmc hcm hr).mono ?_
  rintro e w' ⟨A, n, c', he, _, hk, hif⟩
  rw [if_pos rfl] at hif
  obtain ⟨rfl, rfl, rfl⟩ := hif
  exact ⟨he, hk⟩
def TBYes (w : World) (X : Option Addr) (B : List Int) (k : Nat) (e : Ending) (w' : World) : Prop :=
  ∃ A n c, e = .returned (.tuple #[.slice A n c, .int .i64 (k : Int)]) ∧ Vw w' A n 1 (octs B) ∧ Keep w.heap.size [] w w' ∧ blks A = blks X
theorem takeblob_yes (w : World) (X : Option Addr) (m c : Nat) (L B : List Int) (most : Int) (k : Nat) (hO : Oct L) (hv : Vw w X m 1 (octs L)) (hm : m ≤ 100000000) (hmc : m ≤ c) (hcm : c ≤ maxLen) (hr : tkB L most = (B, k)) (hk : k ≠ 0) :
    Calls Try.prog 54 #[.slice X m c, .int .i64 most] w (TBYes w X B k) := by
  refine (takeblob_r w X m c L B most k hO hv hm hmc hcm hr).mono ?_
  rintro e w' ⟨A, n, c', he, hv', hk', hif⟩
  rw [if_neg hk] at hif
  exact ⟨A, n, c', he, hv', hk', hif⟩

/-! ### the reference's Reader -/
/-- a reader of the reference at block g -/
def Rr (w : World) (g : Nat) (X : Option Addr) (L : List Int) (bad : Bool) : Prop :=
  ∃ Y m c, m = L.length ∧ m ≤ c ∧ c ≤ maxLen ∧ Blk w g 63 #[.slice Y m c, .bool bad] ∧ Vw w Y m 1 (octs L) ∧ (0 < m → Y = X) ∧ g ∉ blks X
theorem Rr.keepS {w w' : World} {g : Nat} {X : Option Addr} {L : List Int} {b : Bool} {S : List Nat} (h : Rr w g X L b) (k : Keep w.heap.size S w w') (hg : g ∉ S) (hx : ∀ x, x ∈ blks X → x ∉ S) : Rr w' g X L b := by
  obtain ⟨Y, m, c, h1, h2, h3, h4, h5, h6, h7⟩ := h
  exact ⟨Y, m, c, h1, h2, h3, h4.keepS k hg, h5.keepP k (fun hm => by rw [h6 hm]; exact hx), h6, h7⟩
theorem Rr.lt {w : World} {g : Nat} {X : Option Addr} {L : List Int} {b : Bool} (h : Rr w g X L b) : g < w.heap.size := by
  obtain ⟨Y, m, c, _, _, _, h4, _⟩ := h
  exact h4.lt
set_option maxHeartbeats 1000000 in
theorem rnext_0 (w : World) (g : Nat) (X : Option Addr) (L : List Int) (b : Bool) (hr : Rr w g X L b) :
    Calls Try.prog 52 #[bptr g, .int .i64 0] w fun e w' => e = .returned (.tuple #[]) ∧ Rr w' g none [] true ∧ Keep w.heap.size [g] w w' := by
  obtain ⟨Y, m, c, _, _, _, hb, _, _⟩ := hr
  have d0 : w.cell? ⟨g, 0, none⟩ = some (.slice Y m c) := hb.cell 0
  have d1 : w.cell? ⟨g, 1, none⟩ = some (.bool b) := hb.cell 1
  have f0 := hb.frozen 0
  have f1 := hb.frozen 1
  have HB := Lib.hid hb
  clear hb
  go_enter Try.func52, Try.ntmps52
  go_wp2_with fail
  refine bodyPost_ret (results_none rfl _ _ _) rfl ?_
  exact ⟨rfl, ⟨none, 0, 0, rfl, Nat.le_refl _, Nat.zero_le _, (HB.out.set_ 1 _).set_ 0 _, Vw.nil _ _, fun _ => rfl, by simp [blks]⟩, by repeat (first | exact Keep.refl _ _ _ | apply Keep.set1)⟩
set_option maxHeartbeats 1000000 in
theorem rnext_k (w : World) (g : Nat) (X : Option Addr) (L : List Int) (b : Bool) (k : Nat) (hk : k ≠ 0) (hkl : k ≤ L.length) (hr : Rr w g X L b) :
    Calls Try.prog 52 #[bptr g, .int .i64 (k : Int)] w fun e w' => e = .returned (.tuple #[]) ∧ ∃ X', Rr w' g X' (L.drop k) b ∧ Keep w.heap.size [g] w w' ∧ blks X' = blks X := by
  obtain ⟨Y, m, c, hm, hmc, hcm, hb, hv, hyx, hgx⟩ := hr
  obtain rfl := hyx (by omega)
  have d0 : w.cell? ⟨g, 0, none⟩ = some (.slice Y m c) := hb.cell 0
  have f0 := hb.frozen 0
  obtain ⟨bx, ox, rfl, _⟩ := hv.2 (by omega)
  have k0 : ((k : Int) == 0) = false := beq_false_of_ne (by omega)
  have hkm : (k : Int) ≤ (m : Int) := by omega
  have hkc : (k : Int) ≤ (c : Int) := by omega
  have hmc' : (m : Int) ≤ (c : Int) := by omega
  have hcm' : (c : Int) ≤ 9223372036854775807 := by unfold maxLen at hcm; omega
  have HB := Lib.hid hb
  have HM := Lib.hid hm
  have HV := Lib.hid hv
  have HGX := Lib.hid hgx
  clear hb hm hv hgx hyx hkl
  by_cases hc : c = k
  · subst hc
    go_enter Try.func52, Try.ntmps52
    go_wp2_with fail
    go_end0
    refine ⟨rfl, some ⟨bx, ox, none⟩, ?_, (Keep.refl _ _ _).set1, rfl⟩
    have hd : L.drop c = [] := by apply List.drop_eq_nil_of_le; have := HM.out; omega
    refine ⟨_, _, _, ?_, ?_, ?_, HB.out.set_ 0 _, ?_, fun _ => rfl, HGX.out⟩
    · have := HM.out; simp; omega
    · omega
    · unfold maxLen; omega
    · rw [hd]; exact Vw.zero _ _ _
  · go_enter Try.func52, Try.ntmps52
    go_wp2_with fail
    go_end0
    refine ⟨rfl, some ⟨bx, ox + k, none⟩, ?_, (Keep.refl _ _ _).set1, rfl⟩
    refine ⟨_, _, _, ?_, ?_, ?_, HB.out.set_ 0 _, ?_, fun _ => rfl, HGX.out⟩
    · simp [HM.out]
    · omega
    · unfold maxLen; omega
    · have h := (HV.out.drop (k := k) (by omega)).far (p := ⟨g, 0, none⟩) (.slice (some ⟨bx, ox + k, none⟩) (m - k) (c - k)) HGX.out
      simpa [octs] using h

/-! ### readers by their state: none: it has failed -/
abbrev RS := Option (List Int)
def stU (s : RS) (z : Int) : Int × RS := match s with
  | none => (0, none)
  | some L => if z < 1 ∨ 8 < z ∨ (L.length : Int) < z then (0, none) else (beVal (L.take z.toNat), some (L.drop z.toNat))
def stI (s : RS) : Int × RS := match s with
  | none => (0, none)
  | some L => if (tkI L).2 = 0 then (0, none) else ((tkI L).1, some (L.drop (tkI L).2))
def stC (s : RS) (most : Int) : Int × RS := match s with
  | none => (0, none)
  | some L => if (tkC L most).2 = 0 then (0, none) else ((tkC L most).1, some (L.drop (tkC L most).2))
def stB (s : RS) (most : Int) : List Int × RS := match s with
  | none => ([], none)
  | some L => if (tkB L most).2 = 0 then ([], none) else ((tkB L most).1, some (L.drop (tkB L most).2))
def RSok (s : RS) : Prop := ∀ L, s = some L → Oct L ∧ L.length ≤ 100000000
theorem RSok.drop {L : List Int} (h : RSok (some L)) (k : Nat) : RSok (some (L.drop k)) := by
  rintro _ ⟨⟩
  obtain ⟨h1, h2⟩ := h L rfl
  exact ⟨fun x hx => h1 x (List.mem_of_mem_drop hx), by simp; omega⟩
theorem RSok.none : RSok none := fun _ h => by cases h
theorem stU_ok {s : RS} {z : Int} (h : RSok s) : RSok (stU s z).2 := by
  cases s with
  | none => exact RSok.none
  | some L => unfold stU; simp only; split
              · exact RSok.none
              · exact h.drop _
theorem stI_ok {s : RS} (h : RSok s) : RSok (stI s).2 := by
  cases s with
  | none => exact RSok.none
  | some L => unfold stI; simp only; split
              · exact RSok.none
              · exact h.drop _
theorem stC_ok {s : RS} {z : Int} (h : RSok s) : RSok (stC s z).2 := by
  cases s with
  | none => exact RSok.none
  | some L => unfold stC; simp only; split
              · exact RSok.none
              · exact h.drop _
theorem stB_ok {s : RS} {z : Int} (h : RSok s) : RSok (stB s z).2 := by
  cases s with
  | none => exact RSok.none
  | some L => unfold stB; simp only; split
              · exact RSok.none
              · exact h.drop _
def RO (w : World) (g : Nat) (X : Option Addr) (s : RS) : Prop := match s with
  | none => Rf w g
  | some L => Rd w g X L
def RX (w : World) (g : Nat) (X : Option Addr) (s : RS) : Prop := match s with
  | none => Rr w g X [] true
  | some L => Rr w g X L false
theorem RO.keepS {w w' : World} {g : Nat} {X : Option Addr} {s : RS} {S : List Nat} (h : RO w g X s) (k : Keep w.heap.size S w w') (hg : g ∉ S) (hx : ∀ x, x ∈ blks X → x ∉ S) : RO w' g X s := by
  cases s with
  | none => exact Blk.keepS h k hg
  | some L => exact Rd.keepS h k hg hx
theorem RX.keepS {w w' : World} {g : Nat} {X : Option Addr} {s : RS} {S : List Nat} (h : RX w g X s) (k : Keep w.heap.size S w w') (hg : g ∉ S) (hx : ∀ x, x ∈ blks X → x ∉ S) : RX w' g X s := by
  cases s with
  | none => exact Rr.keepS h k hg hx
  | some L => exact Rr.keepS h k hg hx
def Stp (w : World) (g : Nat) (X : Option Addr) (v : Value) (s' : RS) (e : Ending) (w' : World) : Prop :=
  ∃ X', e = .returned v ∧ RO w' g X' s' ∧ Keep w.heap.size [g] w w' ∧ (∀ x, x ∈ blks X' → x ∈ blks X)
def StpX (w : World) (g : Nat) (X : Option Addr) (v : Value) (s' : RS) (e : Ending) (w' : World) : Prop :=
  ∃ X', e = .returned v ∧ RX w' g X' s' ∧ Keep w.heap.size [g] w w' ∧ (∀ x, x ∈ blks X' → x ∈ blks X)
def StpB (w : World) (g : Nat) (X : Option Addr) (B : List Int) (s' : RS) (e : Ending) (w' : World) : Prop :=
  ∃ X' A n c, e = .returned (.slice A n c) ∧ Vw w' A n 1 (octs B) ∧ RO w' g X' s' ∧ Keep w.heap.size [g] w w' ∧ (∀ x, x ∈ blks X' → x ∈ blks X) ∧ (∀ x, x ∈ blks A → w.heap.size ≤ x)
def StpBX (w : World) (g : Nat) (X : Option Addr) (B : List Int) (s' : RS) (e : Ending) (w' : World) : Prop :=
  ∃ X' A n c, e = .returned (.slice A n c) ∧ Vw w' A n 1 (octs B) ∧ RX w' g X' s' ∧ Keep w.heap.size [g] w w' ∧ (∀ x, x ∈ blks X' → x ∈ blks X) ∧ (∀ x, x ∈ blks A → x ≠ g)
theorem ruint_s (w : World) (g : Nat) (X : Option Addr) (s : RS) (z : Int) (hok : RSok s) (hr : RO w g X s) :
    Calls Try.prog 46 #[bptr g, .int .i64 z] w (Stp w g X (.int .u64 (stU s z).1) (stU s z).2) := by
  cases s with
  | none =>
    refine (ruint_failed w g z hr).mono ?_
    rintro e w' ⟨rfl, rfl⟩
    exact ⟨X, rfl, hr, Keep.refl _ _ _, fun x h => h⟩
  | some L =>
    obtain ⟨hO, hL⟩ := hok L rfl
    by_cases h : z < 1 ∨ 8 < z
    · have e1 : stU (some L) z = (0, none) := by unfold stU; simp only; rw [if_pos (by omega)]
      rw [e1]
      refine (ruint_bad w g X L z h hr).mono ?_
      rintro e w' ⟨rfl, h1, h2⟩
      exact ⟨none, rfl, h1, h2, by simp [blks]⟩
    · obtain ⟨sz, rfl⟩ := Int.eq_ofNat_of_zero_le (show 0 ≤ z by omega)
      by_cases hlt : L.length < sz
      · have e1 : stU (some L) (sz : Int) = (0, none) := by unfold stU; simp only; rw [if_pos (by omega)]
        rw [e1]
        refine (ruint_no w g X L sz (by omega) (by omega) hlt hr).mono ?_
        rintro e w' ⟨rfl, h1, h2⟩
        exact ⟨none, rfl, h1, h2, by simp [blks]⟩
      · have e1 : stU (some L) (sz : Int) = (beVal (L.take sz), some (L.drop sz)) := by unfold stU; simp only; rw [if_neg (by omega)]; rfl
        rw [e1]
        refine (ruint_yes w g X L hO sz (by omega) (by omega) (by omega) hr).mono ?_
        rintro e w' ⟨rfl, X', h1, h2, h3⟩
        exact ⟨X', rfl, h1, h2, by rw [h3]; exact fun x h => h⟩
theorem rint_s (w : World) (g : Nat) (X : Option Addr) (s : RS) (hok : RSok s) (hr : RO w g X s) :
    Calls Try.prog 47 #[bptr g] w (Stp w g X (.int .i64 (stI s).1) (stI s).2) := by
  cases s with
  | none =>
    refine (rint_failed w g hr).mono ?_
    rintro e w' ⟨rfl, rfl⟩
    exact ⟨X, rfl, hr, Keep.refl _ _ _, fun x h => h⟩
  | some L =>
    obtain ⟨hO, hL⟩ := hok L rfl
    obtain ⟨n, k, hnk⟩ : ∃ n k, tkI L = (n, k) := ⟨_, _, rfl⟩
    by_cases h : k = 0
    · have e1 : stI (some L) = (0, none) := by unfold stI; simp only; rw [hnk, if_pos h]
      rw [e1]
      subst h
      refine (rint_no w g X L n hO hr hnk).mono ?_
      rintro e w' ⟨rfl, h1, h2⟩
      exact ⟨none, rfl, h1, h2, by simp [blks]⟩
    · have e1 : stI (some L) = (n, some (L.drop k)) := by unfold stI; simp only; rw [hnk, if_neg h]
      rw [e1]
      refine (rint_yes w g X L n k hO hr hnk h).mono ?_
      rintro e w' ⟨rfl, X', h1, h2, h3⟩
      exact ⟨X', rfl, h1, h2, by rw [h3]; exact fun x h => h⟩
theorem rcount_s (w : World) (g : Nat) (X : Option Addr) (s : RS) (most : Int) (hok : RSok s) (hr : RO w g X s) :
    Calls Try.prog 49 #[bptr g, .int .i64 most] w (Stp w g X (.int .i64 (stC s most).1) (stC s most).2) := by
  cases s with
  | none =>
    refine (rcount_failed w g most hr).mono ?_
    rintro e w' ⟨rfl, rfl⟩
    exact ⟨X, rfl, hr, Keep.refl _ _ _, fun x h => h⟩
  | some L =>
    obtain ⟨hO, hL⟩ := hok L rfl
    obtain ⟨n, k, hnk⟩ : ∃ n k, tkC L most = (n, k) := ⟨_, _, rfl⟩
    by_cases h : k = 0
    · have e1 : stC (some L) most = (0, none) := by unfold stC; simp only; rw [hnk, if_pos h]
      rw [e1]
      subst h
      refine (rcount_no w g X L most n hO hr hnk).mono ?_
      rintro e w' ⟨rfl, h1, h2⟩
      exact ⟨none, rfl, h1, h2, by simp [blks]⟩
    · have e1 : stC (some L) most = (n, some (L.drop k)) := by unfold stC; simp only; rw [hnk, if_neg h]
      rw [e1]
      refine (rcount_yes w g X L most n k hO hr hnk h).mono ?_
      rintro e w' ⟨rfl, X', h1, h2, h3⟩
      exact ⟨X', rfl, h1, h2, by rw [h3]; exact fun x h => h⟩
theorem rblob_s (w : World) (g : Nat) (X : Option Addr) (s : RS) (most : Int) (hok : RSok s) (hr : RO w g X s) :
    Calls Try.prog 48 #[bptr g, .int .i64 most] w (StpB w g X (stB s most).1 (stB s most).2) := by
  cases s with
  | none =>
    refine (rblob_failed w g most hr).mono ?_
    rintro e w' ⟨rfl, rfl⟩
    exact ⟨X, none, 0, 0, rfl, Vw.nil _ _, hr, Keep.refl _ _ _, fun x h => h, by simp [blks]⟩
  | some L =>
    obtain ⟨hO, hL⟩ := hok L rfl
    obtain ⟨B, k, hnk⟩ : ∃ B k, tkB L most = (B, k) := ⟨_, _, rfl⟩
    by_cases h : k = 0
    · have e1 : stB (some L) most = ([], none) := by unfold stB; simp only; rw [hnk, if_pos h]
      rw [e1]
      subst h
      refine (rblob_no w g X L B most hO hr hnk).mono ?_
      rintro e w' ⟨rfl, h1, h2⟩
      exact ⟨none, none, 0, 0, rfl, Vw.nil _ _, h1, h2, by simp [blks], by simp [blks]⟩
    · have e1 : stB (some L) most = (B, some (L.drop k)) := by unfold stB; simp only; rw [hnk, if_neg h]
      rw [e1]
      refine (rblob_yes w g X L B most k hO hr hL hnk h).mono ?_
      rintro e w' ⟨A, n, c, X', rfl, _, hs, h1, h2, h3, h4⟩
      exact ⟨X', A, n, c, rfl, hs.vw (by omega), h1, h2, by rw [h3]; exact fun x h => h, h4⟩
end Go.Proofs.Ytijionfhnoffcaa
