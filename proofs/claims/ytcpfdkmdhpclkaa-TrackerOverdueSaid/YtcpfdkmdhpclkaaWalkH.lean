/- The law's helpers: ack, has, pairs; Clone of nil. -/
import Derived.Test.YtcpfdkmdhpclkaaWalkG
namespace Go.Proofs.Ytcpfdkmdhpclkaa
set_option linter.unusedVariables false
set_option linter.unusedSimpArgs false
open Go.RowKit
@[go_sem] theorem eqP2 (a b c d : Int) (w : World) : (Op.equalIn 10000 34 (.agg #[.int .i64 a, .int .i64 b]) (.agg #[.int .i64 c, .int .i64 d])).run Try.prog w = .ok (a == c && b == d) w := by
  have u3 := Try.underlying3
  have a3 := Try.isAgg3
  have z3 := Try.sizeOf3
  rw [show (10000 : Nat) = 9999 + 1 from rfl, Op.equalIn]
  simp only [Sem.run_bind, run_underlying Try.underlying34, Result.andThen_ok]
  simp only [Std.Legacy.Range.forIn_eq_forIn_range', Std.Legacy.Range.size, Nat.sub_zero, Nat.add_sub_cancel, Nat.div_one, List.range'_succ, List.range'_zero, List.forIn_cons, List.forIn_nil]
  go_simp
  by_cases h1 : a = c <;> by_cases h2 : b = d <;> simp [h1, h2]
set_option maxHeartbeats 400000 in
theorem ack_any (w : World) (s : Int) : Calls Try.prog 20 #[.int .i64 s] w fun e w' => e = .returned (aagg ⟨1, 3, s, 0⟩) ∧ Keep w.heap.size [] w w' := by
  go_enter Try.func20, Try.ntmps20
  go_wp2_with fail
  refine bodyPost_ret (v := aagg ⟨1, 3, s, 0⟩) (by simp [results, Try.results20, go_sem]) rfl ⟨rfl, ?_⟩
  exact (Keep.refl _ _ _).alloc (Nat.le_refl _) _
set_option maxHeartbeats 400000 in
theorem clone_nil (w : World) : Calls Try.prog 19 #[.pointer none] w fun e w' => e = .returned (.pointer none) ∧ w = w' := by
  go_enter Try.func19, Try.ntmps19
  go_wp2_with fail
  refine (tvalid_nil _).mono ?_
  rintro e w' ⟨rfl, rfl⟩
  go_wp2_with fail
  go_ret
  exact ⟨rfl, rfl⟩
def ints (L : List Int) : List Value := L.map (fun x => .int .i64 x)
def hasP (L : List Int) (n : Int) : Bool := L.any (fun x => x == n)
theorem pcells_at (L : List (Int × Int)) (k : Nat) (p : Int × Int) (h : L[k]? = some p) : (pcells L)[k * 2]? = some (.int .i64 p.1) ∧ (pcells L)[k * 2 + 1]? = some (.int .i64 p.2) := by
  induction L generalizing k with
  | nil => simp at h
  | cons q L ih =>
    cases k with
    | zero => simp at h; subst h; exact ⟨rfl, rfl⟩
    | succ k =>
      have := ih k (by simpa using h)
      have e : (k + 1) * 2 = k * 2 + 1 + 1 := by omega
      rw [e]
      exact this
set_option maxHeartbeats 1000000 in
theorem has_any (w : World) (X : Option Addr) (m c : Nat) (L : List Int) (n : Int) (v : Bool) (hv : hasP L n = v) (hm : m = L.length) (hmc : m ≤ c) (hcm : c ≤ maxLen) (h : Vw w X m 1 (ints L)) :
    Calls Try.prog 10 #[.slice X m c, .int .i64 n] w fun e w' => e = .returned (.bool v) ∧ w = w' := by
  have HV := Lib.hid hv
  have HM := Lib.hid hm
  have HW := Lib.hid h
  have hcm' : (c : Int) ≤ 9223372036854775807 := by unfold maxLen at hcm; omega
  have hmc' : (m : Int) ≤ (c : Int) := by omega
  clear hv hm h hmc hcm
  go_enter Try.func10, Try.ntmps10
  go_wp2_with fail
  go_loop [5] (fun i => ∃ k : Nat, k ≤ m ∧ i = .int .i64 k ∧ (∀ j x, j < k → L[j]? = some x → x ≠ n)) (fun i => m - (intOf i).toNat)
  case atStart => exact ⟨0, Nat.zero_le _, rfl, fun j x hj => by omega⟩
  case round =>
    obtain ⟨k, hk, rfl, hpre⟩ := hrel
    have HPRE := Lib.hid hpre
    clear hpre
    by_cases hlt : k < m
    · obtain ⟨b, o, u, hX, hb, hu, hc⟩ := HW.out.at_ hlt
      subst hX
      obtain ⟨x, hx, rfl⟩ : ∃ x, L[k]? = some x ∧ (.int .i64 x : Value) = u := by
        unfold ints at hu
        rw [List.getElem?_map] at hu
        cases hL : L[k]? with
        | none => rw [hL] at hu; simp at hu
        | some x => rw [hL] at hu; exact ⟨x, rfl, by simpa using hu⟩
      have HX := Lib.hid hx
      have hkm : (k : Int) < (m : Int) := by omega
      clear hu hx
      by_cases hh : x = n
      · have hv : v = true := by
          rw [← HV.out]
          unfold hasP
          rw [List.any_eq_true]
          exact ⟨x, List.mem_of_getElem? HX.out, by simp [hh]⟩
        subst hv
        go_wp2_with fail
        go_ret
        exact ⟨rfl, rfl⟩
      · go_wp2_with fail
        go_round
        case rel =>
          refine ⟨k + 1, by omega, by go_num, fun j y hj hy => ?_⟩
          by_cases hjk : j = k
          · subst hjk; rw [HX.out] at hy; cases hy; exact hh
          · exact HPRE.out j y (by omega) hy
        case measure => simp [intOf]; omega
    · obtain rfl : k = m := by omega
      have hv : v = false := by
        rw [← HV.out]
        unfold hasP
        rw [List.any_eq_false]
        intro x hx
        obtain ⟨j, hj⟩ := List.mem_iff_getElem?.1 hx
        have := HPRE.out j x (by have := (List.getElem?_eq_some_iff.1 hj).1; have := HM.out; omega) hj
        simpa using this
      subst hv
      go_wp2_with fail
      go_ret
      exact ⟨rfl, rfl⟩
set_option maxHeartbeats 1000000 in
theorem pairs_eq (w : World) (X Y : Option Addr) (m c d : Nat) (L : List (Int × Int)) (hm : m = L.length) (hmc : m ≤ c) (hcm : c ≤ maxLen) (hmd : m ≤ d) (hdm : d ≤ maxLen) (hx : Vw w X m 2 (pcells L)) (hy : Vw w Y m 2 (pcells L)) :
    Calls Try.prog 11 #[.slice X m c, .slice Y m d] w fun e w' => e = .returned (.bool true) ∧ Keep w.heap.size [] w w' := by
  have HM := Lib.hid hm
  have HX := Lib.hid hx
  have HY := Lib.hid hy
  have hcm' : (c : Int) ≤ 9223372036854775807 := by unfold maxLen at hcm; omega
  have hmc' : (m : Int) ≤ (c : Int) := by omega
  have hdm' : (d : Int) ≤ 9223372036854775807 := by unfold maxLen at hdm; omega
  have hmd' : (m : Int) ≤ (d : Int) := by omega
  clear hm hx hy hmc hcm hmd hdm
  go_enter Try.func11, Try.ntmps11
  go_wp2_with fail
  go_loopw [5] (fun i wr => ∃ k : Nat, k ≤ m ∧ i = .int .i64 k ∧ ∃ q, wr = w.drewN q) (fun i _ => m - (intOf i).toNat)
  case atStart => exact ⟨0, Nat.zero_le _, rfl, 0, rfl⟩
  case round =>
    obtain ⟨k, hk, rfl, q, rfl⟩ := hrel
    by_cases hlt : k < m
    · have hkm : (k : Int) < (m : Int) := by omega
      obtain ⟨p, hp⟩ : ∃ p, L[k]? = some p := ⟨L[k]'(by have := HM.out; omega), List.getElem?_eq_getElem _⟩
      obtain ⟨hp1, hp2⟩ := pcells_at L k p hp
      obtain ⟨bx, ox, hX, hbx, hcx⟩ := HX.out.2 (by omega)
      obtain ⟨by', oy, hY, hby, hcy⟩ := HY.out.2 (by omega)
      subst hX hY
      have x0 : w.cell? ⟨bx, ox + k * 2, none⟩ = some (.int .i64 p.1) := hcx _ _ hp1
      have x1 : w.cell? ⟨bx, ox + k * 2 + 1, none⟩ = some (.int .i64 p.2) := hcx _ _ hp2
      have y0 : w.cell? ⟨by', oy + k * 2, none⟩ = some (.int .i64 p.1) := hcy _ _ hp1
      have y1 : w.cell? ⟨by', oy + k * 2 + 1, none⟩ = some (.int .i64 p.2) := hcy _ _ hp2
      clear hcx hcy hp1 hp2 hp
      go_wp2_with fail
      go_quiet (fail)
      go_wp2_with fail
      refine ⟨⟨k + 1, by omega, by go_num, _, rfl⟩, by simp [intOf]; omega⟩
    · obtain rfl : k = m := by omega
      go_wp2_with fail
      go_ret
      exact ⟨rfl, (Keep.refl _ _ _).drewN _⟩
end Go.Proofs.Ytcpfdkmdhpclkaa
