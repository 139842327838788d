/- ranges.Has; filesum. -/
import Derived.Test.YtfkbcflgbjncdaaTxI
namespace Go.Proofs.Ytfkbcflgbjncdaa
set_option linter.unusedVariables false
set_option linter.unusedSimpArgs false
open Go.RowKit
/-- the closure of Has -/
theorem has_cl (w : World) (g : Gp) (q : Nat) (n : Int) (v : Bool) (hq : Blk w q 3 #[.int .i64 n]) (hv : (decide (g.f ≤ n) && decide (n < g.t)) = v) : Calls Try.prog 164 #[.agg #[.int .i64 g.f, .int .i64 g.t], .pointer (some ⟨q, 0, none⟩)] w fun e w' => e = .returned (.bool v) ∧ Keep w.heap.size [] w w' := by
  have hc : (w.alloc (.cells #[.int .i64 g.f, .int .i64 g.t] TG)).cell? ⟨q, 0, none⟩ = some (.int .i64 n) := (hq.alloc _).cell 0
  have HV := Lib.hid hv
  clear hv hq
  cases h1 : decide (g.f ≤ n) with
  | true =>
    go_enter Try.func164, Try.ntmps164
    go_wp2_with fail
    go_ret
    refine ⟨?_, (Keep.refl _ _ _).alloc (Nat.le_refl _) _⟩
    rw [← HV.out, h1]; simp
  | false =>
    go_enter Try.func164, Try.ntmps164
    go_wp2_with fail
    go_ret
    refine ⟨?_, (Keep.refl _ _ _).alloc (Nat.le_refl _) _⟩
    rw [← HV.out, h1]; simp
def HxPost (w : World) (L : List Gp) (n : Int) (e : Ending) (w' : World) : Prop :=
  Keep w.heap.size [] w w' ∧ ∃ r : Int, e = .returned (.int .i64 r) ∧ decide (0 ≤ r) = decide (mem L n)
set_option maxHeartbeats 2000000 in
theorem findhas_w (w : World) (X : Option Addr) (m c : Nat) (L : List Gp) (q : Nat) (n : Int) (hm : m ≤ 1000000) (hmc : m ≤ c) (hcm : c ≤ maxLen) (hq : Blk w q 3 #[.int .i64 n]) (hv : Vw w X m 2 (gcs L)) :
    Calls Try.prog 165 #[.slice X m c, .func (.func 164) #[] #[.pointer (some ⟨q, 0, none⟩)]] w (HxPost w L n) := by
  have hl : m = L.length := by have := hv.1; rw [gcells_len] at this; omega
  have hncI : (m : Int) ≤ (c : Int) := by omega
  have hcI : (c : Int) ≤ 9223372036854775807 := by unfold maxLen at hcm; omega
  have HV := Lib.hid hv
  have HL := Lib.hid hl
  have HQ := Lib.hid hq
  clear hv hl hq
  go_enter Try.func165, Try.ntmps165
  go_wp2_with fail
  go_loopw [8] (fun j wr => ∃ (k : Nat), k ≤ m ∧ j = .int .i64 k ∧ ¬ mem (L.take k) n ∧ Keep w.heap.size [] w wr) (fun j _ => m - (intOf j).toNat)
  case atStart => exact ⟨0, Nat.zero_le _, rfl, by simp [mem_nil], Keep.refl _ _ _⟩
  case round =>
    obtain ⟨k, hk, rfl, hgd, hkw⟩ := hrel
    have GD := Lib.hid hgd
    have KW := Lib.hid hkw
    clear hgd hkw
    by_cases hlt : k < m
    · have hki : (k : Int) < (m : Int) := by omega
      obtain ⟨b, o, g, rfl, hgk, d0, d1⟩ := gap_at (HV.out.keep0 KW.out) hlt
      have HGK := Lib.hid hgk
      have Q := Lib.hid (HQ.out.keepS KW.out (by simp))
      clear hgk
      cases he : (decide (g.f ≤ n) && decide (n < g.t)) with
      | true =>
        have HE := Lib.hid he
        clear he
        go_wp2_with fail
        refine (has_cl _ g q n true Q.out HE.out).mono ?_
        rintro e w1 ⟨rfl, hk1⟩
        have K1 := Lib.hid (KW.out.chain0 (Nat.le_refl _) hk1)
        clear hk1
        go_wp2_with fail
        go_ret
        refine ⟨K1.out, k, rfl, ?_⟩
        have hb := HE.out
        simp only [Bool.and_eq_true, decide_eq_true_eq] at hb
        rw [decide_eq_true (show (0 : Int) ≤ (k : Int) by omega), decide_eq_true (show mem L n from ⟨g, List.mem_of_getElem? HGK.out, hb⟩)]
      | false =>
        have HE := Lib.hid he
        clear he
        go_wp2_with fail
        refine (has_cl _ g q n false Q.out HE.out).mono ?_
        rintro e w1 ⟨rfl, hk1⟩
        have K1 := Lib.hid (KW.out.chain0 (Nat.le_refl _) hk1)
        clear hk1
        go_wp2_with fail
        go_roundw
        case rel =>
          refine ⟨k + 1, by omega, by go_num, ?_, K1.out⟩
          rw [mem_step HGK.out]
          have hb := HE.out
          simp only [Bool.and_eq_false_iff, decide_eq_false_iff_not] at hb
          rintro (h | h)
          · exact GD.out h
          · omega
        case measure => simp [intOf] <;> omega
    · obtain rfl : k = m := by omega
      go_wp2_with fail
      go_ret
      refine ⟨KW.out, -1, rfl, ?_⟩
      have h := GD.out
      rw [HL.out, List.take_length] at h
      rw [decide_eq_false h]; rfl
set_option maxHeartbeats 1000000 in
theorem has_w (w : World) (X : Option Addr) (m c : Nat) (L : List Gp) (n : Int) (v : Bool) (hm : m ≤ 1000000) (hmc : m ≤ c) (hcm : c ≤ maxLen) (hv : Vw w X m 2 (gcs L)) (hb : decide (mem L n) = v) : Calls Try.prog 152 #[.slice X m c, .int .i64 n] w fun e w' => e = .returned (.bool v) ∧ Keep w.heap.size [] w w' := by
  have HV := Lib.hid hv
  have HBV := Lib.hid hb
  clear hv hb
  have hka : Keep w.heap.size [] w (w.alloc (.cells #[.int .i64 n] 3)) := (Keep.refl _ _ _).alloc (Nat.le_refl _) _
  have HKA := Lib.hid hka
  clear hka
  go_enter Try.func152, Try.ntmps152
  go_wp2_with fail
  refine Calls.mono (R := fun e w' => e = .returned (.bool v) ∧ Keep (w.alloc (.cells #[.int .i64 n] 3)).heap.size [] (w.alloc (.cells #[.int .i64 n] 3)) w') ?_ ?_
  · obtain ⟨W, hW⟩ : ∃ W, W = w.alloc (.cells #[.int .i64 n] 3) := ⟨_, rfl⟩
    obtain ⟨q, hq⟩ : ∃ q, q = w.heap.size := ⟨_, rfl⟩
    have hb : Blk W q 3 #[.int .i64 n] := by rw [hW, hq]; exact Blk.new _ _ _
    have hvw : Vw W X m 2 (gcs L) := by rw [hW]; exact HV.out.keep0 HKA.out
    rw [← hW, ← hq]
    have B := Lib.hid hb
    have V := Lib.hid hvw
    clear hW hq hb hvw HV HKA
    go_enter Try.func163, Try.ntmps163
    go_wp2_with fail
    refine (findhas_w _ X m c L q n (by omega) hmc hcm B.out V.out).mono ?_
    rintro e w1 ⟨hk1, r, rfl, hr⟩
    have K1 := Lib.hid hk1
    have R := Lib.hid hr
    clear hk1 hr
    go_wp2_with fail
    go_ret
    refine ⟨?_, K1.out⟩
    rw [← HBV.out, ← R.out]
    rfl
  · rintro e w1 ⟨rfl, hk1⟩
    have K1 := Lib.hid (HKA.out.chain0 (Nat.le_refl _) hk1)
    clear hk1
    go_wp2_with fail
    go_ret
    exact ⟨rfl, K1.out⟩
/-- the checksum of bytes that begin at place k -/
def sumF : Nat → Int → List Int → Int
  | _, s, [] => s
  | k, s, x :: l => sumF (k + 1) ((s + x * 2 ^ (8 * (3 - k % 4))) % 4294967296) l
theorem sumF_snoc : ∀ (l : List Int) (k : Nat) (s x : Int), sumF k s (l ++ [x]) = (sumF k s l + x * 2 ^ (8 * (3 - (k + l.length) % 4))) % 4294967296
  | [], k, s, x => by simp [sumF]
  | y :: l, k, s, x => by
    rw [List.cons_append, sumF, sumF_snoc l]
    simp only [sumF, List.length_cons]
    rw [show k + 1 + l.length = k + (l.length + 1) by omega]
def sumO (l : List Int) : Int := sumF 0 0 l
theorem sum_step {L : List Int} {k j : Nat} {x : Int} (hx : L[k]? = some x) (hj : k % 4 = j) : sumF 0 0 (L.take (k + 1)) = (sumF 0 0 (L.take k) + x * 2 ^ (8 * (3 - j))) % 4294967296 := by
  have hlt := (List.getElem?_eq_some_iff.1 hx).1
  rw [List.take_add_one, hx, Option.toList_some, sumF_snoc, Nat.zero_add, List.length_take, Nat.min_eq_left (by omega), hj]
set_option maxRecDepth 100000 in
set_option maxHeartbeats 2000000 in
theorem piece_w (w : World) (X : Option Addr) (m c : Nat) (L : List Int) (hm : m ≤ 1000000) (hmc : m ≤ c) (hv : Vw w X m 1 (octs L)) (hL : ∀ x ∈ L, 0 ≤ x ∧ x ≤ 255) : Calls Try.prog 151 #[.int .i64 0, .slice X m c] w fun e w' => e = .returned (.int .u32 (sumO L)) ∧ w' = w := by
  have hml : m = L.length := by have := hv.1; simpa using this.symm
  have HV := Lib.hid hv
  have HML := Lib.hid hml
  have HL := Lib.hid hL
  clear hv hml hL
  go_enter Try.func151, Try.ntmps151
  go_wp2_with fail
  go_loopw [5, 13] (fun ss jj wr => ∃ (k : Nat), k ≤ m ∧ jj = .int .i64 k ∧ ss = .int .u32 (sumF 0 0 (L.take k)) ∧ wr = w) (fun _ jj _ => m - (intOf jj).toNat)
  case atStart => exact ⟨0, Nat.zero_le _, rfl, rfl, rfl⟩
  case round =>
    obtain ⟨k, hk, rfl, rfl, rfl⟩ := hrel
    by_cases hlt : k < m
    · have hki : (k : Int) < (m : Int) := by omega
      obtain ⟨b, o, u, rfl, hb, hu, hc⟩ := HV.out.at_ hlt
      obtain ⟨x, hx, rfl⟩ : ∃ x, L[k]? = some x ∧ u = .int .u8 x := by
        rw [List.getElem?_map] at hu
        cases hx : L[k]? with
        | none => rw [hx] at hu; cases hu
        | some x => rw [hx] at hu; exact ⟨x, rfl, (Option.some.inj hu).symm⟩
      have hxr := HL.out x (List.mem_of_getElem? hx)
      have HX := Lib.hid hx
      clear hu hx
      obtain ⟨s, hs⟩ : ∃ s, s = sumF 0 0 (L.take k) := ⟨_, rfl⟩
      rw [← hs]
      have HS := Lib.hid hs
      clear hs
      obtain ⟨j, hj⟩ : ∃ j, j = k % 4 := ⟨_, rfl⟩
      have e1 : ((k : Int).tmod 4) = (j : Int) := by rw [Int.tmod_eq_emod_of_nonneg (by omega)]; omega
      have ex : IntKind.u32.wrap x = x := by rw [IntKind.wrap_u32]; omega
      have HJ := Lib.hid hj
      have hj4 : j < 4 := by omega
      clear hj
      obtain h0 | h0 | h0 | h0 : j = 0 ∨ j = 1 ∨ j = 2 ∨ j = 3 := by omega
      · replace e1 : (k : Int).tmod 4 = 0 := by rw [e1, h0]; rfl
        go_wp2_with fail
        go_roundw
        case rel =>
          refine ⟨k + 1, by omega, by go_num, ?_, by trivial⟩
          rw [sum_step HX.out (by have := HJ.out; omega : k % 4 = 0), ← HS.out]
          try simp
        case measure => simp [intOf] <;> omega
      · replace e1 : (k : Int).tmod 4 = 1 := by rw [e1, h0]; rfl
        go_wp2_with fail
        go_roundw
        case rel =>
          refine ⟨k + 1, by omega, by go_num, ?_, by trivial⟩
          rw [sum_step HX.out (by have := HJ.out; omega : k % 4 = 1), ← HS.out]
          try simp
        case measure => simp [intOf] <;> omega
      · replace e1 : (k : Int).tmod 4 = 2 := by rw [e1, h0]; rfl
        go_wp2_with fail
        go_roundw
        case rel =>
          refine ⟨k + 1, by omega, by go_num, ?_, by trivial⟩
          rw [sum_step HX.out (by have := HJ.out; omega : k % 4 = 2), ← HS.out]
          try simp
        case measure => simp [intOf] <;> omega
      · replace e1 : (k : Int).tmod 4 = 3 := by rw [e1, h0]; rfl
        go_wp2_with fail
        go_roundw
        case rel =>
          refine ⟨k + 1, by omega, by go_num, ?_, by trivial⟩
          rw [sum_step HX.out (by have := HJ.out; omega : k % 4 = 3), ← HS.out]
          try simp
        case measure => simp [intOf] <;> omega
    · obtain rfl : k = m := by omega
      go_wp2_with fail
      go_ret
      refine ⟨?_, rfl⟩
      rw [HML.out, List.take_length]
      rfl
theorem sum_w (w : World) (X : Option Addr) (m c : Nat) (L : List Int) (hm : m ≤ 1000000) (hmc : m ≤ c) (hv : Vw w X m 1 (octs L)) (hL : ∀ x ∈ L, 0 ≤ x ∧ x ≤ 255) : Calls Try.prog 128 #[.slice X m c] w fun e w' => e = .returned (.int .u32 (sumO L)) ∧ w' = w := by
  have HV := Lib.hid hv
  have HL := Lib.hid hL
  clear hv hL
  go_enter Try.func128, Try.ntmps128
  go_wp2_with fail
  refine (piece_w _ X m c L hm hmc HV.out HL.out).mono ?_
  rintro e w1 ⟨rfl, rfl⟩
  go_wp2_with fail
  go_ret
  exact ⟨rfl, rfl⟩
end Go.Proofs.Ytfkbcflgbjncdaa
