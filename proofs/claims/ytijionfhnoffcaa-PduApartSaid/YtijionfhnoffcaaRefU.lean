/- The reference's Uint and TakeUint: their contracts. -/
import Derived.Test.YtijionfhnoffcaaOctW
namespace Go.Proofs.Ytijionfhnoffcaa
set_option linter.unusedVariables false
set_option linter.unusedSimpArgs false
open Go.RowKit
set_option maxHeartbeats 1000000 in
theorem refuint_bad (w : World) (n z : Int) (h : z < 1 ∨ 8 < z) :
    Calls Try.prog 26 #[.int .u64 n, .int .i64 z] w fun e w' => e = .returned (.slice none 0 0) ∧ w = w' := by
  by_cases h1 : z < 1
  all_goals
    go_enter Try.func26, Try.ntmps26
    go_wp2_with fail
    go_ret
    exact ⟨rfl, rfl⟩
theorem be_drop (n : Int) : ∀ (sz j : Nat), j ≤ sz → (be n sz).drop (sz - j) = be n j
  | 0, j, h => by
    obtain rfl : j = 0 := by omega
    rfl
  | k + 1, j, h => by
    by_cases hj : j = k + 1
    · subst hj; simp
    · have := be_drop n k j (by omega)
      have e : k + 1 - j = (k - j) + 1 := by omega
      rw [e, be, List.drop_succ_cons, this]
/-- octets of the number that are there: j of them still zero -/
def bez (n : Int) (sz j : Nat) : List Int := List.replicate j 0 ++ be n (sz - j)
theorem bez_full (n : Int) (sz : Nat) : bez n sz 0 = be n sz := by simp [bez]
theorem bez_set (n : Int) (sz k : Nat) (h : k < sz) : (bez n sz (k + 1)).set k (n / 256 ^ (sz - (k + 1)) % 256) = bez n sz k := by
  have e : sz - k = (sz - (k + 1)) + 1 := by omega
  rw [bez, bez, e, be, List.replicate_succ', List.append_assoc, List.set_append_right _ _ (by simp)]
  simp
theorem made_octs (n : Nat) : (madeCells (Value.int .u8 0).cells (n * 1)).toList = octs (List.replicate n 0) := by
  have e : (Value.int .u8 0).cells = #[Value.int .u8 0] := rfl
  unfold madeCells
  rw [e]
  apply List.ext_getElem
  · simp [octs]
  · intro i h1 h2
    simp [octs, Nat.mod_one]
def NewOcts (w : World) (L : List Int) (e : Ending) (w' : World) : Prop :=
  ∃ A n c, e = .returned (.slice A n c) ∧ n = L.length ∧ Sl w' 5 1 A n c (octs L) ∧ Keep w.heap.size [] w w' ∧ ∀ x, x ∈ blks A → w.heap.size ≤ x
theorem div_div256 (n : Int) (hn : 0 ≤ n) (k : Nat) : n / 256 ^ k / 256 = n / 256 ^ (k + 1) := by
  rw [Int.pow_succ, ← Int.ediv_ediv_of_nonneg (Int.le_of_lt (Int.pow_pos (by decide)))]
set_option maxHeartbeats 2000000 in
theorem refuint_any (w : World) (n : Int) (hn0 : 0 ≤ n) (hn1 : n < 18446744073709551616) (sz : Nat) (h1 : 1 ≤ sz) (h8 : sz ≤ 8) :
    Calls Try.prog 26 #[.int .u64 n, .int .i64 (sz : Int)] w (NewOcts w (be n sz)) := by
  obtain ⟨i0, hi0, hz0, hz1, hz2⟩ := info_parts infoU8
  have hb : (1 : Int) ≤ (sz : Int) := by omega
  have hb8 : (sz : Int) ≤ 8 := by omega
  go_enter Try.func26, Try.ntmps26
  go_wp2_with (at_make
               refine wpList_make_full _ rfl (.tmp 13) (.tmp 13) 24 rfl 0 5 i0 _ 1 Try.underlying24 hi0 hz0 hz1 .i64 .i64 _ _ sz rfl rfl rfl rfl (by rw [hz2]; omega) (by unfold maxLen; omega) (Nat.zero_le _) ?_
               intro w1 hown hgr
               have HS := Lib.hid hown
               have HK : Hid (Keep w.heap.size [] w w1) := Keep.of_grown hgr (Nat.le_refl _) (by simp)
               clear hown hgr)
  go_loopw [0, 6] (fun u i wr => ∃ j : Nat, j ≤ sz ∧ i = .int .i64 ((j : Int) - 1) ∧ u = .int .u64 (n / 256 ^ (sz - j)) ∧ Sl wr 5 1 (some ⟨w.heap.size, 0, none⟩) sz sz (octs (bez n sz j)) ∧ Keep w.heap.size [] w wr) (fun _ i _ => (intOf i + 1).toNat)
  case atStart => 
    refine ⟨sz, Nat.le_refl _, rfl, by simp, ?_, HK.out⟩
    have := HS.out
    rw [made_octs] at this
    unfold Sl
    simpa [bez, be] using this
  case round =>
    obtain ⟨j, hj, rfl, rfl, hs, hk⟩ := hrel
    have HS1 := Lib.hid hs
    have HK1 := Lib.hid hk
    clear hs hk
    cases j with
    | zero =>
      go_wp2_with fail
      go_ret
      refine ⟨_, sz, sz, rfl, (be_length _ _).symm, ?_, HK1.out, fun x hx => ?_⟩
      · have := HS1.out; rwa [bez_full] at this
      · simp [blks] at hx; omega
    | succ k =>
      obtain ⟨v, hv⟩ : ∃ v, n / 256 ^ (sz - (k + 1)) = v := ⟨_, rfl⟩
      have v0 : 0 ≤ v := by rw [← hv]; exact Int.ediv_nonneg hn0 (Int.le_of_lt (Int.pow_pos (by decide)))
      have v1 : v < 18446744073709551616 := by
        rw [← hv]
        have : n / 256 ^ (sz - (k + 1)) ≤ n := Int.ediv_le_self _ hn0
        omega
      rw [hv]
      have HV := Lib.hid hv
      clear hv
      have c0 : ∃ u, wr.cell? ⟨w.heap.size, k, none⟩ = some u := by
        obtain ⟨g, hg, _, hc⟩ := HS1.out.cell (j := k) (by omega)
        cases hg
        rw [hc]
        exact ⟨(octs (bez n sz (k + 1)))[k]'(by have := HS1.out.1; omega), List.getElem?_eq_getElem _⟩
      obtain ⟨u, c0⟩ := c0
      have f0 : wr.frozen? ⟨w.heap.size, k, none⟩ = false := World.ownsRow.frozenAt HS1.out k
      have e : (((k + 1 : Nat) : Int) - 1) = (k : Int) := by omega
      rw [e]
      clear e
      have hk8 : (k : Int) < (sz : Int) := by omega
      have hk0 : (0 : Int) ≤ (k : Int) := by omega
      have u8 : IntKind.u8.wrap (v % 256) = v % 256 := by rw [u8_wrap]; omega
      go_wp2_with fail
      go_roundw
      case rel =>
        have hst := World.ownsRow.stored HS1.out k (.int .u8 (v % 256))
        refine ⟨k, by omega, rfl, ?_, ?_, HK1.out.setN (Nat.le_refl _)⟩
        · rw [← HV.out, div_div256 n hn0]
          congr 3
          omega
        · have h2 := hst.1
          rw [octs, ← List.map_set, ← HV.out, bez_set n sz k (by omega)] at h2
          rw [← HV.out]
          exact h2
      case measure => simp [intOf] <;> omega

def TakeU (L : List Int) (sz : Int) : Int × Int := if sz < 1 ∨ 8 < sz ∨ (L.length : Int) < sz then (0, 0) else (beVal (L.take sz.toNat), sz)
set_option maxHeartbeats 1000000 in
theorem takeuint_no (w : World) (X : Option Addr) (m c : Nat) (z : Int) (h : z < 1 ∨ 8 < z ∨ (m : Int) < z) :
    Calls Try.prog 51 #[.slice X m c, .int .i64 z] w fun e w' => e = .returned (.tuple #[.int .u64 0, .int .i64 0]) ∧ w = w' := by
  by_cases h1 : z < 1
  · go_enter Try.func51, Try.ntmps51
    go_wp2_with fail
    go_ret2
    exact ⟨rfl, rfl⟩
  · by_cases h2 : 8 < z
    all_goals
      go_enter Try.func51, Try.ntmps51
      go_wp2_with fail
      go_ret2
      exact ⟨rfl, rfl⟩
set_option maxHeartbeats 1000000 in
theorem takeuint_yes (w : World) (X : Option Addr) (m c : Nat) (L : List Int) (hO : Oct L) (hv : Vw w X m 1 (octs L)) (sz : Nat) (h1 : 1 ≤ sz) (h8 : sz ≤ 8) (hle : sz ≤ L.length) :
    Calls Try.prog 51 #[.slice X m c, .int .i64 (sz : Int)] w fun e w' =>
      e = .returned (.tuple #[.int .u64 (beVal (L.take sz)), .int .i64 (sz : Int)]) ∧ w = w' := by
  have hlm : L.length = m := by simpa [octs] using hv.1
  have hb1 : (1 : Int) ≤ (sz : Int) := by omega
  have hb8 : (sz : Int) ≤ 8 := by omega
  have hms : (sz : Int) ≤ (m : Int) := by omega
  obtain ⟨bx, ox, rfl, hbx, hcells⟩ := hv.2 (by omega)
  have HM := Lib.hid hlm
  have HO := Lib.hid hO
  have HC := Lib.hid hcells
  clear hv hO hcells hlm
  go_enter Try.func51, Try.ntmps51
  go_wp2_with fail
  go_loop [6, 7] (fun n i => ∃ k : Nat, k ≤ sz ∧ i = .int .i64 k ∧ n = .int .u64 (beVal (L.take k))) (fun _ i => sz - (intOf i).toNat)
  case atStart => exact ⟨0, Nat.zero_le _, rfl, rfl⟩
  case round =>
    obtain ⟨k, hk, rfl, rfl⟩ := hrel
    have hO2 : Oct (L.take k) := fun y hy => HO.out y (List.mem_of_mem_take hy)
    have hbd := beVal_bd k (L.take k) hO2 (by simp; have := HM.out; omega)
    by_cases hlt : k < sz
    · obtain ⟨x, hx⟩ : ∃ x, L[k]? = some x := ⟨L[k]'(by have := HM.out; omega), List.getElem?_eq_getElem _⟩
      have c0 : w.cell? ⟨bx, ox + k, none⟩ = some (.int .u8 x) := HC.out k _ (by rw [List.getElem?_map, hx]; rfl)
      have hxo := HO.out x (List.mem_of_getElem? hx)
      obtain ⟨x0, x1⟩ := hxo
      have hT : Hid (L.take (k + 1) = L.take k ++ [x]) := by
        unfold Hid; rw [List.take_add_one, hx]; rfl
      have hp : (256 : Int) ^ k ≤ 72057594037927936 := by
        have h7 : k = 0 ∨ k = 1 ∨ k = 2 ∨ k = 3 ∨ k = 4 ∨ k = 5 ∨ k = 6 ∨ k = 7 := by omega
        rcases h7 with rfl | rfl | rfl | rfl | rfl | rfl | rfl | rfl <;> decide
      obtain ⟨v, hv⟩ : ∃ v, beVal (L.take k) = v := ⟨_, rfl⟩
      rw [hv] at hbd
      have v0 : 0 ≤ v := hbd.1
      have v1 : v < 72057594037927936 := by omega
      have HVV := Lib.hid hv
      rw [hv]
      clear hx hbd hp hv hO2
      have hkm : (k : Int) < (m : Int) := by omega
      have q1 : IntKind.u64.wrap (v * 256) = v * 256 := u64_in _ (by omega) (by omega)
      have q2 : IntKind.u64.wrap (v * 256 + x) = v * 256 + x := u64_in _ (by omega) (by omega)
      go_wp2_with fail
      go_round
      case rel => exact ⟨k + 1, by omega, by go_num, by rw [hT.out, beVal_snoc, HVV.out]⟩
      case measure => simp [intOf]; omega
    · obtain rfl : k = sz := by omega
      obtain ⟨v, hv⟩ : ∃ v, beVal (L.take k) = v := ⟨_, rfl⟩
      rw [hv]
      have HVV := Lib.hid hv
      clear hv hO2 hbd
      go_wp2_with fail
      go_ret2
      exact ⟨by rw [HVV.out]; rfl, rfl⟩
end Go.Proofs.Ytijionfhnoffcaa
