/- The masks of the syndrome. -/
import Derived.Test.YtfkbcflgbjncdaaEccB
import Derived.Test.YtfkbcflgbjncdaaOctG
import Derived.Deep.DeepCutAuto
namespace Go.Proofs.Ytfkbcflgbjncdaa
set_option linter.unusedVariables false
set_option linter.unusedSimpArgs false
open Go.RowKit
def mkU : Nat → Nat → Nat
  | 0, _ => 0
  | i + 1, k => if 1 ≤ i ∧ i / 2 ^ k % 2 = 1 then mkU i k ||| 2 ^ i else mkU i k
theorem mkU_39 : ∀ k, k < 6 → mkU 39 k = mk k := by decide +kernel
theorem mkU_lt : ∀ (i k : Nat), mkU i k < 2 ^ i
  | 0, k => by simp [mkU]
  | i + 1, k => by
    have h := mkU_lt i k
    have h2 : (2 : Nat) ^ i < 2 ^ (i + 1) := Nat.pow_lt_pow_right (by decide) (by omega)
    rw [mkU]
    split
    · exact Nat.or_lt_two_pow (by omega) h2
    · omega
theorem mkU_0 (k : Nat) : mkU 1 k = 0 := by simp [mkU]
def cM (f : Nat → Nat) : Array Value := #[.int .u64 (f 0), .int .u64 (f 1), .int .u64 (f 2), .int .u64 (f 3), .int .u64 (f 4), .int .u64 (f 5)]
theorem cM_at (f : Nat → Nat) (k : Nat) (h : k < 6) : (cM f)[k]? = some (.int .u64 (f k)) := by
  match k, h with
  | 0, _ => rfl
  | 1, _ => rfl
  | 2, _ => rfl
  | 3, _ => rfl
  | 4, _ => rfl
  | 5, _ => rfl
theorem cM_set (f : Nat → Nat) (k v : Nat) (h : k < 6) : (cM f).setIfInBounds k (.int .u64 (v : Int)) = cM (fun j => if j = k then v else f j) := by
  match k, h with
  | 0, _ => rfl
  | 1, _ => rfl
  | 2, _ => rfl
  | 3, _ => rfl
  | 4, _ => rfl
  | 5, _ => rfl
theorem cM_ext {f g : Nat → Nat} (h : ∀ j, j < 6 → f j = g j) : cM f = cM g := by
  unfold cM; rw [h 0 (by omega), h 1 (by omega), h 2 (by omega), h 3 (by omega), h 4 (by omega), h 5 (by omega)]
abbrev TM : TypeId := 200
set_option maxHeartbeats 2000000 in
theorem masks_w (w : World) : Calls Try.prog 145 #[] w fun e w' => e = .returned (.agg (cM mk)) ∧ Keep w.heap.size [] w w' := by
  obtain ⟨W0, hW0⟩ : ∃ W, W = (w.alloc (.cells (cM (fun _ => 0)) TM)).alloc (.cells (cM (fun _ => 0)) TM) := ⟨_, rfl⟩
  have k1 : Keep w.heap.size [] w W0 := by rw [hW0]; exact ((Keep.refl _ _ w).alloc (Nat.le_refl _) _).alloc (by simp) _
  have hA : Blk W0 w.heap.size TM (cM (fun _ => 0)) := by rw [hW0]; exact (Blk.new _ _ _).alloc _
  have hB : Blk W0 (w.heap.size + 1) TM (cM (fun _ => 0)) := by
    rw [hW0]
    have := Blk.new (w.alloc (.cells (cM (fun _ => 0)) TM)) TM (cM (fun _ => 0))
    simpa using this
  go_enter Try.func145, Try.ntmps145
  go_upto_region 2 with fail
  change Code.wp _ _ _ _ ((w.alloc (.cells (cM (fun _ => 0)) TM)).alloc (.cells (cM (fun _ => 0)) TM))
  rw [← hW0]
  obtain ⟨r, hr⟩ : ∃ r, r = w.heap.size := ⟨_, rfl⟩
  obtain ⟨b, hb⟩ : ∃ b, b = r + 1 := ⟨_, rfl⟩
  rw [← hr] at hA hB ⊢
  rw [← hb] at hB ⊢
  have hrb : r ≠ b := by omega
  have hr0 : w.heap.size ≤ r := by omega
  have hb0 : w.heap.size ≤ b := by omega
  have KA := Lib.hid hA
  have KB := Lib.hid hB
  have K0 := Lib.hid k1
  clear hW0 hr hb hA hB k1
  go_wp2_with fail
  go_loopw [2] (fun a wr => ∃ i : Nat, 1 ≤ i ∧ i ≤ 39 ∧ a = .int .i64 i ∧ Keep w.heap.size [] w wr ∧ Blk wr r TM (cM (fun _ => 0)) ∧ Blk wr b TM (cM (mkU i))) (fun a _ => 39 - (intOf a).toNat)
  case atStart => exact ⟨1, by omega, by omega, rfl, K0.out, KA.out, by rw [cM_ext (g := fun _ => 0) (fun j _ => mkU_0 j)]; exact KB.out⟩
  case round =>
    obtain ⟨i, hi1, hi2, rfl, hk, hra, hrb2⟩ := hrel
    have K1 := Lib.hid hk
    have A1 := Lib.hid hra
    have B1 := Lib.hid hrb2
    clear hk hra hrb2
    by_cases hlt : i < 39
    · have hii : (i : Int) < 39 := by omega
      go_wp2_with fail
      go_loopw [8] (fun kk wv => ∃ k : Nat, k ≤ 6 ∧ kk = .int .i64 k ∧ Keep w.heap.size [] w wv ∧ Blk wv r TM (cM (fun _ => 0)) ∧ Blk wv b TM (cM (fun j => mkU (if j < k then i + 1 else i) j))) (fun kk _ => 6 - (intOf kk).toNat)
      case atStart => exact ⟨0, by omega, rfl, K1.out, A1.out, by rw [cM_ext (g := mkU i) (fun j _ => by simp)]; exact B1.out⟩
      case round =>
        obtain ⟨k, hk6, rfl, hk, hra, hrb2⟩ := hrel
        have K2 := Lib.hid hk
        have A2 := Lib.hid hra
        have B2 := Lib.hid hrb2
        clear hk hra hrb2
        by_cases hkl : k < 6
        · have hki : (k : Int) < 6 := by omega
          obtain ⟨q, hq⟩ : ∃ q, q = i / 2 ^ k := ⟨_, rfl⟩
          have hqi : ((i : Int) / 2 ^ k) = (q : Int) := by rw [hq]; simp
          have hil : q < 9223372036854775808 := by rw [hq]; exact Nat.lt_of_le_of_lt (Nat.div_le_self _ _) (by omega)
          have hand := i64_and1 q hil
          rw [← hqi] at hand
          obtain ⟨m, hm⟩ : ∃ m, m = mkU i k := ⟨_, rfl⟩
          have hc : (cM (fun j => mkU (if j < k then i + 1 else i) j))[k]? = some (.int .u64 (m : Int)) := by rw [cM_at _ _ hkl, hm]; simp
          have x1 : wr.cell? ⟨b, k, none⟩ = some (.int .u64 (m : Int)) := by rw [B2.out.cell]; exact hc
          have z1 := B2.out.frozen k
          have hnext : ∀ v, v = mkU (i + 1) k → cM (fun j => if j = k then v else mkU (if j < k then i + 1 else i) j) = cM (fun j => mkU (if j < k + 1 then i + 1 else i) j) := fun v hv => cM_ext (fun j _ => by
            by_cases h1 : j = k
            · subst h1; simp [hv]
            · have : j < k ↔ j < k + 1 := by omega
              simp only [h1, if_false, this])
          have HN := Lib.hid hnext
          have HM := Lib.hid hm
          have HQ := Lib.hid hq
          clear hil hc hnext hm hq hqi
          by_cases hbit : q % 2 = 1
          · have hand1 : bits BinOp.and IntKind.i64 ((i : Int) / 2 ^ k) 1 = 1 := by rw [hand, hbit]; rfl
            obtain ⟨p2, hp2⟩ : ∃ p, p = 2 ^ i := ⟨_, rfl⟩
            have hp : p2 < 18446744073709551616 := by rw [hp2]; exact Nat.lt_of_lt_of_le (Nat.pow_lt_pow_right (by decide) (by omega : i < 39)) (by decide)
            have hsl : IntKind.u64.wrap (2 ^ i) = (p2 : Int) := by
              have e : (2 : Int) ^ i = (p2 : Int) := by rw [hp2]; simp
              rw [e, u64w _ hp]
            have hml : m < 18446744073709551616 := by rw [HM.out]; exact Nat.lt_trans (mkU_lt i k) (by rw [← hp2]; exact hp)
            obtain ⟨v, hv⟩ : ∃ v, v = m ||| p2 := ⟨_, rfl⟩
            have hor : bits BinOp.or IntKind.u64 (m : Int) (IntKind.u64.wrap (2 ^ i)) = (v : Int) := by rw [hv, hsl]; exact u64_or_nat m p2 hml hp
            have HV : Hid (v = mkU (i + 1) k) := Lib.hid (by rw [hv, HM.out, hp2, mkU, if_pos ⟨hi1, by rw [← HQ.out]; exact hbit⟩])
            clear hand hbit hp2 hv hml hp hsl
            go_wp2_with fail
            go_region
            go_wp2_with fail
            go_roundw
            case rel =>
              refine ⟨k + 1, by omega, by go_num, (K2.out.setN hb0).drew, (A2.out.far (p := ⟨b, k, none⟩) hrb _).drew, ?_⟩
              rw [← HN.out v HV.out, ← cM_set _ _ _ hkl]
              exact (B2.out.set_ k _).drew
            case measure => simp [intOf] <;> omega
          · have hand0 : bits BinOp.and IntKind.i64 ((i : Int) / 2 ^ k) 1 = 0 := by rw [hand, (by omega : q % 2 = 0)]; rfl
            have HV : Hid (m = mkU (i + 1) k) := Lib.hid (by rw [HM.out, mkU, if_neg (by rw [← HQ.out]; omega)])
            clear hand
            go_wp2_with fail
            go_roundw
            case rel =>
              refine ⟨k + 1, by omega, by go_num, K2.out, A2.out, ?_⟩
              have he : cM (fun j => mkU (if j < k + 1 then i + 1 else i) j) = cM (fun j => mkU (if j < k then i + 1 else i) j) := by
                rw [← HN.out m HV.out]
                exact cM_ext (fun j _ => by
                  by_cases h1 : j = k
                  · subst h1; simp [HM.out]
                  · simp [h1])
              rw [he]; exact B2.out
            case measure => simp [intOf] <;> omega
        · obtain rfl : k = 6 := by omega
          go_wp2_with fail
          go_roundw
          case rel =>
            refine ⟨i + 1, by omega, by omega, by go_num, K2.out, A2.out, ?_⟩
            rw [← cM_ext (f := fun j => mkU (if j < 6 then i + 1 else i) j) (fun j hj => by simp [hj])]
            exact B2.out
          case measure => simp [intOf] <;> omega
    · obtain rfl : i = 39 := by omega
      have x0 : wr.cell? ⟨b, 0, none⟩ = some (.int .u64 (mk 0 : Int)) := by rw [← mkU_39 0 (by omega)]; exact B1.out.cell 0
      have y0 : wr.cell? ⟨r, 0, none⟩ = some (.int .u64 0) := A1.out.cell 0
      have z0 := A1.out.frozen 0
      have x1 : wr.cell? ⟨b, 1, none⟩ = some (.int .u64 (mk 1 : Int)) := by rw [← mkU_39 1 (by omega)]; exact B1.out.cell 1
      have y1 : wr.cell? ⟨r, 1, none⟩ = some (.int .u64 0) := A1.out.cell 1
      have z1 := A1.out.frozen 1
      have x2 : wr.cell? ⟨b, 2, none⟩ = some (.int .u64 (mk 2 : Int)) := by rw [← mkU_39 2 (by omega)]; exact B1.out.cell 2
      have y2 : wr.cell? ⟨r, 2, none⟩ = some (.int .u64 0) := A1.out.cell 2
      have z2 := A1.out.frozen 2
      have x3 : wr.cell? ⟨b, 3, none⟩ = some (.int .u64 (mk 3 : Int)) := by rw [← mkU_39 3 (by omega)]; exact B1.out.cell 3
      have y3 : wr.cell? ⟨r, 3, none⟩ = some (.int .u64 0) := A1.out.cell 3
      have z3 := A1.out.frozen 3
      have x4 : wr.cell? ⟨b, 4, none⟩ = some (.int .u64 (mk 4 : Int)) := by rw [← mkU_39 4 (by omega)]; exact B1.out.cell 4
      have y4 : wr.cell? ⟨r, 4, none⟩ = some (.int .u64 0) := A1.out.cell 4
      have z4 := A1.out.frozen 4
      have x5 : wr.cell? ⟨b, 5, none⟩ = some (.int .u64 (mk 5 : Int)) := by rw [← mkU_39 5 (by omega)]; exact B1.out.cell 5
      have y5 : wr.cell? ⟨r, 5, none⟩ = some (.int .u64 0) := A1.out.cell 5
      have z5 := A1.out.frozen 5
      go_wp2_with fail
      refine bodyPost_ret (v := .agg (cM mk)) (by simp [cM, results, Try.results145, go_sem, y0, y1, y2, y3, y4, y5]) rfl ?_
      exact ⟨rfl, (((((K1.out.setN hr0).setN hr0).setN hr0).setN hr0).setN hr0).setN hr0⟩
end Go.Proofs.Ytfkbcflgbjncdaa
