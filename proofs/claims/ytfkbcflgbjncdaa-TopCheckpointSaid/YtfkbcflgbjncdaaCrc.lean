/- crc.Sum32: a function of the bytes. -/
import Derived.Test.YtfkbcflgbjncdaaEccH
namespace Go.Proofs.Ytfkbcflgbjncdaa
set_option linter.unusedVariables false
set_option linter.unusedSimpArgs false
open Go.RowKit
def cbit (c : Nat) : Nat := if c % 2 = 1 then (c / 2) ^^^ 2197175160 else c / 2
def itc : Nat → Nat → Nat
  | 0, c => c
  | j + 1, c => cbit (itc j c)
def cup (c : Nat) (L : List Int) : Nat := L.foldl (fun c x => itc 8 (c ^^^ x.toNat)) c
def crc (L : List Int) : Nat := 4294967295 ^^^ cup 4294967295 L
theorem cbit_lt {c : Nat} (h : c < 4294967296) : cbit c < 4294967296 := by
  unfold cbit
  split
  · exact Nat.xor_lt_two_pow (n := 32) (by omega) (by decide)
  · omega
theorem itc_lt : ∀ (j : Nat) {c : Nat}, c < 4294967296 → itc j c < 4294967296
  | 0, _, h => h
  | j + 1, _, h => cbit_lt (itc_lt j h)
theorem cx_lt {c : Nat} {x : Int} (h : c < 4294967296) (hx : 0 ≤ x ∧ x ≤ 255) : c ^^^ x.toNat < 4294967296 := Nat.xor_lt_two_pow (n := 32) h (by omega)
theorem cup_lt : ∀ (L : List Int) {c : Nat}, c < 4294967296 → Oct L → cup c L < 4294967296
  | [], _, h, _ => h
  | x :: L, c, h, hO => cup_lt L (itc_lt 8 (cx_lt h (hO x (by simp)))) (fun y hy => hO y (by simp [hy]))
theorem cup_take {L : List Int} {k : Nat} {x : Int} (c : Nat) (h : L[k]? = some x) : cup c (L.take (k + 1)) = itc 8 (cup c (L.take k) ^^^ x.toNat) := by
  unfold cup
  rw [List.take_add_one, h, List.foldl_append]
  rfl
theorem crc_lt {L : List Int} (hO : Oct L) : crc L < 4294967296 := Nat.xor_lt_two_pow (n := 32) (by decide) (cup_lt L (by decide) hO)
theorem octs_at {L : List Int} {k : Nat} {u : Value} (h : (octs L)[k]? = some u) : ∃ x, L[k]? = some x ∧ u = .int .u8 x := by
  simp only [octs, List.getElem?_map] at h
  cases hl : L[k]? with
  | none => rw [hl] at h; cases h
  | some x => rw [hl] at h; exact ⟨x, rfl, (Option.some.inj h).symm⟩
theorem oct_take' {L : List Int} (h : Oct L) (k : Nat) : Oct (L.take k) := fun x hx => h x (List.mem_of_mem_take hx)
set_option maxHeartbeats 4000000 in
theorem update32_w (w : World) (X : Option Addr) (m c : Nat) (L : List Int) (hO : Oct L) (hv : Vw w X m 1 (octs L)) (hmc : m ≤ c) (hcm : c ≤ maxLen) (hm : m ≤ 100000) : Calls Try.prog 149 #[.int .u32 0, .slice X m c] w fun e w' => e = .returned (.int .u32 (crc L : Int)) ∧ w = w' := by
  have hml : m = L.length := by have := hv.1; simp [octs] at this; omega
  have HV := Lib.hid hv
  have HO := Lib.hid hO
  have HML := Lib.hid hml
  have hmcI : (m : Int) ≤ (c : Int) := by omega
  have hcmI : (c : Int) ≤ 9223372036854775807 := by unfold maxLen at hcm; omega
  clear hv hO hml
  go_enter Try.func149, Try.ntmps149
  have e0 : bits BinOp.xor IntKind.u32 IntKind.u32.max 0 = 4294967295 := by decide
  go_wp2_with fail
  clear e0
  go_loopw [0, 11] (fun cc ii wr => ∃ k : Nat, k ≤ m ∧ ii = .int .i64 k ∧ cc = .int .u32 (cup 4294967295 (L.take k) : Int) ∧ wr = w) (fun _ ii _ => m - (intOf ii).toNat)
  case atStart => exact ⟨0, by omega, rfl, by simp [cup], by first | rfl | trivial⟩
  case round =>
    obtain ⟨k, hk, rfl, rfl, rfl⟩ := hrel
    obtain ⟨y, hy⟩ : ∃ y, y = cup 4294967295 (L.take k) := ⟨_, rfl⟩
    have hyl : y < 4294967296 := by rw [hy]; exact cup_lt _ (by decide) (oct_take' HO.out k)
    by_cases hlt : k < m
    · have hki : (k : Int) < (m : Int) := by omega
      obtain ⟨b, o, u, rfl, hb, hu, hc⟩ := HV.out.at_ hlt
      obtain ⟨x, hx, rfl⟩ := octs_at hu
      have hxo := HO.out x (List.mem_of_getElem? hx)
      have hs := cup_take 4294967295 hx
      rw [← hy] at hs ⊢
      obtain ⟨c1, hc1⟩ : ∃ c1, c1 = y ^^^ x.toNat := ⟨_, rfl⟩
      rw [← hc1] at hs
      have hc1l : c1 < 4294967296 := by rw [hc1]; exact cx_lt hyl hxo
      have e1 : IntKind.u32.wrap x = x := by rw [IntKind.wrap_u32]; omega
      have e2 : bits BinOp.xor IntKind.u32 (y : Int) x = (c1 : Int) := by
        have := u32_xor_nat y x.toNat hyl (by omega)
        rw [hc1, ← this]
        congr 1
        omega
      have HS := Lib.hid hs
      clear hu hx hs hc1 hy
      go_wp2_with fail
      clear e1 e2 hc
      go_loopw [0, 21] (fun cc jj wv => ∃ j : Nat, j ≤ 8 ∧ jj = .int .i64 j ∧ cc = .int .u32 (itc j c1 : Int) ∧ wv = wr) (fun _ jj _ => 8 - (intOf jj).toNat)
      case atStart => exact ⟨0, by omega, rfl, rfl, by first | rfl | trivial⟩
      case round =>
        obtain ⟨j, hj, rfl, rfl, rfl⟩ := hrel
        by_cases hjl : j < 8
        · have hji : (j : Int) < 8 := by omega
          obtain ⟨z, hz⟩ : ∃ z, z = itc j c1 := ⟨_, rfl⟩
          have hzl : z < 4294967296 := by rw [hz]; exact itc_lt j hc1l
          rw [← hz]
          have hn : itc (j + 1) c1 = cbit z := by rw [hz]; rfl
          have ea := u32_and_nat z 1 hzl (by decide)
          rw [Nat.and_one_is_mod] at ea
          by_cases hbit : z % 2 = 1
          · have e1 : bits BinOp.and IntKind.u32 (z : Int) 1 = 1 := by rw [show (1 : Int) = ((1 : Nat) : Int) from rfl, ea, hbit]
            have e2 : bits BinOp.xor IntKind.u32 ((z : Int) / 2) 2197175160 = (cbit z : Int) := by
              have := u32_xor_nat (z / 2) 2197175160 (by omega) (by decide)
              unfold cbit
              rw [if_pos hbit, ← this]
              congr 1
            have HN := Lib.hid hn
            clear hz ea hbit hn
            go_wp2_with fail
            go_roundw
            case rel => exact ⟨j + 1, by omega, by go_num, by rw [HN.out], by first | rfl | trivial⟩
            case measure => simp [intOf] <;> omega
          · have e1 : bits BinOp.and IntKind.u32 (z : Int) 1 = 0 := by rw [show (1 : Int) = ((1 : Nat) : Int) from rfl, ea, (by omega : z % 2 = 0)]; rfl
            have e2 : (cbit z : Int) = (z : Int) / 2 := by unfold cbit; rw [if_neg hbit]; omega
            have HN : Hid ((itc (j + 1) c1 : Int) = (z : Int) / 2) := Lib.hid (by rw [hn, e2])
            clear hz ea hbit hn e2
            go_wp2_with fail
            go_roundw
            case rel => exact ⟨j + 1, by omega, by go_num, by rw [HN.out], by first | rfl | trivial⟩
            case measure => simp [intOf] <;> omega
        · obtain rfl : j = 8 := by omega
          go_wp2_with fail
          go_roundw
          case rel => exact ⟨k + 1, by omega, by go_num, by rw [HS.out], by first | rfl | trivial⟩
          case measure => simp [intOf] <;> omega
    · obtain rfl : k = m := by omega
      have e1 : bits BinOp.xor IntKind.u32 IntKind.u32.max (y : Int) = (crc L : Int) := by
        have h := u32_xor_nat 4294967295 y (by decide) hyl
        have ht : y = cup 4294967295 L := by rw [hy, HML.out, List.take_length]
        unfold crc
        rw [← ht, ← h]
        rfl
      rw [← hy]
      have HE := Lib.hid e1
      clear hy e1
      go_wp2_with fail
      go_ret
      exact ⟨by rw [← HE.out]; rfl, rfl⟩
theorem sum32_w (w : World) (X : Option Addr) (m c : Nat) (L : List Int) (hO : Oct L) (hv : Vw w X m 1 (octs L)) (hmc : m ≤ c) (hcm : c ≤ maxLen) (hm : m ≤ 100000) : Calls Try.prog 117 #[.slice X m c] w fun e w' => e = .returned (.int .u32 (crc L : Int)) ∧ w = w' := by
  have HV := Lib.hid hv
  have HO := Lib.hid hO
  clear hv hO
  go_enter Try.func117, Try.ntmps117
  go_wp2_with fail
  refine (update32_w _ X m c L HO.out HV.out hmc hcm hm).mono ?_
  rintro e w' ⟨rfl, rfl⟩
  go_wp2_with fail
  go_ret
  exact ⟨rfl, rfl⟩
end Go.Proofs.Ytfkbcflgbjncdaa
