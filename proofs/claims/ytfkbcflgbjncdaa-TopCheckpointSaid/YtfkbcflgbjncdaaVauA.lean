/- The vault: octetsOf. -/
import Derived.Test.YtfkbcflgbjncdaaMemN
import Derived.Test.YtfkbcflgbjncdaaOctV
namespace Go.Proofs.Ytfkbcflgbjncdaa
set_option linter.unusedVariables false
set_option linter.unusedSimpArgs false
open Go.RowKit
def u32s (l : List Nat) : List Value := l.map fun (x : Nat) => Value.int .u32 (x : Int)
def octW (l : List Nat) : List Int := l.flatMap fun (x : Nat) => be (x : Int) 4
theorem octW_len (l : List Nat) : (octW l).length = 4 * l.length := by
  induction l with
  | nil => rfl
  | cons x l ih =>
    have : octW (x :: l) = be (x : Int) 4 ++ octW l := rfl
    rw [this, List.length_append, be_length, ih, List.length_cons]; omega
theorem octW_take {l : List Nat} {k x : Nat} (h : l[k]? = some x) : octW (l.take (k + 1)) = octW (l.take k) ++ be (x : Int) 4 := by
  unfold octW
  rw [List.take_add_one, h, List.flatMap_append]
  simp
theorem u32s_at {l : List Nat} {k : Nat} {u : Value} (h : (u32s l)[k]? = some u) : ∃ x, l[k]? = some x ∧ u = .int .u32 (x : Int) := by
  simp only [u32s, List.getElem?_map] at h
  cases hl : l[k]? with
  | none => rw [hl] at h; cases h
  | some x => rw [hl] at h; exact ⟨x, rfl, (Option.some.inj h).symm⟩
set_option maxHeartbeats 4000000 in
theorem octetsOf_w (w : World) (X : Option Addr) (m c : Nat) (l : List Nat) (hl : ∀ x ∈ l, x < 4294967296) (hv : Vw w X m 1 (u32s l)) (hmc : m ≤ c) (hcm : c ≤ maxLen) (hm : m ≤ 10000) :
    Calls Try.prog 118 #[.slice X m c] w fun e w' => ∃ A n c', e = .returned (.slice A n c') ∧ n = 4 * m ∧ Sl w' 5 1 A n c' (octs (octW l)) ∧ Keep w.heap.size [] w w' ∧ ∀ x, x ∈ blks A → w.heap.size ≤ x := by
  have hml : m = l.length := by have := hv.1; simp [u32s] at this; omega
  have hmcI : (m : Int) ≤ (c : Int) := by omega
  have hcmI : (c : Int) ≤ 9223372036854775807 := by unfold maxLen at hcm; omega
  have HV := Lib.hid hv
  have HL := Lib.hid hl
  have HML := Lib.hid hml
  clear hv hl hml
  go_enter Try.func118, Try.ntmps118
  go_wp2_with fail
  refine (wnew_any _).mono ?_
  rintro e w2 ⟨g, rfl, hg, hw, hk⟩
  have W2 : Hid (WT w w2 g none []) := ⟨hk, hw, hg, by simp [blks]⟩
  clear hg hw hk
  go_wp2_with fail
  go_loopw [9] (fun ii wr => ∃ (k : Nat) (A : Option Addr), k ≤ m ∧ ii = .int .i64 k ∧ WT w wr g A (octW (l.take k))) (fun ii _ => m - (intOf ii).toNat)
  case atStart => exact ⟨0, none, by omega, rfl, by simpa [octW] using W2.out⟩
  case round =>
    obtain ⟨k, A, hk, rfl, hwt⟩ := hrel
    have WW := Lib.hid hwt
    clear hwt
    by_cases hlt : k < m
    · have hki : (k : Int) < (m : Int) := by omega
      obtain ⟨b, o, u, rfl, hb, hu, hc⟩ := (HV.out.keep0 WW.out.keep).at_ hlt
      obtain ⟨x, hx, rfl⟩ := u32s_at hu
      have hxl := HL.out x (List.mem_of_getElem? hx)
      have hs := octW_take hx
      have e1 : IntKind.u64.wrap (x : Int) = (x : Int) := u64w x (by omega)
      have hlen : (octW (l.take k)).length ≤ 40000 := by rw [octW_len, List.length_take]; omega
      have HS := Lib.hid hs
      clear hu hx hs
      go_wp2_with fail
      refine (wuint_z _ g A (octW (l.take k)) (x : Int) 4 4 rfl (by omega) (by omega) (by omega) (by omega) WW.out.wr (by omega)).mono ?_
      rintro e w3 ⟨rfl, A3, hw, hk3, hb3⟩
      have W3 := Lib.hid (WW.out.next hw hk3 hb3)
      clear hw hk3 hb3 hc e1
      go_wp2_with fail
      go_roundw
      case rel => exact ⟨k + 1, A3, by omega, by go_num, by rw [HS.out]; exact W3.out⟩
      case measure => simp [intOf] <;> omega
    · obtain rfl : k = m := by omega
      have hlen : (octW (l.take k)).length ≤ 40000 := by rw [octW_len, List.length_take]; omega
      go_wp2_with fail
      refine (wbytes_any _ g _ _ WW.out.wr (by omega)).mono ?_
      rintro e w4 ⟨A4, n4, c4, rfl, hn, hs, hk4, hb4⟩
      have HS := Lib.hid hs
      have HN := Lib.hid hn
      have K4 := Lib.hid (WW.out.keep.chain0 (Nat.le_refl _) hk4)
      have HB : Hid (∀ x, x ∈ blks A4 → w.heap.size ≤ x) := Lib.hid (fun x hx => Nat.le_trans WW.out.keep.size (hb4 x hx))
      clear hn hs hk4 hb4
      go_wp2_with fail
      go_ret
      have ht : l.take k = l := by rw [HML.out, List.take_length]
      refine ⟨A4, n4, c4, rfl, ?_, by have := HS.out; rw [ht] at this; exact this, K4.out, HB.out⟩
      have := HN.out
      rw [ht, octW_len, ← HML.out] at this
      exact this
end Go.Proofs.Ytfkbcflgbjncdaa
